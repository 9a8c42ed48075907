/- Part of this proof;laid by program. -/
import Derived.Test.YtdogcflaekkdkaaGreatJ14
import Derived.Test.YtdogcflaekkdkaaGreatJ18
import Derived.Test.YtdogcflaekkdkaaGreatJ7
import Derived.Sort.Walk0
import Derived.Shelf.Sort.Plain
import Derived.Shelf.Slices.In.SortNone
set_option linter.unusedVariables false
set_option linter.unusedSimpArgs false
namespace Go.Proofs.YtdogcflaekkdkaaGreat
open Go Go.Vm
set_option maxRecDepth 20000
def zy:Rn.T Rn.FC := .n (.n (.n (.n (.n (.n (.n (.n (.e) (some ⟨3,zkk,zkl⟩) (.e)) (some ⟨1,znW,znX⟩) (.n (.e) (some ⟨2,zJ,zK⟩) (.e))) (some ⟨71,znK,znL⟩) (.n (.n (.e) (some ⟨4,zgF,zgG⟩) (.e)) (some ⟨2,zfd,zfe⟩) (.e))) (some ⟨3,zeZ,ze0⟩) (.n (.n (.n (.e) (some ⟨7,zpB,zpC⟩) (.e)) (some ⟨8,zhz,zhA⟩) (.e)) (some ⟨12,zdy,zdz⟩) (.n (.e) (some ⟨3,zgz,zgA⟩) (.n (.e) (some ⟨6,zkq,zkr⟩) (.e))))) none (.n (.n (.n (.n (.e) (some ⟨4,zes,zet⟩) (.e)) (some ⟨23,zkc,zkd⟩) (.n (.e) (some ⟨5,zhJ,zhK⟩) (.e))) (some ⟨11,zka,zkb⟩) (.n (.e) (some ⟨5,zdM,zdN⟩) (.n (.e) (some ⟨11,zgT,zgU⟩) (.e)))) none (.n (.n (.n (.e) (some ⟨8,zko,zkp⟩) (.e)) (some ⟨10,ziR,ziS⟩) (.e)) (some ⟨41,zdA,zdB⟩) (.n (.n (.e) (some ⟨12,zn7,zn8⟩) (.e)) (some ⟨13,zki,zkj⟩) (.n (.e) (some ⟨21,zao,zap⟩) (.e)))))) none (.n (.n (.n (.n (.e) (some ⟨3,zem,zen⟩) (.e)) (some ⟨91,ze5,ze6⟩) (.n (.n (.e) (some ⟨9,zew,zex⟩) (.e)) none (.n (.e) (some ⟨13,zgR,zgS⟩) (.e)))) none (.n (.n (.n (.e) (some ⟨5,zbe,zbf⟩) (.e)) (some ⟨13,zgr,zgs⟩) (.e)) (some ⟨9,zgn,zgo⟩) (.n (.n (.e) (some ⟨6,zpD,zpE⟩) (.e)) (some ⟨4,zb5,zb6⟩) (.n (.e) (some ⟨21,zaB,zaC⟩) (.e))))) (some ⟨8,ziF,ziG⟩) (.n (.n (.n (.n (.e) (some ⟨1,zfl,zfm⟩) (.e)) (some ⟨30,zdE,zdF⟩) (.n (.e) (some ⟨4,zi1,zi2⟩) (.e))) (some ⟨24,zgh,zgi⟩) (.n (.n (.e) (some ⟨9,zgL,zgM⟩) (.e)) none (.e))) (some ⟨7,zpr,zps⟩) (.n (.n (.n (.e) (some ⟨7,zmP,zmQ⟩) (.e)) (some ⟨5,zlE,zlF⟩) (.e)) (some ⟨25,zlC,zlD⟩) (.n (.e) (some ⟨14,zeo,zep⟩) (.n (.e) (some ⟨3,zks,zkt⟩) (.e))))))) none (.n (.n (.n (.n (.n (.n (.e) (some ⟨17,zkm,zkn⟩) (.e)) (some ⟨6,zdC,zdD⟩) (.n (.e) (some ⟨2,z7,z8⟩) (.e))) (some ⟨3,ze3,ze4⟩) (.n (.n (.e) (some ⟨6,zgH,zgI⟩) (.e)) none (.n (.e) (some ⟨25,zpH,zpI⟩) (.e)))) (some ⟨6,ze1,ze2⟩) (.n (.n (.n (.n (.e) (some ⟨10,zY,zZ⟩) (.e)) (some ⟨58,zmN,zmO⟩) (.e)) (some ⟨4,ziP,ziQ⟩) (.e)) (some ⟨5,zgl,zgm⟩) (.n (.n (.e) (some ⟨6,zlK,zlL⟩) (.e)) (some ⟨52,zb3,zb4⟩) (.n (.e) (some ⟨10,zaJ,zaK⟩) (.e))))) (some ⟨12,zlA,zlB⟩) (.n (.n (.n (.n (.e) (some ⟨5,zfh,zfi⟩) (.e)) none (.n (.e) (some ⟨77,zcY,zcZ⟩) (.e))) (some ⟨4,ziH,ziI⟩) (.e)) none (.n (.n (.n (.e) (some ⟨3,zhD,zhE⟩) (.e)) none (.e)) (some ⟨4,znS,znT⟩) (.n (.n (.e) (some ⟨8,ziZ,zi0⟩) (.e)) (some ⟨4,ziT,ziU⟩) (.n (.e) (some ⟨7,zdW,zdX⟩) (.e)))))) none (.n (.n (.n (.n (.n (.n (.e) (some ⟨8,zlP,zlQ⟩) (.e)) (some ⟨29,zeq,zer⟩) (.e)) (some ⟨66,ze9,zfa⟩) (.n (.e) (some ⟨3,zmT,zmU⟩) (.e))) (some ⟨3,zbD,zbE⟩) (.n (.e) (some ⟨26,zpx,zpy⟩) (.n (.e) (some ⟨12,zfv,zfw⟩) (.e)))) (some ⟨63,zgf,zgg⟩) (.n (.n (.e) (some ⟨42,zpv,zpw⟩) (.e)) none (.n (.n (.e) (some ⟨7,zlM,zlN⟩) (.e)) (some ⟨5,zn1,zn2⟩) (.e)))) (some ⟨6,zgd,zge⟩) (.n (.n (.n (.n (.n (.e) (some ⟨4,zbu,zbv⟩) (.e)) none (.e)) (some ⟨4,ziN,ziO⟩) (.n (.e) (some ⟨5,zn9,zoa⟩) (.e))) (some ⟨7,ze7,ze8⟩) (.n (.n (.n (.e) (some ⟨19,zaD,zaE⟩) (.e)) none (.e)) (some ⟨3,zkg,zkh⟩) (.n (.e) (some ⟨13,zi3,zi4⟩) (.e)))) none (.n (.n (.n (.e) (some ⟨5,zmR,zmS⟩) (.e)) (some ⟨1,zcw,zcx⟩) (.n (.e) (some ⟨6,zc0,zc1⟩) (.e))) (some ⟨4,zpt,zpu⟩) (.n (.n (.e) (some ⟨17,zpF,zpG⟩) (.e)) (some ⟨25,zhB,zhC⟩) (.n (.e) (some ⟨7,zku,zkv⟩) (.e)))))))) none (.n (.n (.n (.n (.n (.n (.n (.e) (some ⟨10,zn3,zn4⟩) (.e)) (some ⟨3,zbF,zbG⟩) (.e)) (some ⟨6,zj8,zj9⟩) (.n (.n (.e) (some ⟨5,zbg,zbh⟩) (.e)) none (.e))) (some ⟨66,zds,zdt⟩) (.n (.n (.n (.e) (some ⟨9,zmL,zmM⟩) (.e)) (some ⟨5,zfb,zfc⟩) (.n (.e) (some ⟨8,zah,zai⟩) (.e))) (some ⟨10,zgj,zgk⟩) (.n (.n (.e) (some ⟨1,zcC,zcD⟩) (.e)) (some ⟨3,zbH,zbI⟩) (.e)))) (some ⟨6,zj4,zj5⟩) (.n (.n (.n (.n (.e) (some ⟨7,zeu,zev⟩) (.e)) (some ⟨4,zke,zkf⟩) (.e)) (some ⟨6,zdw,zdx⟩) (.n (.e) (some ⟨46,zdO,zdP⟩) (.n (.e) (some ⟨16,zeE,zeF⟩) (.e)))) none (.n (.n (.n (.e) (some ⟨19,zaY,zaZ⟩) (.e)) (some ⟨5,zbc,zbd⟩) (.e)) (some ⟨5,znQ,znR⟩) (.n (.n (.e) (some ⟨5,zgN,zgO⟩) (.e)) (some ⟨11,zgB,zgC⟩) (.e))))) none (.n (.n (.n (.n (.n (.n (.e) (some ⟨5,zod,zoe⟩) (.e)) none (.e)) (some ⟨14,zgp,zgq⟩) (.n (.e) (some ⟨11,zhH,zhI⟩) (.e))) none (.n (.n (.e) (some ⟨14,zcA,zcB⟩) (.e)) (some ⟨3,zcy,zcz⟩) (.n (.e) (some ⟨3,zdU,zdV⟩) (.e)))) none (.n (.n (.e) (some ⟨4,zgt,zgu⟩) (.e)) (some ⟨21,zcs,zct⟩) (.n (.n (.e) (some ⟨3,zhF,zhG⟩) (.e)) (some ⟨4,zlG,zlH⟩) (.n (.e) (some ⟨12,zob,zoc⟩) (.e))))) (some ⟨11,zek,zel⟩) (.n (.n (.n (.n (.e) (some ⟨52,zfn,zfo⟩) (.e)) (some ⟨2,zdG,zdH⟩) (.n (.e) (some ⟨3,zmV,zmW⟩) (.e))) (some ⟨6,zht,zhu⟩) (.e)) none (.n (.n (.n (.e) (some ⟨5,zlI,zlJ⟩) (.e)) (some ⟨12,zcU,zcV⟩) (.n (.e) (some ⟨3,zeC,zeD⟩) (.e))) (some ⟨17,ziL,ziM⟩) (.n (.n (.n (.e) (some ⟨8,z1,z2⟩) (.e)) none (.e)) (some ⟨3,zb7,zb8⟩) (.n (.e) (some ⟨4,zbL,zbM⟩) (.e))))))) none (.n (.n (.n (.n (.n (.n (.e) (some ⟨3,zpz,zpA⟩) (.e)) (some ⟨13,zcu,zcv⟩) (.e)) (some ⟨11,zbo,zbp⟩) (.n (.n (.n (.e) (some ⟨10,zP,zQ⟩) (.e)) none (.e)) (some ⟨4,zgv,zgw⟩) (.n (.e) (some ⟨16,zft,zfu⟩) (.e)))) (some ⟨4,zcq,zcr⟩) (.n (.n (.n (.e) (some ⟨5,zb9,zca⟩) (.e)) none (.e)) (some ⟨12,zhv,zhw⟩) (.n (.n (.e) (some ⟨6,ziV,ziW⟩) (.e)) (some ⟨37,zbs,zbt⟩) (.e)))) (some ⟨1,zj6,zj7⟩) (.n (.n (.n (.n (.e) (some ⟨1,zfj,zfk⟩) (.e)) none (.n (.e) (some ⟨3,zey,zez⟩) (.e))) (some ⟨3,zbq,zbr⟩) (.n (.n (.n (.e) (some ⟨12,zc2,zc3⟩) (.e)) (some ⟨31,zbJ,zbK⟩) (.e)) (some ⟨5,zb1,zb2⟩) (.e))) (some ⟨7,zmJ,zmK⟩) (.n (.n (.n (.n (.e) (some ⟨10,zL,zM⟩) (.e)) none (.e)) (some ⟨30,zdK,zdL⟩) (.n (.e) (some ⟨3,zfr,zfs⟩) (.e))) none (.n (.n (.e) (some ⟨2,zas,zat⟩) (.e)) (some ⟨18,zdS,zdT⟩) (.n (.e) (some ⟨7,zcG,zcH⟩) (.e)))))) (some ⟨5,zly,zlz⟩) (.n (.n (.n (.n (.n (.n (.e) (some ⟨1,za0,za1⟩) (.e)) (some ⟨13,zgD,zgE⟩) (.e)) (some ⟨4,zhx,zhy⟩) (.n (.e) (some ⟨4,zcE,zcF⟩) (.e))) (some ⟨16,zdu,zdv⟩) (.n (.n (.e) (some ⟨7,zgJ,zgK⟩) (.e)) (some ⟨6,zgx,zgy⟩) (.n (.e) (some ⟨8,zfx,zfy⟩) (.e)))) none (.n (.n (.e) (some ⟨11,zdI,zdJ⟩) (.e)) none (.n (.n (.e) (some ⟨5,ziX,ziY⟩) (.e)) (some ⟨9,zff,zfg⟩) (.n (.e) (some ⟨21,z9,zaa⟩) (.e))))) none (.n (.n (.n (.n (.e) (some ⟨4,zfp,zfq⟩) (.e)) (some ⟨41,znY,znZ⟩) (.n (.e) (some ⟨5,zeA,zeB⟩) (.e))) (some ⟨3,ziJ,ziK⟩) (.n (.n (.e) (some ⟨12,zn5,zn6⟩) (.e)) (some ⟨8,zdQ,zdR⟩) (.n (.e) (some ⟨5,zi5,zi6⟩) (.e)))) (some ⟨4,znI,znJ⟩) (.n (.n (.n (.e) (some ⟨5,zcW,zcX⟩) (.e)) none (.n (.e) (some ⟨9,zcb,zcc⟩) (.e))) (some ⟨15,znU,znV⟩) (.e))))))
theorem zBw:Rn.Worth Tryz.prog F.zda ⟨5,zly,zlz⟩:=fun hn h=>zzm (Nat.le_trans hn (by decide)) h
theorem zzR:Rn.Worth Tryz.prog F.za6 ⟨6,zj4,zj5⟩:=fun hn h=>zx0 (Nat.le_trans hn (by decide)) h
theorem zBx:Rn.Worth Tryz.prog F.zlq ⟨12,zlA,zlB⟩:=fun hn h=>zzp (Nat.le_trans hn (by decide)) h
theorem zzS:Rn.Worth Tryz.prog F.zj2 ⟨1,zj6,zj7⟩:=fun hn h=>zx1 (Nat.le_trans hn (by decide)) h
theorem ztC:Rn.Worth Tryz.prog F.zcf ⟨11,zek,zel⟩:=fun hn h=>zr1 (Nat.le_trans hn (by decide)) h
theorem zv3:Rn.Worth Tryz.prog F.za8 ⟨6,zgd,zge⟩:=fun hn h=>zt7 (Nat.le_trans hn (by decide)) h
theorem zsg:Rn.Worth Tryz.prog F.za2 ⟨66,zds,zdt⟩:=fun hn h=>zrq (Nat.le_trans hn (by decide)) h
theorem zqR:Rn.Worth Tryz.prog F.za9 ⟨4,zcq,zcr⟩:=fun hn h=>zpY (Nat.le_trans hn (by decide)) h
theorem zv4:Rn.Worth Tryz.prog F.zj ⟨63,zgf,zgg⟩:=fun hn h=>zt8 (Nat.le_trans hn (by decide)) h
theorem zCp:Rn.Worth Tryz.prog F.zc6 ⟨7,zmJ,zmK⟩:=fun hn h=>zAI (Nat.le_trans hn (by decide)) h
theorem zGk:Rn.Worth Tryz.prog F.zab ⟨7,zpr,zps⟩:=fun hn h=>zDp (Nat.le_trans hn (by decide)) h
theorem zEa:Rn.Worth Tryz.prog F.znE ⟨4,znI,znJ⟩:=fun hn h=>zB4 (Nat.le_trans hn (by decide)) h
theorem zEb:Rn.Worth Tryz.prog F.znF ⟨71,znK,znL⟩:=fun hn h=>zB5 (Nat.le_trans hn (by decide)) h
theorem zzT:Rn.Worth Tryz.prog F.zi ⟨6,zj8,zj9⟩:=fun hn h=>zx6 (Nat.le_trans hn (by decide)) h
theorem zuE:Rn.Worth Tryz.prog F.zav ⟨3,ze3,ze4⟩:=fun hn h=>zsX (Nat.le_trans hn (by decide)) h
theorem zoU:Rn.Worth Tryz.prog F.zdb ⟨11,zbo,zbp⟩:=fun hn h=>znM (Nat.le_trans hn (by decide)) h
theorem zuF:Rn.Worth Tryz.prog F.zaw ⟨91,ze5,ze6⟩:=fun hn h=>zsY (Nat.le_trans hn (by decide)) h
theorem zpb:Rn.Worth Tryz.prog F.zbC ⟨3,zbD,zbE⟩:=fun hn h=>zoH (Nat.le_trans hn (by decide)) h
theorem zsh:Rn.Worth Tryz.prog F.zhe ⟨16,zdu,zdv⟩:=fun hn h=>zrr (Nat.le_trans hn (by decide)) h
theorem zzU:Rn.Worth Tryz.prog F.zng ⟨11,zka,zkb⟩:=fun hn h=>zx7 (Nat.le_trans hn (by decide)) h
theorem zsi:Rn.Worth Tryz.prog F.zhf ⟨6,zdw,zdx⟩:=fun hn h=>zrs (Nat.le_trans hn (by decide)) h
theorem zyG:Rn.Worth Tryz.prog F.zmf ⟨4,ziH,ziI⟩:=fun hn h=>zw0 (Nat.le_trans hn (by decide)) h
theorem zoV:Rn.Worth Tryz.prog F.zN ⟨3,zbq,zbr⟩:=fun hn h=>znN (Nat.le_trans hn (by decide)) h
theorem zv5:Rn.Worth Tryz.prog F.zkw ⟨24,zgh,zgi⟩:=fun hn h=>zub (Nat.le_trans hn (by decide)) h
theorem zyH:Rn.Worth Tryz.prog F.zfC ⟨3,ziJ,ziK⟩:=fun hn h=>zw1 (Nat.le_trans hn (by decide)) h
theorem zsj:Rn.Worth Tryz.prog F.zhg ⟨12,zdy,zdz⟩:=fun hn h=>zrt (Nat.le_trans hn (by decide)) h
theorem zv6:Rn.Worth Tryz.prog F.zbR ⟨10,zgj,zgk⟩:=fun hn h=>zuc (Nat.le_trans hn (by decide)) h
theorem zv7:Rn.Worth Tryz.prog F.zkx ⟨5,zgl,zgm⟩:=fun hn h=>zud (Nat.le_trans hn (by decide)) h
theorem zxz:Rn.Worth Tryz.prog F.zls ⟨12,zhv,zhw⟩:=fun hn h=>zvy (Nat.le_trans hn (by decide)) h
theorem zv8:Rn.Worth Tryz.prog F.zdc ⟨9,zgn,zgo⟩:=fun hn h=>zue (Nat.le_trans hn (by decide)) h
theorem zqS:Rn.Worth Tryz.prog F.zfD ⟨21,zcs,zct⟩:=fun hn h=>zpZ (Nat.le_trans hn (by decide)) h
theorem zsk:Rn.Worth Tryz.prog F.zbN ⟨41,zdA,zdB⟩:=fun hn h=>zru (Nat.le_trans hn (by decide)) h
theorem zEc:Rn.Worth Tryz.prog F.zam ⟨5,znQ,znR⟩:=fun hn h=>zB6 (Nat.le_trans hn (by decide)) h
theorem zEd:Rn.Worth Tryz.prog F.zf3 ⟨4,znS,znT⟩:=fun hn h=>zB7 (Nat.le_trans hn (by decide)) h
theorem zBy:Rn.Worth Tryz.prog F.zoy ⟨25,zlC,zlD⟩:=fun hn h=>zzq (Nat.le_trans hn (by decide)) h
theorem zyI:Rn.Worth Tryz.prog F.zmg ⟨17,ziL,ziM⟩:=fun hn h=>zw2 (Nat.le_trans hn (by decide)) h
theorem zGl:Rn.Worth Tryz.prog F.zsM ⟨4,zpt,zpu⟩:=fun hn h=>zDq (Nat.le_trans hn (by decide)) h
theorem zEe:Rn.Worth Tryz.prog F.zrd ⟨15,znU,znV⟩:=fun hn h=>zB8 (Nat.le_trans hn (by decide)) h
theorem zEf:Rn.Worth Tryz.prog F.zre ⟨1,znW,znX⟩:=fun hn h=>zB9 (Nat.le_trans hn (by decide)) h
theorem zpc:Rn.Worth Tryz.prog F.zaS ⟨3,zbF,zbG⟩:=fun hn h=>zoI (Nat.le_trans hn (by decide)) h
theorem zsl:Rn.Worth Tryz.prog F.zhh ⟨6,zdC,zdD⟩:=fun hn h=>zrv (Nat.le_trans hn (by decide)) h
theorem zqT:Rn.Worth Tryz.prog F.zae ⟨13,zcu,zcv⟩:=fun hn h=>zp0 (Nat.le_trans hn (by decide)) h
theorem ztD:Rn.Worth Tryz.prog F.zed ⟨3,zem,zen⟩:=fun hn h=>zr4 (Nat.le_trans hn (by decide)) h
theorem zv9:Rn.Worth Tryz.prog F.zky ⟨14,zgp,zgq⟩:=fun hn h=>zuf (Nat.le_trans hn (by decide)) h
theorem zuG:Rn.Worth Tryz.prog F.zjg ⟨66,ze9,zfa⟩:=fun hn h=>zs2 (Nat.le_trans hn (by decide)) h
theorem zxA:Rn.Worth Tryz.prog F.zlt ⟨4,zhx,zhy⟩:=fun hn h=>zvz (Nat.le_trans hn (by decide)) h
theorem zzV:Rn.Worth Tryz.prog F.znh ⟨23,zkc,zkd⟩:=fun hn h=>zya (Nat.le_trans hn (by decide)) h
theorem zzW:Rn.Worth Tryz.prog F.zni ⟨4,zke,zkf⟩:=fun hn h=>zyb (Nat.le_trans hn (by decide)) h
theorem zsm:Rn.Worth Tryz.prog F.zdq ⟨30,zdE,zdF⟩:=fun hn h=>zrw (Nat.le_trans hn (by decide)) h
theorem zsn:Rn.Worth Tryz.prog F.zhi ⟨2,zdG,zdH⟩:=fun hn h=>zrx (Nat.le_trans hn (by decide)) h
theorem zyJ:Rn.Worth Tryz.prog F.zmh ⟨4,ziN,ziO⟩:=fun hn h=>zw3 (Nat.le_trans hn (by decide)) h
theorem zEg:Rn.Worth Tryz.prog F.zbm ⟨41,znY,znZ⟩:=fun hn h=>zCa (Nat.le_trans hn (by decide)) h
theorem zxB:Rn.Worth Tryz.prog F.zee ⟨8,zhz,zhA⟩:=fun hn h=>zvA (Nat.le_trans hn (by decide)) h
theorem zuH:Rn.Worth Tryz.prog F.zjh ⟨5,zfb,zfc⟩:=fun hn h=>zs3 (Nat.le_trans hn (by decide)) h
theorem zyK:Rn.Worth Tryz.prog F.zmi ⟨4,ziP,ziQ⟩:=fun hn h=>zw4 (Nat.le_trans hn (by decide)) h
theorem zwa:Rn.Worth Tryz.prog F.zkz ⟨13,zgr,zgs⟩:=fun hn h=>zug (Nat.le_trans hn (by decide)) h
theorem zwb:Rn.Worth Tryz.prog F.zan ⟨4,zgt,zgu⟩:=fun hn h=>zuh (Nat.le_trans hn (by decide)) h
theorem zGm:Rn.Worth Tryz.prog F.zsN ⟨42,zpv,zpw⟩:=fun hn h=>zDr (Nat.le_trans hn (by decide)) h
theorem zso:Rn.Worth Tryz.prog F.zhj ⟨11,zdI,zdJ⟩:=fun hn h=>zry (Nat.le_trans hn (by decide)) h
theorem zyL:Rn.Worth Tryz.prog F.zmj ⟨10,ziR,ziS⟩:=fun hn h=>zw5 (Nat.le_trans hn (by decide)) h
theorem zoi:Rn.Worth Tryz.prog F.zcS ⟨5,zbc,zbd⟩:=fun hn h=>znn (Nat.le_trans hn (by decide)) h
theorem zsp:Rn.Worth Tryz.prog F.zhk ⟨30,zdK,zdL⟩:=fun hn h=>zrz (Nat.le_trans hn (by decide)) h
theorem zrQ:Rn.Worth Tryz.prog F.zf4 ⟨12,zcU,zcV⟩:=fun hn h=>zqA (Nat.le_trans hn (by decide)) h
theorem zqU:Rn.Worth Tryz.prog F.zcn ⟨1,zcw,zcx⟩:=fun hn h=>zp1 (Nat.le_trans hn (by decide)) h
theorem zuI:Rn.Worth Tryz.prog F.zcL ⟨2,zfd,zfe⟩:=fun hn h=>zs4 (Nat.le_trans hn (by decide)) h
theorem zwc:Rn.Worth Tryz.prog F.zdd ⟨4,zgv,zgw⟩:=fun hn h=>zuk (Nat.le_trans hn (by decide)) h
theorem zqV:Rn.Worth Tryz.prog F.zba ⟨3,zcy,zcz⟩:=fun hn h=>zp2 (Nat.le_trans hn (by decide)) h
theorem zGn:Rn.Worth Tryz.prog F.zsO ⟨26,zpx,zpy⟩:=fun hn h=>zDs (Nat.le_trans hn (by decide)) h
theorem zwd:Rn.Worth Tryz.prog F.zkA ⟨6,zgx,zgy⟩:=fun hn h=>zul (Nat.le_trans hn (by decide)) h
theorem zsq:Rn.Worth Tryz.prog F.zbO ⟨5,zdM,zdN⟩:=fun hn h=>zrA (Nat.le_trans hn (by decide)) h
theorem zsr:Rn.Worth Tryz.prog F.zdr ⟨46,zdO,zdP⟩:=fun hn h=>zrB (Nat.le_trans hn (by decide)) h
theorem zqi:Rn.Worth Tryz.prog F.z6 ⟨5,zb1,zb2⟩:=fun hn h=>zo1 (Nat.le_trans hn (by decide)) h
theorem zzX:Rn.Worth Tryz.prog F.zcI ⟨3,zkg,zkh⟩:=fun hn h=>zye (Nat.le_trans hn (by decide)) h
theorem zss:Rn.Worth Tryz.prog F.zbP ⟨8,zdQ,zdR⟩:=fun hn h=>zrC (Nat.le_trans hn (by decide)) h
theorem zwe:Rn.Worth Tryz.prog F.zbS ⟨3,zgz,zgA⟩:=fun hn h=>zum (Nat.le_trans hn (by decide)) h
theorem zpd:Rn.Worth Tryz.prog F.zd2 ⟨3,zbH,zbI⟩:=fun hn h=>zoJ (Nat.le_trans hn (by decide)) h
theorem zqj:Rn.Worth Tryz.prog F.zeJ ⟨52,zb3,zb4⟩:=fun hn h=>zo2 (Nat.le_trans hn (by decide)) h
theorem zoW:Rn.Worth Tryz.prog F.zde ⟨37,zbs,zbt⟩:=fun hn h=>zn0 (Nat.le_trans hn (by decide)) h
theorem zqk:Rn.Worth Tryz.prog F.zeK ⟨4,zb5,zb6⟩:=fun hn h=>zo3 (Nat.le_trans hn (by decide)) h
theorem zBz:Rn.Worth Tryz.prog F.zoB ⟨4,zlG,zlH⟩:=fun hn h=>zzu (Nat.le_trans hn (by decide)) h
theorem zEh:Rn.Worth Tryz.prog F.zrf ⟨5,zn1,zn2⟩:=fun hn h=>zCb (Nat.le_trans hn (by decide)) h
theorem zuJ:Rn.Worth Tryz.prog F.zeX ⟨9,zff,zfg⟩:=fun hn h=>zs5 (Nat.le_trans hn (by decide)) h
theorem zzY:Rn.Worth Tryz.prog F.znj ⟨13,zki,zkj⟩:=fun hn h=>zyf (Nat.le_trans hn (by decide)) h
theorem zwf:Rn.Worth Tryz.prog F.zkB ⟨11,zgB,zgC⟩:=fun hn h=>zun (Nat.le_trans hn (by decide)) h
theorem zyM:Rn.Worth Tryz.prog F.ziA ⟨4,ziT,ziU⟩:=fun hn h=>zw8 (Nat.le_trans hn (by decide)) h
theorem zst:Rn.Worth Tryz.prog F.zbQ ⟨18,zdS,zdT⟩:=fun hn h=>zrD (Nat.le_trans hn (by decide)) h
theorem ztE:Rn.Worth Tryz.prog F.zh5 ⟨14,zeo,zep⟩:=fun hn h=>zr7 (Nat.le_trans hn (by decide)) h
theorem zql:Rn.Worth Tryz.prog F.zeL ⟨3,zb7,zb8⟩:=fun hn h=>zo4 (Nat.le_trans hn (by decide)) h
theorem zxC:Rn.Worth Tryz.prog F.zlu ⟨25,zhB,zhC⟩:=fun hn h=>zvD (Nat.le_trans hn (by decide)) h
theorem zzZ:Rn.Worth Tryz.prog F.zd7 ⟨3,zkk,zkl⟩:=fun hn h=>zyg (Nat.le_trans hn (by decide)) h
theorem zEi:Rn.Worth Tryz.prog F.zbn ⟨10,zn3,zn4⟩:=fun hn h=>zCc (Nat.le_trans hn (by decide)) h
theorem zz0:Rn.Worth Tryz.prog F.znk ⟨17,zkm,zkn⟩:=fun hn h=>zyh (Nat.le_trans hn (by decide)) h
theorem zGo:Rn.Worth Tryz.prog F.zsP ⟨3,zpz,zpA⟩:=fun hn h=>zDt (Nat.le_trans hn (by decide)) h
theorem ztF:Rn.Worth Tryz.prog F.zcg ⟨29,zeq,zer⟩:=fun hn h=>zr8 (Nat.le_trans hn (by decide)) h
theorem zwg:Rn.Worth Tryz.prog F.zdf ⟨13,zgD,zgE⟩:=fun hn h=>zuo (Nat.le_trans hn (by decide)) h
theorem ztG:Rn.Worth Tryz.prog F.zh6 ⟨4,zes,zet⟩:=fun hn h=>zr9 (Nat.le_trans hn (by decide)) h
theorem ztH:Rn.Worth Tryz.prog F.zh7 ⟨7,zeu,zev⟩:=fun hn h=>zsa (Nat.le_trans hn (by decide)) h
theorem zuK:Rn.Worth Tryz.prog F.zji ⟨5,zfh,zfi⟩:=fun hn h=>zs6 (Nat.le_trans hn (by decide)) h
theorem zuL:Rn.Worth Tryz.prog F.zcM ⟨1,zfj,zfk⟩:=fun hn h=>zs7 (Nat.le_trans hn (by decide)) h
theorem zuM:Rn.Worth Tryz.prog F.zeY ⟨1,zfl,zfm⟩:=fun hn h=>zs8 (Nat.le_trans hn (by decide)) h
theorem zuN:Rn.Worth Tryz.prog F.zjj ⟨52,zfn,zfo⟩:=fun hn h=>zs9 (Nat.le_trans hn (by decide)) h
theorem zuO:Rn.Worth Tryz.prog F.zjk ⟨4,zfp,zfq⟩:=fun hn h=>zta (Nat.le_trans hn (by decide)) h
theorem zGp:Rn.Worth Tryz.prog F.zm2 ⟨7,zpB,zpC⟩:=fun hn h=>zDu (Nat.le_trans hn (by decide)) h
theorem zCq:Rn.Worth Tryz.prog F.zjJ ⟨9,zmL,zmM⟩:=fun hn h=>zAN (Nat.le_trans hn (by decide)) h
theorem zCr:Rn.Worth Tryz.prog F.zmH ⟨58,zmN,zmO⟩:=fun hn h=>zAO (Nat.le_trans hn (by decide)) h
theorem zqm:Rn.Worth Tryz.prog F.zeM ⟨5,zb9,zca⟩:=fun hn h=>zo5 (Nat.le_trans hn (by decide)) h
theorem zoj:Rn.Worth Tryz.prog F.zcT ⟨5,zbe,zbf⟩:=fun hn h=>zno (Nat.le_trans hn (by decide)) h
theorem zz1:Rn.Worth Tryz.prog F.zgY ⟨8,zko,zkp⟩:=fun hn h=>zyi (Nat.le_trans hn (by decide)) h
theorem znd:Rn.Worth Tryz.prog F.zal ⟨19,zaY,zaZ⟩:=fun hn h=>zmn (Nat.le_trans hn (by decide)) h
theorem zxD:Rn.Worth Tryz.prog F.zaX ⟨3,zhD,zhE⟩:=fun hn h=>zvE (Nat.le_trans hn (by decide)) h
theorem zCs:Rn.Worth Tryz.prog F.zmI ⟨7,zmP,zmQ⟩:=fun hn h=>zAP (Nat.le_trans hn (by decide)) h
theorem zBA:Rn.Worth Tryz.prog F.zdg ⟨5,zlI,zlJ⟩:=fun hn h=>zzB (Nat.le_trans hn (by decide)) h
theorem zCt:Rn.Worth Tryz.prog F.zjL ⟨5,zmR,zmS⟩:=fun hn h=>zAQ (Nat.le_trans hn (by decide)) h
theorem zrR:Rn.Worth Tryz.prog F.zf5 ⟨5,zcW,zcX⟩:=fun hn h=>zqH (Nat.le_trans hn (by decide)) h
theorem zwh:Rn.Worth Tryz.prog F.zdh ⟨4,zgF,zgG⟩:=fun hn h=>zur (Nat.le_trans hn (by decide)) h
theorem zok:Rn.Worth Tryz.prog F.zaA ⟨5,zbg,zbh⟩:=fun hn h=>znp (Nat.le_trans hn (by decide)) h
theorem zwi:Rn.Worth Tryz.prog F.zdi ⟨6,zgH,zgI⟩:=fun hn h=>zus (Nat.le_trans hn (by decide)) h
theorem ztI:Rn.Worth Tryz.prog F.zef ⟨9,zew,zex⟩:=fun hn h=>zsb (Nat.le_trans hn (by decide)) h
theorem zqW:Rn.Worth Tryz.prog F.zco ⟨14,zcA,zcB⟩:=fun hn h=>zp9 (Nat.le_trans hn (by decide)) h
theorem zwj:Rn.Worth Tryz.prog F.zf6 ⟨7,zgJ,zgK⟩:=fun hn h=>zut (Nat.le_trans hn (by decide)) h
theorem zpe:Rn.Worth Tryz.prog F.zd3 ⟨31,zbJ,zbK⟩:=fun hn h=>zoK (Nat.le_trans hn (by decide)) h
theorem zwk:Rn.Worth Tryz.prog F.zdj ⟨9,zgL,zgM⟩:=fun hn h=>zuu (Nat.le_trans hn (by decide)) h
theorem zEj:Rn.Worth Tryz.prog F.zrg ⟨12,zn5,zn6⟩:=fun hn h=>zCd (Nat.le_trans hn (by decide)) h
theorem zqX:Rn.Worth Tryz.prog F.zcp ⟨1,zcC,zcD⟩:=fun hn h=>zqa (Nat.le_trans hn (by decide)) h
theorem zBB:Rn.Worth Tryz.prog F.zlv ⟨6,zlK,zlL⟩:=fun hn h=>zzE (Nat.le_trans hn (by decide)) h
theorem zyN:Rn.Worth Tryz.prog F.ziB ⟨6,ziV,ziW⟩:=fun hn h=>zxd (Nat.le_trans hn (by decide)) h
theorem zGq:Rn.Worth Tryz.prog F.zpn ⟨6,zpD,zpE⟩:=fun hn h=>zDz (Nat.le_trans hn (by decide)) h
theorem zxE:Rn.Worth Tryz.prog F.zeg ⟨3,zhF,zhG⟩:=fun hn h=>zvF (Nat.le_trans hn (by decide)) h
theorem zBC:Rn.Worth Tryz.prog F.zoC ⟨7,zlM,zlN⟩:=fun hn h=>zzF (Nat.le_trans hn (by decide)) h
theorem zyO:Rn.Worth Tryz.prog F.zbT ⟨5,ziX,ziY⟩:=fun hn h=>zxe (Nat.le_trans hn (by decide)) h
theorem zEk:Rn.Worth Tryz.prog F.za7 ⟨12,zn7,zn8⟩:=fun hn h=>zCe (Nat.le_trans hn (by decide)) h
theorem zwl:Rn.Worth Tryz.prog F.zf7 ⟨5,zgN,zgO⟩:=fun hn h=>zuv (Nat.le_trans hn (by decide)) h
theorem zyP:Rn.Worth Tryz.prog F.zmk ⟨8,ziZ,zi0⟩:=fun hn h=>zxf (Nat.le_trans hn (by decide)) h
theorem zlh:Rn.Worth Tryz.prog F.zbi ⟨2,zas,zat⟩:=fun hn h=>zkG (Nat.le_trans hn (by decide)) h
theorem zGr:Rn.Worth Tryz.prog F.zpo ⟨17,zpF,zpG⟩:=fun hn h=>zDC (Nat.le_trans hn (by decide)) h
theorem zfS:Rn.Worth Tryz.prog F.zaj ⟨2,zJ,zK⟩:=fun hn h=>zfJ (Nat.le_trans hn (by decide)) h
theorem zjc:Rn.Worth Tryz.prog F.zaR ⟨2,z7,z8⟩:=fun hn h=>zid (Nat.le_trans hn (by decide)) h
theorem zxF:Rn.Worth Tryz.prog F.zlw ⟨11,zhH,zhI⟩:=fun hn h=>zvG (Nat.le_trans hn (by decide)) h
theorem zCu:Rn.Worth Tryz.prog F.zpW ⟨3,zmT,zmU⟩:=fun hn h=>zAT (Nat.le_trans hn (by decide)) h
theorem zqY:Rn.Worth Tryz.prog F.zfF ⟨4,zcE,zcF⟩:=fun hn h=>zqb (Nat.le_trans hn (by decide)) h
theorem zxG:Rn.Worth Tryz.prog F.zhq ⟨5,zhJ,zhK⟩:=fun hn h=>zvH (Nat.le_trans hn (by decide)) h
theorem zrS:Rn.Worth Tryz.prog F.zf8 ⟨77,zcY,zcZ⟩:=fun hn h=>zqI (Nat.le_trans hn (by decide)) h
theorem ztJ:Rn.Worth Tryz.prog F.zeh ⟨3,zey,zez⟩:=fun hn h=>zsc (Nat.le_trans hn (by decide)) h
theorem zyQ:Rn.Worth Tryz.prog F.zc8 ⟨4,zi1,zi2⟩:=fun hn h=>zxg (Nat.le_trans hn (by decide)) h
theorem zCv:Rn.Worth Tryz.prog F.zbk ⟨3,zmV,zmW⟩:=fun hn h=>zAU (Nat.le_trans hn (by decide)) h
theorem zEl:Rn.Worth Tryz.prog F.zrj ⟨5,zn9,zoa⟩:=fun hn h=>zCh (Nat.le_trans hn (by decide)) h
theorem ztK:Rn.Worth Tryz.prog F.zh8 ⟨5,zeA,zeB⟩:=fun hn h=>zsd (Nat.le_trans hn (by decide)) h
theorem zjZ:Rn.Worth Tryz.prog F.za3 ⟨8,zah,zai⟩:=fun hn h=>zjq (Nat.le_trans hn (by decide)) h
theorem zuP:Rn.Worth Tryz.prog F.zjm ⟨3,zfr,zfs⟩:=fun hn h=>ztj (Nat.le_trans hn (by decide)) h
theorem zpL:Rn.Worth Tryz.prog F.zA ⟨3,zeC,zeD⟩:=fun hn h=>zvI (Nat.le_trans hn (by decide)) h
theorem zrT:Rn.Worth Tryz.prog F.zga ⟨6,zc0,zc1⟩:=fun hn h=>zqJ (Nat.le_trans hn (by decide)) h
theorem zqn:Rn.Worth Tryz.prog F.zeN ⟨9,zcb,zcc⟩:=fun hn h=>zo6 (Nat.le_trans hn (by decide)) h
theorem zGs:Rn.Worth Tryz.prog F.zkR ⟨25,zpH,zpI⟩:=fun hn h=>zDF (Nat.le_trans hn (by decide)) h
theorem zuQ:Rn.Worth Tryz.prog F.zcN ⟨16,zft,zfu⟩:=fun hn h=>ztk (Nat.le_trans hn (by decide)) h
theorem zwm:Rn.Worth Tryz.prog F.zkD ⟨13,zgR,zgS⟩:=fun hn h=>zuy (Nat.le_trans hn (by decide)) h
theorem zsu:Rn.Worth Tryz.prog F.zax ⟨3,zdU,zdV⟩:=fun hn h=>zrI (Nat.le_trans hn (by decide)) h
theorem zuR:Rn.Worth Tryz.prog F.zcO ⟨12,zfv,zfw⟩:=fun hn h=>ztl (Nat.le_trans hn (by decide)) h
theorem zuS:Rn.Worth Tryz.prog F.zaU ⟨8,zfx,zfy⟩:=fun hn h=>ztm (Nat.le_trans hn (by decide)) h
theorem zwn:Rn.Worth Tryz.prog F.zdl ⟨11,zgT,zgU⟩:=fun hn h=>zuz (Nat.le_trans hn (by decide)) h
theorem ztL:Rn.Worth Tryz.prog F.zci ⟨16,zeE,zeF⟩:=fun hn h=>zse (Nat.le_trans hn (by decide)) h
theorem zyR:Rn.Worth Tryz.prog F.zmm ⟨13,zi3,zi4⟩:=fun hn h=>zxj (Nat.le_trans hn (by decide)) h
theorem zyS:Rn.Worth Tryz.prog F.ziC ⟨5,zi5,zi6⟩:=fun hn h=>zxk (Nat.le_trans hn (by decide)) h
theorem zz2:Rn.Worth Tryz.prog F.zgZ ⟨6,zkq,zkr⟩:=fun hn h=>zyp (Nat.le_trans hn (by decide)) h
theorem zl9:Rn.Worth Tryz.prog F.zby ⟨10,zaJ,zaK⟩:=fun hn h=>zlO (Nat.le_trans hn (by decide)) h
theorem zlV:Rn.Worth Tryz.prog F.zW ⟨21,zaB,zaC⟩:=fun hn h=>zk3 (Nat.le_trans hn (by decide)) h
theorem zEm:Rn.Worth Tryz.prog F.zrk ⟨12,zob,zoc⟩:=fun hn h=>zCk (Nat.le_trans hn (by decide)) h
theorem zjd:Rn.Worth Tryz.prog F.zI ⟨21,z9,zaa⟩:=fun hn h=>zie (Nat.le_trans hn (by decide)) h
theorem zkN:Rn.Worth Tryz.prog F.zO ⟨21,zao,zap⟩:=fun hn h=>zjS (Nat.le_trans hn (by decide)) h
theorem zsv:Rn.Worth Tryz.prog F.zhl ⟨7,zdW,zdX⟩:=fun hn h=>zrJ (Nat.le_trans hn (by decide)) h
theorem zqZ:Rn.Worth Tryz.prog F.zfG ⟨7,zcG,zcH⟩:=fun hn h=>zqe (Nat.le_trans hn (by decide)) h
theorem zz3:Rn.Worth Tryz.prog F.znl ⟨3,zks,zkt⟩:=fun hn h=>zyq (Nat.le_trans hn (by decide)) h
theorem zpf:Rn.Worth Tryz.prog F.zd4 ⟨4,zbL,zbM⟩:=fun hn h=>zoN (Nat.le_trans hn (by decide)) h
theorem zz4:Rn.Worth Tryz.prog F.znm ⟨7,zku,zkv⟩:=fun hn h=>zyr (Nat.le_trans hn (by decide)) h
theorem zEn:Rn.Worth Tryz.prog F.znH ⟨5,zod,zoe⟩:=fun hn h=>zCn (Nat.le_trans hn (by decide)) h
theorem zBD:Rn.Worth Tryz.prog F.zoD ⟨8,zlP,zlQ⟩:=fun hn h=>zzI (Nat.le_trans hn (by decide)) h
theorem zne:Rn.Worth Tryz.prog F.zcj ⟨1,za0,za1⟩:=fun hn h=>zms (Nat.le_trans hn (by decide)) h
theorem zoX:Rn.Worth Tryz.prog F.zaf ⟨4,zbu,zbv⟩:=fun hn h=>zof (Nat.le_trans hn (by decide)) h
theorem zis:Rn.Worth Tryz.prog F.zaN ⟨10,zY,zZ⟩:=fun hn h=>zhP (Nat.le_trans hn (by decide)) h
theorem zfT:Rn.Worth Tryz.prog F.zak ⟨10,zL,zM⟩:=fun hn h=>zfK (Nat.le_trans hn (by decide)) h
theorem zhp:Rn.Worth Tryz.prog F.zay ⟨10,zP,zQ⟩:=fun hn h=>zg5 (Nat.le_trans hn (by decide)) h
theorem zrU:Rn.Worth Tryz.prog F.zgc ⟨12,zc2,zc3⟩:=fun hn h=>zqK (Nat.le_trans hn (by decide)) h
theorem zlW:Rn.Worth Tryz.prog F.zX ⟨19,zaD,zaE⟩:=fun hn h=>zk6 (Nat.le_trans hn (by decide)) h
theorem zit:Rn.Worth Tryz.prog F.zaO ⟨8,z1,z2⟩:=fun hn h=>zhY (Nat.le_trans hn (by decide)) h
theorem zyT:Rn.Worth Tryz.prog F.ziz ⟨8,ziF,ziG⟩:=fun hn h=>zwX (Nat.le_trans hn (by decide)) h
theorem zuT:Rn.Worth Tryz.prog F.zbx ⟨3,zeZ,ze0⟩:=fun hn h=>zsV (Nat.le_trans hn (by decide)) h
theorem zuU:Rn.Worth Tryz.prog F.zeW ⟨6,ze1,ze2⟩:=fun hn h=>zsW (Nat.le_trans hn (by decide)) h
theorem zxH:Rn.Worth Tryz.prog F.zlr ⟨6,zht,zhu⟩:=fun hn h=>zvx (Nat.le_trans hn (by decide)) h
theorem zuV:Rn.Worth Tryz.prog F.zjf ⟨7,ze7,ze8⟩:=fun hn h=>zsZ (Nat.le_trans hn (by decide)) h
theorem zBE:Rn.Worth Tryz.prog F.zoz ⟨5,zlE,zlF⟩:=fun hn h=>zzt (Nat.le_trans hn (by decide)) h
theorem zCX:Rn.T.All (Rn.Worth Tryz.prog) zy := .no (.no (.no (.no (.at zuT (.at zEb (.at zEf (.at zzZ (.nil) (.nil)) (.at zfS (.nil) (.nil))) (.at zuI (.at zwh (.nil) (.nil)) (.nil))) (.at zsj (.at zxB (.at zGp (.nil) (.nil)) (.nil)) (.at zwe (.nil) (.at zz2 (.nil) (.nil))))) (.no (.at zzU (.at zzV (.at ztG (.nil) (.nil)) (.at zxG (.nil) (.nil))) (.at zsq (.nil) (.at zwn (.nil) (.nil)))) (.at zsk (.at zyL (.at zz1 (.nil) (.nil)) (.nil)) (.at zzY (.at zEk (.nil) (.nil)) (.at zkN (.nil) (.nil)))))) (.at zyT (.no (.at zuF (.at ztD (.nil) (.nil)) (.no (.at ztI (.nil) (.nil)) (.at zwm (.nil) (.nil)))) (.at zv8 (.at zwa (.at zoj (.nil) (.nil)) (.nil)) (.at zqk (.at zGq (.nil) (.nil)) (.at zlV (.nil) (.nil))))) (.at zGk (.at zv5 (.at zsm (.at zuM (.nil) (.nil)) (.at zyQ (.nil) (.nil))) (.no (.at zwk (.nil) (.nil)) (.nil))) (.at zBy (.at zBE (.at zCs (.nil) (.nil)) (.nil)) (.at ztE (.nil) (.at zz3 (.nil) (.nil))))))) (.no (.at zBx (.at zuU (.at zuE (.at zsl (.at zz0 (.nil) (.nil)) (.at zjc (.nil) (.nil))) (.no (.at zwi (.nil) (.nil)) (.at zGs (.nil) (.nil)))) (.at zv7 (.at zyK (.at zCr (.at zis (.nil) (.nil)) (.nil)) (.nil)) (.at zqj (.at zBB (.nil) (.nil)) (.at zl9 (.nil) (.nil))))) (.no (.at zyG (.no (.at zuK (.nil) (.nil)) (.at zrS (.nil) (.nil))) (.nil)) (.at zEd (.no (.at zxD (.nil) (.nil)) (.nil)) (.at zyM (.at zyP (.nil) (.nil)) (.at zsv (.nil) (.nil)))))) (.at zv3 (.at zv4 (.at zpb (.at zuG (.at ztF (.at zBD (.nil) (.nil)) (.nil)) (.at zCu (.nil) (.nil))) (.at zGn (.nil) (.at zuR (.nil) (.nil)))) (.no (.at zGm (.nil) (.nil)) (.at zEh (.at zBC (.nil) (.nil)) (.nil)))) (.no (.at zuV (.at zyJ (.no (.at zoX (.nil) (.nil)) (.nil)) (.at zEl (.nil) (.nil))) (.at zzX (.no (.at zlW (.nil) (.nil)) (.nil)) (.at zyR (.nil) (.nil)))) (.at zGl (.at zqU (.at zCt (.nil) (.nil)) (.at zrT (.nil) (.nil))) (.at zxC (.at zGr (.nil) (.nil)) (.at zz4 (.nil) (.nil)))))))) (.no (.no (.at zzR (.at zsg (.at zzT (.at zpc (.at zEi (.nil) (.nil)) (.nil)) (.no (.at zok (.nil) (.nil)) (.nil))) (.at zv6 (.at zuH (.at zCq (.nil) (.nil)) (.at zjZ (.nil) (.nil))) (.at zpd (.at zqX (.nil) (.nil)) (.nil)))) (.no (.at zsi (.at zzW (.at ztH (.nil) (.nil)) (.nil)) (.at zsr (.nil) (.at ztL (.nil) (.nil)))) (.at zEc (.at zoi (.at znd (.nil) (.nil)) (.nil)) (.at zwf (.at zwl (.nil) (.nil)) (.nil))))) (.at ztC (.no (.no (.at zv9 (.no (.at zEn (.nil) (.nil)) (.nil)) (.at zxF (.nil) (.nil))) (.at zqV (.at zqW (.nil) (.nil)) (.at zsu (.nil) (.nil)))) (.at zqS (.at zwb (.nil) (.nil)) (.at zBz (.at zxE (.nil) (.nil)) (.at zEm (.nil) (.nil))))) (.no (.at zxH (.at zsn (.at zuN (.nil) (.nil)) (.at zCv (.nil) (.nil))) (.nil)) (.at zyI (.at zrQ (.at zBA (.nil) (.nil)) (.at zpL (.nil) (.nil))) (.at zql (.no (.at zit (.nil) (.nil)) (.nil)) (.at zpf (.nil) (.nil))))))) (.at zBw (.at zzS (.at zqR (.at zoU (.at zqT (.at zGo (.nil) (.nil)) (.nil)) (.at zwc (.no (.at zhp (.nil) (.nil)) (.nil)) (.at zuQ (.nil) (.nil)))) (.at zxz (.no (.at zqm (.nil) (.nil)) (.nil)) (.at zoW (.at zyN (.nil) (.nil)) (.nil)))) (.at zCp (.at zoV (.no (.at zuL (.nil) (.nil)) (.at ztJ (.nil) (.nil))) (.at zqi (.at zpe (.at zrU (.nil) (.nil)) (.nil)) (.nil))) (.no (.at zsp (.no (.at zfT (.nil) (.nil)) (.nil)) (.at zuP (.nil) (.nil))) (.at zst (.at zlh (.nil) (.nil)) (.at zqZ (.nil) (.nil)))))) (.no (.no (.at zsh (.at zxA (.at zwg (.at zne (.nil) (.nil)) (.nil)) (.at zqY (.nil) (.nil))) (.at zwd (.at zwj (.nil) (.nil)) (.at zuS (.nil) (.nil)))) (.no (.at zso (.nil) (.nil)) (.at zuJ (.at zyO (.nil) (.nil)) (.at zjd (.nil) (.nil))))) (.at zEa (.at zyH (.at zEg (.at zuO (.nil) (.nil)) (.at ztK (.nil) (.nil))) (.at zss (.at zEj (.nil) (.nil)) (.at zyS (.nil) (.nil)))) (.at zEe (.no (.at zrR (.nil) (.nil)) (.at zqn (.nil) (.nil))) (.nil))))))
end Go.Proofs.YtdogcflaekkdkaaGreat
namespace Go.Proofs.YtdogcflaekkdkaaGreat
open Go Go.Vm
def bl (b:ByteArray):List UInt8:=b.data.toList
def zLa (a b:ByteArray):Bool:=Op.bytesLess a.toList b.toList
structure FileR where
 name:ByteArray
 safe:ByteArray
 tail:ByteArray
def FileR.all (f:FileR):ByteArray:=f.safe++f.tail
structure zxI where
 limit:Int
 l:List FileR
 left:Int
 down:Bool
def zCY (L:List FileR):Prop:=L.Pairwise fun x y=>zLa x.name y.name=true
def zLb (L:List FileR) (n:ByteArray):Option FileR:=L.find? fun f=>decide (f.name=n)
def zLc (L:List FileR):Nat:=(L.map fun f=>f.safe.size+f.tail.size).sum
structure zLW (D:zxI):Prop where
 sort:zCY D.l
 len:D.l.length≤64
 used:zLc D.l≤1048576
 limit:0≤D.limit∧D.limit≤1048576
 left : -1≤D.left∧D.left≤9223372036854775807
end Go.Proofs.YtdogcflaekkdkaaGreat
namespace Go.Proofs.YtdogcflaekkdkaaGreat
open Go Go.Vm
attribute [local irreducible] Brn Ob Grow CallsM inR zh4 zfz Mem.row Mem.cells Mem.setCells Mem.upd Go.Vm.Own ziw znx zmE zjF New ziu zaq NewSl Mem.textAt Mem.mapAt Mem.iterAt zd5 kfind Wr zm5 zpq
set_option maxRecDepth 10000
section
@[reducible] def zLu (k:ByteArray):Value := .string k
structure FX where
 f:Nat
 a:Option Addr
 c:Nat
 p:List UInt8
 safe:Nat
@[reducible] def fxV (x:FX):Value:=ptr x.f
structure zLv (M:Mem) (x:FX):Prop where
 self:M.has x.f T.zBT [.slice x.a x.p.length x.c,.int .i64 x.safe]
 row:Wr M T.zIV 1 x.a x.p.length x.c (x.p.map zwr)
def FX.own (x:FX):Nat→Prop:=fun y=>y=x.f∨blk x.a y
def zKy (x y:FX):Prop:=∀ z,x.own z→¬y.own z
abbrev FsT:=List (ByteArray×FX)
structure DAt (M:Mem) (p b:Nat) (D:zxI) (es:FsT):Prop where
 self:M.has p T.zBS [.int .i64 D.limit,.map (some b),.int .i64 D.left,.bool D.down]
 map:zKO zLu fxV M b es
 ents:∀ q∈es,zLv M q.2
 apart:es.Pairwise fun x y=>zKy x.2 y.2
def zEo (p b:Nat) (es:FsT):Nat→Prop:=fun y=>y=p∨y=b∨∃ q∈es,q.2.own y
variable {M:Mem} {p b:Nat} {D:zxI} {es:FsT}
def cont (f:FileR):List UInt8×Nat:=(bl f.all,f.safe.size)
structure zLw (es:FsT) (L:List FileR):Prop where
 sort:zCY L
 nodup:(es.map (·.1)).Nodup
 same:∀ n,(zJ3 es n).map (fun x=>(x.p,x.safe))=(zLb L n).map cont
end
section
variable {M:Mem} {p b:Nat} {D:zxI} {es:FsT}
structure zLS (M M':Mem) (p b:Nat) (es es':FsT) (D':zxI):Prop where
 at':DAt M' p b D' es'
 rel:zLw es' D'.l
 keep:Mem.keep (zEo p b es) M M'
 own:∀ y,zEo p b es' y→zEo p b es y∨M y=none
theorem Wr.newSl {E:TypeId} {s:Nat} {a:Option Addr} {n c:Nat} {L:List Value} (h:Wr M E s a n c L):NewSl (M.minus (blk a)) E s a n c L M:=by
 unfold Wr at h
 obtain⟨h1,h2,h3⟩:=h
 exact newSl_iff.2 ⟨Mem.minus_le _ _,h1,h2,h3.imp id fun ⟨b,cs,ha,hh,hr⟩=>⟨b,cs,ha,Mem.minus_in ⟨_,ha,rfl⟩,hh,hr⟩⟩
end
end Go.Proofs.YtdogcflaekkdkaaGreat
