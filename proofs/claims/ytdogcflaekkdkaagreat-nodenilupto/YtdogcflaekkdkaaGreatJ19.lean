/- Part of this proof;laid by program. -/
import Derived.Test.YtdogcflaekkdkaaGreatJ14
import Derived.Test.YtdogcflaekkdkaaGreatJ18
import Derived.Test.YtdogcflaekkdkaaGreatJ7
import Derived.Sort.Walk0
import Derived.Shelf.Sort.Plain
import Derived.Shelf.Slices.In.SortNone
set_option linter.unusedVariables false
set_option linter.unusedSimpArgs false
namespace Go.Proofs.YtdogcflaekkdkaaGreat
open Go Go.Vm
set_option maxRecDepth 20000
def zB:Rn.T Rn.FC := .n (.n (.n (.n (.n (.n (.n (.n (.e) (some ⟨3,zkn,zko⟩) (.e)) (some ⟨1,znV,znW⟩) (.n (.e) (some ⟨2,zL,zM⟩) (.e))) (some ⟨71,znJ,znK⟩) (.n (.n (.e) (some ⟨4,zgI,zgJ⟩) (.e)) (some ⟨2,zfg,zfh⟩) (.e))) (some ⟨3,ze2,ze3⟩) (.n (.n (.n (.e) (some ⟨7,zpu,zpv⟩) (.e)) (some ⟨8,zhB,zhC⟩) (.e)) (some ⟨12,zdA,zdB⟩) (.n (.e) (some ⟨3,zgC,zgD⟩) (.n (.e) (some ⟨6,zkt,zku⟩) (.e))))) none (.n (.n (.n (.n (.e) (some ⟨4,zev,zew⟩) (.e)) (some ⟨23,zkf,zkg⟩) (.n (.e) (some ⟨5,zhL,zhM⟩) (.e))) (some ⟨11,zkd,zke⟩) (.n (.e) (some ⟨5,zdO,zdP⟩) (.n (.e) (some ⟨11,zgW,zgX⟩) (.e)))) none (.n (.n (.n (.e) (some ⟨8,zkr,zks⟩) (.e)) (some ⟨10,ziU,ziV⟩) (.e)) (some ⟨41,zdC,zdD⟩) (.n (.n (.e) (some ⟨12,zn6,zn7⟩) (.e)) (some ⟨13,zkl,zkm⟩) (.n (.e) (some ⟨21,zar,zas⟩) (.e)))))) none (.n (.n (.n (.n (.e) (some ⟨3,zep,zeq⟩) (.e)) (some ⟨91,ze8,ze9⟩) (.n (.n (.e) (some ⟨9,zez,zeA⟩) (.e)) none (.n (.e) (some ⟨13,zgU,zgV⟩) (.e)))) none (.n (.n (.n (.e) (some ⟨5,zbe,zbf⟩) (.e)) (some ⟨13,zgu,zgv⟩) (.e)) (some ⟨9,zgq,zgr⟩) (.n (.n (.e) (some ⟨6,zpw,zpx⟩) (.e)) (some ⟨4,zb4,zb5⟩) (.n (.e) (some ⟨21,zaB,zaC⟩) (.e))))) (some ⟨8,ziI,ziJ⟩) (.n (.n (.n (.n (.e) (some ⟨1,zfo,zfp⟩) (.e)) (some ⟨30,zdG,zdH⟩) (.n (.e) (some ⟨4,zi4,zi5⟩) (.e))) (some ⟨24,zgk,zgl⟩) (.n (.n (.e) (some ⟨9,zgO,zgP⟩) (.e)) none (.e))) (some ⟨7,zpk,zpl⟩) (.n (.n (.n (.e) (some ⟨7,zmO,zmP⟩) (.e)) (some ⟨5,zlF,zlG⟩) (.e)) (some ⟨25,zlD,zlE⟩) (.n (.e) (some ⟨14,zer,zes⟩) (.n (.e) (some ⟨3,zkv,zkw⟩) (.e))))))) none (.n (.n (.n (.n (.n (.n (.e) (some ⟨17,zkp,zkq⟩) (.e)) (some ⟨6,zdE,zdF⟩) (.n (.e) (some ⟨2,zaa,zab⟩) (.e))) (some ⟨3,ze6,ze7⟩) (.n (.n (.e) (some ⟨6,zgK,zgL⟩) (.e)) none (.n (.e) (some ⟨25,zpA,zpB⟩) (.e)))) (some ⟨6,ze4,ze5⟩) (.n (.n (.n (.n (.e) (some ⟨10,z1,z2⟩) (.e)) (some ⟨58,zmM,zmN⟩) (.e)) (some ⟨4,ziS,ziT⟩) (.e)) (some ⟨5,zgo,zgp⟩) (.n (.n (.e) (some ⟨6,zlL,zlM⟩) (.e)) (some ⟨52,zb2,zb3⟩) (.n (.e) (some ⟨10,zaJ,zaK⟩) (.e))))) (some ⟨12,zlB,zlC⟩) (.n (.n (.n (.n (.e) (some ⟨5,zfk,zfl⟩) (.e)) none (.n (.e) (some ⟨77,zcZ,zc0⟩) (.e))) (some ⟨4,ziK,ziL⟩) (.e)) none (.n (.n (.n (.e) (some ⟨3,zhF,zhG⟩) (.e)) none (.e)) (some ⟨4,znR,znS⟩) (.n (.n (.e) (some ⟨8,zi2,zi3⟩) (.e)) (some ⟨4,ziW,ziX⟩) (.n (.e) (some ⟨7,zdY,zdZ⟩) (.e)))))) none (.n (.n (.n (.n (.n (.n (.e) (some ⟨8,zlQ,zlR⟩) (.e)) (some ⟨29,zet,zeu⟩) (.e)) (some ⟨66,zfc,zfd⟩) (.n (.e) (some ⟨3,zmS,zmT⟩) (.e))) (some ⟨3,zbD,zbE⟩) (.n (.e) (some ⟨26,zpq,zpr⟩) (.n (.e) (some ⟨12,zfy,zfz⟩) (.e)))) (some ⟨63,zgi,zgj⟩) (.n (.n (.e) (some ⟨42,zpo,zpp⟩) (.e)) none (.n (.n (.e) (some ⟨7,zlN,zlO⟩) (.e)) (some ⟨5,zn0,zn1⟩) (.e)))) (some ⟨6,zgg,zgh⟩) (.n (.n (.n (.n (.n (.e) (some ⟨4,zbv,zbw⟩) (.e)) none (.e)) (some ⟨4,ziQ,ziR⟩) (.n (.e) (some ⟨5,zn8,zn9⟩) (.e))) (some ⟨7,zfa,zfb⟩) (.n (.n (.n (.e) (some ⟨19,zaD,zaE⟩) (.e)) none (.e)) (some ⟨3,zkj,zkk⟩) (.n (.e) (some ⟨13,zi6,zi7⟩) (.e)))) none (.n (.n (.n (.e) (some ⟨5,zmQ,zmR⟩) (.e)) (some ⟨1,zcv,zcw⟩) (.n (.e) (some ⟨6,zc1,zc2⟩) (.e))) (some ⟨4,zpm,zpn⟩) (.n (.n (.e) (some ⟨17,zpy,zpz⟩) (.e)) (some ⟨25,zhD,zhE⟩) (.n (.e) (some ⟨7,zkx,zky⟩) (.e)))))))) none (.n (.n (.n (.n (.n (.n (.n (.e) (some ⟨10,zn2,zn3⟩) (.e)) (some ⟨3,zbF,zbG⟩) (.e)) (some ⟨6,zkb,zkc⟩) (.n (.n (.e) (some ⟨5,zbg,zbh⟩) (.e)) none (.e))) (some ⟨66,zdu,zdv⟩) (.n (.n (.n (.e) (some ⟨9,zmK,zmL⟩) (.e)) (some ⟨5,zfe,zff⟩) (.n (.e) (some ⟨8,zak,zal⟩) (.e))) (some ⟨10,zgm,zgn⟩) (.n (.n (.e) (some ⟨1,zcB,zcC⟩) (.e)) (some ⟨3,zbH,zbI⟩) (.e)))) (some ⟨6,zj7,zj8⟩) (.n (.n (.n (.n (.e) (some ⟨7,zex,zey⟩) (.e)) (some ⟨4,zkh,zki⟩) (.e)) (some ⟨6,zdy,zdz⟩) (.n (.e) (some ⟨46,zdQ,zdR⟩) (.n (.e) (some ⟨16,zeH,zeI⟩) (.e)))) none (.n (.n (.n (.e) (some ⟨19,za0,za1⟩) (.e)) (some ⟨5,zbc,zbd⟩) (.e)) (some ⟨5,znP,znQ⟩) (.n (.n (.e) (some ⟨5,zgQ,zgR⟩) (.e)) (some ⟨11,zgE,zgF⟩) (.e))))) none (.n (.n (.n (.n (.n (.n (.e) (some ⟨5,zoc,zod⟩) (.e)) none (.e)) (some ⟨14,zgs,zgt⟩) (.n (.e) (some ⟨11,zhJ,zhK⟩) (.e))) none (.n (.n (.e) (some ⟨14,zcz,zcA⟩) (.e)) (some ⟨3,zcx,zcy⟩) (.n (.e) (some ⟨3,zdW,zdX⟩) (.e)))) none (.n (.n (.e) (some ⟨4,zgw,zgx⟩) (.e)) (some ⟨21,zcr,zcs⟩) (.n (.n (.e) (some ⟨3,zhH,zhI⟩) (.e)) (some ⟨4,zlH,zlI⟩) (.n (.e) (some ⟨12,zoa,zob⟩) (.e))))) (some ⟨11,zen,zeo⟩) (.n (.n (.n (.n (.e) (some ⟨52,zfq,zfr⟩) (.e)) (some ⟨2,zdI,zdJ⟩) (.n (.e) (some ⟨3,zmU,zmV⟩) (.e))) (some ⟨6,zhv,zhw⟩) (.e)) none (.n (.n (.n (.e) (some ⟨5,zlJ,zlK⟩) (.e)) (some ⟨12,zcV,zcW⟩) (.n (.e) (some ⟨3,zeF,zeG⟩) (.e))) (some ⟨17,ziO,ziP⟩) (.n (.n (.n (.e) (some ⟨8,z5,z6⟩) (.e)) none (.e)) (some ⟨3,zb6,zb7⟩) (.n (.e) (some ⟨4,zbL,zbM⟩) (.e))))))) none (.n (.n (.n (.n (.n (.n (.e) (some ⟨3,zps,zpt⟩) (.e)) (some ⟨13,zct,zcu⟩) (.e)) (some ⟨11,zbp,zbq⟩) (.n (.n (.n (.e) (some ⟨10,zS,zT⟩) (.e)) none (.e)) (some ⟨4,zgy,zgz⟩) (.n (.e) (some ⟨16,zfw,zfx⟩) (.e)))) (some ⟨4,zcp,zcq⟩) (.n (.n (.n (.e) (some ⟨5,zb8,zb9⟩) (.e)) none (.e)) (some ⟨12,zhx,zhy⟩) (.n (.n (.e) (some ⟨6,ziY,ziZ⟩) (.e)) (some ⟨37,zbt,zbu⟩) (.e)))) (some ⟨1,zj9,zka⟩) (.n (.n (.n (.n (.e) (some ⟨1,zfm,zfn⟩) (.e)) none (.n (.e) (some ⟨3,zeB,zeC⟩) (.e))) (some ⟨3,zbr,zbs⟩) (.n (.n (.n (.e) (some ⟨12,zc3,zc4⟩) (.e)) (some ⟨31,zbJ,zbK⟩) (.e)) (some ⟨5,zb0,zb1⟩) (.e))) (some ⟨7,zmI,zmJ⟩) (.n (.n (.n (.n (.e) (some ⟨10,zN,zO⟩) (.e)) none (.e)) (some ⟨30,zdM,zdN⟩) (.n (.e) (some ⟨3,zfu,zfv⟩) (.e))) none (.n (.n (.e) (some ⟨2,zav,zaw⟩) (.e)) (some ⟨18,zdU,zdV⟩) (.n (.e) (some ⟨7,zcF,zcG⟩) (.e)))))) (some ⟨5,zlz,zlA⟩) (.n (.n (.n (.n (.n (.n (.e) (some ⟨1,za2,za3⟩) (.e)) (some ⟨13,zgG,zgH⟩) (.e)) (some ⟨4,zhz,zhA⟩) (.n (.e) (some ⟨4,zcD,zcE⟩) (.e))) (some ⟨16,zdw,zdx⟩) (.n (.n (.e) (some ⟨7,zgM,zgN⟩) (.e)) (some ⟨6,zgA,zgB⟩) (.n (.e) (some ⟨8,zfA,zfB⟩) (.e)))) none (.n (.n (.e) (some ⟨11,zdK,zdL⟩) (.e)) none (.n (.n (.e) (some ⟨5,zi0,zi1⟩) (.e)) (some ⟨9,zfi,zfj⟩) (.n (.e) (some ⟨21,zac,zad⟩) (.e))))) none (.n (.n (.n (.n (.e) (some ⟨4,zfs,zft⟩) (.e)) (some ⟨41,znX,znY⟩) (.n (.e) (some ⟨5,zeD,zeE⟩) (.e))) (some ⟨3,ziM,ziN⟩) (.n (.n (.e) (some ⟨12,zn4,zn5⟩) (.e)) (some ⟨8,zdS,zdT⟩) (.n (.e) (some ⟨5,zi8,zi9⟩) (.e)))) (some ⟨4,znH,znI⟩) (.n (.n (.n (.e) (some ⟨5,zcX,zcY⟩) (.e)) none (.n (.e) (some ⟨9,zca,zcb⟩) (.e))) (some ⟨15,znT,znU⟩) (.e))))))
theorem zBW:Rn.Worth Tryz.prog F.zlr ⟨5,zlz,zlA⟩:=fun hn h=>zzQ (Nat.le_trans hn (by decide)) h
theorem zAl:Rn.Worth Tryz.prog F.za8 ⟨6,zj7,zj8⟩:=fun hn h=>zyw (Nat.le_trans hn (by decide)) h
theorem zBX:Rn.Worth Tryz.prog F.zls ⟨12,zlB,zlC⟩:=fun hn h=>zzT (Nat.le_trans hn (by decide)) h
theorem zAm:Rn.Worth Tryz.prog F.zj4 ⟨1,zj9,zka⟩:=fun hn h=>zyx (Nat.le_trans hn (by decide)) h
theorem ztL:Rn.Worth Tryz.prog F.zao ⟨11,zen,zeo⟩:=fun hn h=>zr4 (Nat.le_trans hn (by decide)) h
theorem zwA:Rn.Worth Tryz.prog F.z8 ⟨6,zgg,zgh⟩:=fun hn h=>zus (Nat.le_trans hn (by decide)) h
theorem zsj:Rn.Worth Tryz.prog F.zQ ⟨66,zdu,zdv⟩:=fun hn h=>zrm (Nat.le_trans hn (by decide)) h
theorem zqO:Rn.Worth Tryz.prog F.zU ⟨4,zcp,zcq⟩:=fun hn h=>zpS (Nat.le_trans hn (by decide)) h
theorem zwB:Rn.Worth Tryz.prog F.zi ⟨63,zgi,zgj⟩:=fun hn h=>zut (Nat.le_trans hn (by decide)) h
theorem zCG:Rn.Worth Tryz.prog F.zjM ⟨7,zmI,zmJ⟩:=fun hn h=>zA8 (Nat.le_trans hn (by decide)) h
theorem zGw:Rn.Worth Tryz.prog F.zef ⟨7,zpk,zpl⟩:=fun hn h=>zDB (Nat.le_trans hn (by decide)) h
theorem zEm:Rn.Worth Tryz.prog F.znD ⟨4,znH,znI⟩:=fun hn h=>zCl (Nat.le_trans hn (by decide)) h
theorem zEn:Rn.Worth Tryz.prog F.znE ⟨71,znJ,znK⟩:=fun hn h=>zCm (Nat.le_trans hn (by decide)) h
theorem zAn:Rn.Worth Tryz.prog F.zj ⟨6,zkb,zkc⟩:=fun hn h=>zyC (Nat.le_trans hn (by decide)) h
theorem zuZ:Rn.Worth Tryz.prog F.zr ⟨3,ze6,ze7⟩:=fun hn h=>zs6 (Nat.le_trans hn (by decide)) h
theorem zoQ:Rn.Worth Tryz.prog F.zbm ⟨11,zbp,zbq⟩:=fun hn h=>znL (Nat.le_trans hn (by decide)) h
theorem zu0:Rn.Worth Tryz.prog F.zE ⟨91,ze8,ze9⟩:=fun hn h=>zs7 (Nat.le_trans hn (by decide)) h
theorem zo7:Rn.Worth Tryz.prog F.zaT ⟨3,zbD,zbE⟩:=fun hn h=>zoD (Nat.le_trans hn (by decide)) h
theorem zsk:Rn.Worth Tryz.prog F.zdp ⟨16,zdw,zdx⟩:=fun hn h=>zrn (Nat.le_trans hn (by decide)) h
theorem zAo:Rn.Worth Tryz.prog F.zj5 ⟨11,zkd,zke⟩:=fun hn h=>zyD (Nat.le_trans hn (by decide)) h
theorem zsl:Rn.Worth Tryz.prog F.zdq ⟨6,zdy,zdz⟩:=fun hn h=>zro (Nat.le_trans hn (by decide)) h
theorem zzc:Rn.Worth Tryz.prog F.ziB ⟨4,ziK,ziL⟩:=fun hn h=>zxA (Nat.le_trans hn (by decide)) h
theorem zoR:Rn.Worth Tryz.prog F.zw ⟨3,zbr,zbs⟩:=fun hn h=>znM (Nat.le_trans hn (by decide)) h
theorem zwC:Rn.Worth Tryz.prog F.zf5 ⟨24,zgk,zgl⟩:=fun hn h=>zuw (Nat.le_trans hn (by decide)) h
theorem zzd:Rn.Worth Tryz.prog F.zbR ⟨3,ziM,ziN⟩:=fun hn h=>zxB (Nat.le_trans hn (by decide)) h
theorem zsm:Rn.Worth Tryz.prog F.zdr ⟨12,zdA,zdB⟩:=fun hn h=>zrp (Nat.le_trans hn (by decide)) h
theorem zwD:Rn.Worth Tryz.prog F.zaN ⟨10,zgm,zgn⟩:=fun hn h=>zux (Nat.le_trans hn (by decide)) h
theorem zwE:Rn.Worth Tryz.prog F.zf6 ⟨5,zgo,zgp⟩:=fun hn h=>zuy (Nat.le_trans hn (by decide)) h
theorem zx9:Rn.Worth Tryz.prog F.zhq ⟨12,zhx,zhy⟩:=fun hn h=>zv5 (Nat.le_trans hn (by decide)) h
theorem zwF:Rn.Worth Tryz.prog F.zbS ⟨9,zgq,zgr⟩:=fun hn h=>zuz (Nat.le_trans hn (by decide)) h
theorem zqP:Rn.Worth Tryz.prog F.zcl ⟨21,zcr,zcs⟩:=fun hn h=>zpT (Nat.le_trans hn (by decide)) h
theorem zsn:Rn.Worth Tryz.prog F.za4 ⟨41,zdC,zdD⟩:=fun hn h=>zrq (Nat.le_trans hn (by decide)) h
theorem zEo:Rn.Worth Tryz.prog F.zcR ⟨5,znP,znQ⟩:=fun hn h=>zCn (Nat.le_trans hn (by decide)) h
theorem zEp:Rn.Worth Tryz.prog F.znF ⟨4,znR,znS⟩:=fun hn h=>zCo (Nat.le_trans hn (by decide)) h
theorem zBY:Rn.Worth Tryz.prog F.zox ⟨25,zlD,zlE⟩:=fun hn h=>zzU (Nat.le_trans hn (by decide)) h
theorem zze:Rn.Worth Tryz.prog F.zmg ⟨17,ziO,ziP⟩:=fun hn h=>zxC (Nat.le_trans hn (by decide)) h
theorem zGx:Rn.Worth Tryz.prog F.zsO ⟨4,zpm,zpn⟩:=fun hn h=>zDC (Nat.le_trans hn (by decide)) h
theorem zEq:Rn.Worth Tryz.prog F.zra ⟨15,znT,znU⟩:=fun hn h=>zCp (Nat.le_trans hn (by decide)) h
theorem zEr:Rn.Worth Tryz.prog F.zrb ⟨1,znV,znW⟩:=fun hn h=>zCq (Nat.le_trans hn (by decide)) h
theorem zo8:Rn.Worth Tryz.prog F.zaU ⟨3,zbF,zbG⟩:=fun hn h=>zoE (Nat.le_trans hn (by decide)) h
theorem zso:Rn.Worth Tryz.prog F.zhh ⟨6,zdE,zdF⟩:=fun hn h=>zrr (Nat.le_trans hn (by decide)) h
theorem zqQ:Rn.Worth Tryz.prog F.zah ⟨13,zct,zcu⟩:=fun hn h=>zpU (Nat.le_trans hn (by decide)) h
theorem ztM:Rn.Worth Tryz.prog F.zeg ⟨3,zep,zeq⟩:=fun hn h=>zr7 (Nat.le_trans hn (by decide)) h
theorem zwG:Rn.Worth Tryz.prog F.zkz ⟨14,zgs,zgt⟩:=fun hn h=>zuA (Nat.le_trans hn (by decide)) h
theorem zu1:Rn.Worth Tryz.prog F.zjj ⟨66,zfc,zfd⟩:=fun hn h=>ztb (Nat.le_trans hn (by decide)) h
theorem zya:Rn.Worth Tryz.prog F.zlu ⟨4,zhz,zhA⟩:=fun hn h=>zv6 (Nat.le_trans hn (by decide)) h
theorem zAp:Rn.Worth Tryz.prog F.znf ⟨23,zkf,zkg⟩:=fun hn h=>zyG (Nat.le_trans hn (by decide)) h
theorem zAq:Rn.Worth Tryz.prog F.zng ⟨4,zkh,zki⟩:=fun hn h=>zyH (Nat.le_trans hn (by decide)) h
theorem zsp:Rn.Worth Tryz.prog F.zds ⟨30,zdG,zdH⟩:=fun hn h=>zrs (Nat.le_trans hn (by decide)) h
theorem zsq:Rn.Worth Tryz.prog F.zhi ⟨2,zdI,zdJ⟩:=fun hn h=>zrt (Nat.le_trans hn (by decide)) h
theorem zzf:Rn.Worth Tryz.prog F.zmh ⟨4,ziQ,ziR⟩:=fun hn h=>zxD (Nat.le_trans hn (by decide)) h
theorem zEs:Rn.Worth Tryz.prog F.zbn ⟨41,znX,znY⟩:=fun hn h=>zCr (Nat.le_trans hn (by decide)) h
theorem zyb:Rn.Worth Tryz.prog F.zeh ⟨8,zhB,zhC⟩:=fun hn h=>zv7 (Nat.le_trans hn (by decide)) h
theorem zu2:Rn.Worth Tryz.prog F.zjk ⟨5,zfe,zff⟩:=fun hn h=>ztc (Nat.le_trans hn (by decide)) h
theorem zzg:Rn.Worth Tryz.prog F.zmi ⟨4,ziS,ziT⟩:=fun hn h=>zxE (Nat.le_trans hn (by decide)) h
theorem zwH:Rn.Worth Tryz.prog F.zkA ⟨13,zgu,zgv⟩:=fun hn h=>zuB (Nat.le_trans hn (by decide)) h
theorem zwI:Rn.Worth Tryz.prog F.zaq ⟨4,zgw,zgx⟩:=fun hn h=>zuC (Nat.le_trans hn (by decide)) h
theorem zGy:Rn.Worth Tryz.prog F.zsP ⟨42,zpo,zpp⟩:=fun hn h=>zDD (Nat.le_trans hn (by decide)) h
theorem zsr:Rn.Worth Tryz.prog F.zhj ⟨11,zdK,zdL⟩:=fun hn h=>zru (Nat.le_trans hn (by decide)) h
theorem zzh:Rn.Worth Tryz.prog F.zmj ⟨10,ziU,ziV⟩:=fun hn h=>zxF (Nat.le_trans hn (by decide)) h
theorem zoh:Rn.Worth Tryz.prog F.zcS ⟨5,zbc,zbd⟩:=fun hn h=>znl (Nat.le_trans hn (by decide)) h
theorem zss:Rn.Worth Tryz.prog F.zhk ⟨30,zdM,zdN⟩:=fun hn h=>zrv (Nat.le_trans hn (by decide)) h
theorem zrM:Rn.Worth Tryz.prog F.zf7 ⟨12,zcV,zcW⟩:=fun hn h=>zqx (Nat.le_trans hn (by decide)) h
theorem zqR:Rn.Worth Tryz.prog F.zcm ⟨1,zcv,zcw⟩:=fun hn h=>zpV (Nat.le_trans hn (by decide)) h
theorem zu3:Rn.Worth Tryz.prog F.zcK ⟨2,zfg,zfh⟩:=fun hn h=>ztd (Nat.le_trans hn (by decide)) h
theorem zwJ:Rn.Worth Tryz.prog F.zdb ⟨4,zgy,zgz⟩:=fun hn h=>zuF (Nat.le_trans hn (by decide)) h
theorem zqS:Rn.Worth Tryz.prog F.zba ⟨3,zcx,zcy⟩:=fun hn h=>zpW (Nat.le_trans hn (by decide)) h
theorem zGz:Rn.Worth Tryz.prog F.zsQ ⟨26,zpq,zpr⟩:=fun hn h=>zDE (Nat.le_trans hn (by decide)) h
theorem zwK:Rn.Worth Tryz.prog F.zkB ⟨6,zgA,zgB⟩:=fun hn h=>zuG (Nat.le_trans hn (by decide)) h
theorem zst:Rn.Worth Tryz.prog F.zbN ⟨5,zdO,zdP⟩:=fun hn h=>zrw (Nat.le_trans hn (by decide)) h
theorem zsu:Rn.Worth Tryz.prog F.zdt ⟨46,zdQ,zdR⟩:=fun hn h=>zrx (Nat.le_trans hn (by decide)) h
theorem zqc:Rn.Worth Tryz.prog F.z9 ⟨5,zb0,zb1⟩:=fun hn h=>zoX (Nat.le_trans hn (by decide)) h
theorem zAr:Rn.Worth Tryz.prog F.zcH ⟨3,zkj,zkk⟩:=fun hn h=>zyK (Nat.le_trans hn (by decide)) h
theorem zsv:Rn.Worth Tryz.prog F.zbO ⟨8,zdS,zdT⟩:=fun hn h=>zry (Nat.le_trans hn (by decide)) h
theorem zwL:Rn.Worth Tryz.prog F.zbT ⟨3,zgC,zgD⟩:=fun hn h=>zuH (Nat.le_trans hn (by decide)) h
theorem zo9:Rn.Worth Tryz.prog F.zd3 ⟨3,zbH,zbI⟩:=fun hn h=>zoF (Nat.le_trans hn (by decide)) h
theorem zqd:Rn.Worth Tryz.prog F.zeM ⟨52,zb2,zb3⟩:=fun hn h=>zoY (Nat.le_trans hn (by decide)) h
theorem zoS:Rn.Worth Tryz.prog F.zdc ⟨37,zbt,zbu⟩:=fun hn h=>znZ (Nat.le_trans hn (by decide)) h
theorem zqe:Rn.Worth Tryz.prog F.zeN ⟨4,zb4,zb5⟩:=fun hn h=>zoZ (Nat.le_trans hn (by decide)) h
theorem zBZ:Rn.Worth Tryz.prog F.zoA ⟨4,zlH,zlI⟩:=fun hn h=>zzY (Nat.le_trans hn (by decide)) h
theorem zEt:Rn.Worth Tryz.prog F.zrc ⟨5,zn0,zn1⟩:=fun hn h=>zCs (Nat.le_trans hn (by decide)) h
theorem zu4:Rn.Worth Tryz.prog F.ze0 ⟨9,zfi,zfj⟩:=fun hn h=>zte (Nat.le_trans hn (by decide)) h
theorem zAs:Rn.Worth Tryz.prog F.znh ⟨13,zkl,zkm⟩:=fun hn h=>zyL (Nat.le_trans hn (by decide)) h
theorem zwM:Rn.Worth Tryz.prog F.zkC ⟨11,zgE,zgF⟩:=fun hn h=>zuI (Nat.le_trans hn (by decide)) h
theorem zzi:Rn.Worth Tryz.prog F.ziD ⟨4,ziW,ziX⟩:=fun hn h=>zxI (Nat.le_trans hn (by decide)) h
theorem zsw:Rn.Worth Tryz.prog F.zbP ⟨18,zdU,zdV⟩:=fun hn h=>zrz (Nat.le_trans hn (by decide)) h
theorem ztN:Rn.Worth Tryz.prog F.zh7 ⟨14,zer,zes⟩:=fun hn h=>zsa (Nat.le_trans hn (by decide)) h
theorem zqf:Rn.Worth Tryz.prog F.zeO ⟨3,zb6,zb7⟩:=fun hn h=>zo0 (Nat.le_trans hn (by decide)) h
theorem zyc:Rn.Worth Tryz.prog F.zlv ⟨25,zhD,zhE⟩:=fun hn h=>zwa (Nat.le_trans hn (by decide)) h
theorem zAt:Rn.Worth Tryz.prog F.zd8 ⟨3,zkn,zko⟩:=fun hn h=>zyM (Nat.le_trans hn (by decide)) h
theorem zEu:Rn.Worth Tryz.prog F.zbo ⟨10,zn2,zn3⟩:=fun hn h=>zCt (Nat.le_trans hn (by decide)) h
theorem zAu:Rn.Worth Tryz.prog F.zni ⟨17,zkp,zkq⟩:=fun hn h=>zyN (Nat.le_trans hn (by decide)) h
theorem zGA:Rn.Worth Tryz.prog F.zsR ⟨3,zps,zpt⟩:=fun hn h=>zDF (Nat.le_trans hn (by decide)) h
theorem ztO:Rn.Worth Tryz.prog F.zce ⟨29,zet,zeu⟩:=fun hn h=>zsb (Nat.le_trans hn (by decide)) h
theorem zwN:Rn.Worth Tryz.prog F.zdd ⟨13,zgG,zgH⟩:=fun hn h=>zuJ (Nat.le_trans hn (by decide)) h
theorem ztP:Rn.Worth Tryz.prog F.zh8 ⟨4,zev,zew⟩:=fun hn h=>zsc (Nat.le_trans hn (by decide)) h
theorem ztQ:Rn.Worth Tryz.prog F.zh9 ⟨7,zex,zey⟩:=fun hn h=>zsd (Nat.le_trans hn (by decide)) h
theorem zu5:Rn.Worth Tryz.prog F.zjl ⟨5,zfk,zfl⟩:=fun hn h=>ztf (Nat.le_trans hn (by decide)) h
theorem zu6:Rn.Worth Tryz.prog F.zcL ⟨1,zfm,zfn⟩:=fun hn h=>ztg (Nat.le_trans hn (by decide)) h
theorem zu7:Rn.Worth Tryz.prog F.ze1 ⟨1,zfo,zfp⟩:=fun hn h=>zth (Nat.le_trans hn (by decide)) h
theorem zu8:Rn.Worth Tryz.prog F.zjm ⟨52,zfq,zfr⟩:=fun hn h=>zti (Nat.le_trans hn (by decide)) h
theorem zu9:Rn.Worth Tryz.prog F.zjn ⟨4,zfs,zft⟩:=fun hn h=>ztj (Nat.le_trans hn (by decide)) h
theorem zGB:Rn.Worth Tryz.prog F.zm2 ⟨7,zpu,zpv⟩:=fun hn h=>zDG (Nat.le_trans hn (by decide)) h
theorem zCH:Rn.Worth Tryz.prog F.zjN ⟨9,zmK,zmL⟩:=fun hn h=>zBd (Nat.le_trans hn (by decide)) h
theorem zCI:Rn.Worth Tryz.prog F.zmG ⟨58,zmM,zmN⟩:=fun hn h=>zBe (Nat.le_trans hn (by decide)) h
theorem zqg:Rn.Worth Tryz.prog F.zeP ⟨5,zb8,zb9⟩:=fun hn h=>zo1 (Nat.le_trans hn (by decide)) h
theorem zoi:Rn.Worth Tryz.prog F.zcT ⟨5,zbe,zbf⟩:=fun hn h=>znm (Nat.le_trans hn (by decide)) h
theorem zAv:Rn.Worth Tryz.prog F.zg1 ⟨8,zkr,zks⟩:=fun hn h=>zyO (Nat.le_trans hn (by decide)) h
theorem znc:Rn.Worth Tryz.prog F.zap ⟨19,za0,za1⟩:=fun hn h=>zmn (Nat.le_trans hn (by decide)) h
theorem zyd:Rn.Worth Tryz.prog F.zaZ ⟨3,zhF,zhG⟩:=fun hn h=>zwb (Nat.le_trans hn (by decide)) h
theorem zCJ:Rn.Worth Tryz.prog F.zmH ⟨7,zmO,zmP⟩:=fun hn h=>zBf (Nat.le_trans hn (by decide)) h
theorem zB0:Rn.Worth Tryz.prog F.zde ⟨5,zlJ,zlK⟩:=fun hn h=>zz5 (Nat.le_trans hn (by decide)) h
theorem zCK:Rn.Worth Tryz.prog F.zjP ⟨5,zmQ,zmR⟩:=fun hn h=>zBg (Nat.le_trans hn (by decide)) h
theorem zrN:Rn.Worth Tryz.prog F.zf8 ⟨5,zcX,zcY⟩:=fun hn h=>zqE (Nat.le_trans hn (by decide)) h
theorem zwO:Rn.Worth Tryz.prog F.zdf ⟨4,zgI,zgJ⟩:=fun hn h=>zuM (Nat.le_trans hn (by decide)) h
theorem zoj:Rn.Worth Tryz.prog F.zaA ⟨5,zbg,zbh⟩:=fun hn h=>znn (Nat.le_trans hn (by decide)) h
theorem zwP:Rn.Worth Tryz.prog F.zdg ⟨6,zgK,zgL⟩:=fun hn h=>zuN (Nat.le_trans hn (by decide)) h
theorem ztR:Rn.Worth Tryz.prog F.zei ⟨9,zez,zeA⟩:=fun hn h=>zse (Nat.le_trans hn (by decide)) h
theorem zqT:Rn.Worth Tryz.prog F.zcn ⟨14,zcz,zcA⟩:=fun hn h=>zp3 (Nat.le_trans hn (by decide)) h
theorem zwQ:Rn.Worth Tryz.prog F.zf9 ⟨7,zgM,zgN⟩:=fun hn h=>zuO (Nat.le_trans hn (by decide)) h
theorem zpa:Rn.Worth Tryz.prog F.zd4 ⟨31,zbJ,zbK⟩:=fun hn h=>zoG (Nat.le_trans hn (by decide)) h
theorem zwR:Rn.Worth Tryz.prog F.zdh ⟨9,zgO,zgP⟩:=fun hn h=>zuP (Nat.le_trans hn (by decide)) h
theorem zEv:Rn.Worth Tryz.prog F.zrd ⟨12,zn4,zn5⟩:=fun hn h=>zCu (Nat.le_trans hn (by decide)) h
theorem zqU:Rn.Worth Tryz.prog F.zco ⟨1,zcB,zcC⟩:=fun hn h=>zp4 (Nat.le_trans hn (by decide)) h
theorem zB1:Rn.Worth Tryz.prog F.zlw ⟨6,zlL,zlM⟩:=fun hn h=>zz8 (Nat.le_trans hn (by decide)) h
theorem zzj:Rn.Worth Tryz.prog F.ziE ⟨6,ziY,ziZ⟩:=fun hn h=>zxN (Nat.le_trans hn (by decide)) h
theorem zGC:Rn.Worth Tryz.prog F.zph ⟨6,zpw,zpx⟩:=fun hn h=>zDL (Nat.le_trans hn (by decide)) h
theorem zye:Rn.Worth Tryz.prog F.zej ⟨3,zhH,zhI⟩:=fun hn h=>zwc (Nat.le_trans hn (by decide)) h
theorem zB2:Rn.Worth Tryz.prog F.zoB ⟨7,zlN,zlO⟩:=fun hn h=>zz9 (Nat.le_trans hn (by decide)) h
theorem zzk:Rn.Worth Tryz.prog F.zbU ⟨5,zi0,zi1⟩:=fun hn h=>zxO (Nat.le_trans hn (by decide)) h
theorem zEw:Rn.Worth Tryz.prog F.za9 ⟨12,zn6,zn7⟩:=fun hn h=>zCv (Nat.le_trans hn (by decide)) h
theorem zwS:Rn.Worth Tryz.prog F.zga ⟨5,zgQ,zgR⟩:=fun hn h=>zuQ (Nat.le_trans hn (by decide)) h
theorem zzl:Rn.Worth Tryz.prog F.zmk ⟨8,zi2,zi3⟩:=fun hn h=>zxP (Nat.le_trans hn (by decide)) h
theorem zlh:Rn.Worth Tryz.prog F.zbi ⟨2,zav,zaw⟩:=fun hn h=>zkH (Nat.le_trans hn (by decide)) h
theorem zGD:Rn.Worth Tryz.prog F.zpi ⟨17,zpy,zpz⟩:=fun hn h=>zDO (Nat.le_trans hn (by decide)) h
theorem zfU:Rn.Worth Tryz.prog F.zam ⟨2,zL,zM⟩:=fun hn h=>zfL (Nat.le_trans hn (by decide)) h
theorem zjf:Rn.Worth Tryz.prog F.zaS ⟨2,zaa,zab⟩:=fun hn h=>zif (Nat.le_trans hn (by decide)) h
theorem zyf:Rn.Worth Tryz.prog F.zlx ⟨11,zhJ,zhK⟩:=fun hn h=>zwd (Nat.le_trans hn (by decide)) h
theorem zCL:Rn.Worth Tryz.prog F.zpP ⟨3,zmS,zmT⟩:=fun hn h=>zBj (Nat.le_trans hn (by decide)) h
theorem zqV:Rn.Worth Tryz.prog F.zfH ⟨4,zcD,zcE⟩:=fun hn h=>zp5 (Nat.le_trans hn (by decide)) h
theorem zyg:Rn.Worth Tryz.prog F.zhs ⟨5,zhL,zhM⟩:=fun hn h=>zwe (Nat.le_trans hn (by decide)) h
theorem zrO:Rn.Worth Tryz.prog F.zgb ⟨77,zcZ,zc0⟩:=fun hn h=>zqF (Nat.le_trans hn (by decide)) h
theorem ztS:Rn.Worth Tryz.prog F.zek ⟨3,zeB,zeC⟩:=fun hn h=>zsf (Nat.le_trans hn (by decide)) h
theorem zzm:Rn.Worth Tryz.prog F.zc8 ⟨4,zi4,zi5⟩:=fun hn h=>zxQ (Nat.le_trans hn (by decide)) h
theorem zCM:Rn.Worth Tryz.prog F.zbk ⟨3,zmU,zmV⟩:=fun hn h=>zBk (Nat.le_trans hn (by decide)) h
theorem zEx:Rn.Worth Tryz.prog F.zrg ⟨5,zn8,zn9⟩:=fun hn h=>zCy (Nat.le_trans hn (by decide)) h
theorem ztT:Rn.Worth Tryz.prog F.zia ⟨5,zeD,zeE⟩:=fun hn h=>zsg (Nat.le_trans hn (by decide)) h
theorem zj2:Rn.Worth Tryz.prog F.za5 ⟨8,zak,zal⟩:=fun hn h=>zjt (Nat.le_trans hn (by decide)) h
theorem zva:Rn.Worth Tryz.prog F.zjp ⟨3,zfu,zfv⟩:=fun hn h=>zts (Nat.le_trans hn (by decide)) h
theorem zpE:Rn.Worth Tryz.prog F.zC ⟨3,zeF,zeG⟩:=fun hn h=>zwf (Nat.le_trans hn (by decide)) h
theorem zrP:Rn.Worth Tryz.prog F.zgd ⟨6,zc1,zc2⟩:=fun hn h=>zqG (Nat.le_trans hn (by decide)) h
theorem zqh:Rn.Worth Tryz.prog F.zeQ ⟨9,zca,zcb⟩:=fun hn h=>zo2 (Nat.le_trans hn (by decide)) h
theorem zGE:Rn.Worth Tryz.prog F.zkS ⟨25,zpA,zpB⟩:=fun hn h=>zDR (Nat.le_trans hn (by decide)) h
theorem zvb:Rn.Worth Tryz.prog F.zcM ⟨16,zfw,zfx⟩:=fun hn h=>ztt (Nat.le_trans hn (by decide)) h
theorem zwT:Rn.Worth Tryz.prog F.zkE ⟨13,zgU,zgV⟩:=fun hn h=>zuT (Nat.le_trans hn (by decide)) h
theorem zsx:Rn.Worth Tryz.prog F.zax ⟨3,zdW,zdX⟩:=fun hn h=>zrE (Nat.le_trans hn (by decide)) h
theorem zvc:Rn.Worth Tryz.prog F.zcN ⟨12,zfy,zfz⟩:=fun hn h=>ztu (Nat.le_trans hn (by decide)) h
theorem zvd:Rn.Worth Tryz.prog F.zaW ⟨8,zfA,zfB⟩:=fun hn h=>ztv (Nat.le_trans hn (by decide)) h
theorem zwU:Rn.Worth Tryz.prog F.zdj ⟨11,zgW,zgX⟩:=fun hn h=>zuU (Nat.le_trans hn (by decide)) h
theorem ztU:Rn.Worth Tryz.prog F.zcg ⟨16,zeH,zeI⟩:=fun hn h=>zsh (Nat.le_trans hn (by decide)) h
theorem zzn:Rn.Worth Tryz.prog F.zmm ⟨13,zi6,zi7⟩:=fun hn h=>zxT (Nat.le_trans hn (by decide)) h
theorem zzo:Rn.Worth Tryz.prog F.ziF ⟨5,zi8,zi9⟩:=fun hn h=>zxU (Nat.le_trans hn (by decide)) h
theorem zAw:Rn.Worth Tryz.prog F.zg2 ⟨6,zkt,zku⟩:=fun hn h=>zyV (Nat.le_trans hn (by decide)) h
theorem zma:Rn.Worth Tryz.prog F.zbz ⟨10,zaJ,zaK⟩:=fun hn h=>zlP (Nat.le_trans hn (by decide)) h
theorem zlW:Rn.Worth Tryz.prog F.zY ⟨21,zaB,zaC⟩:=fun hn h=>zk3 (Nat.le_trans hn (by decide)) h
theorem zEy:Rn.Worth Tryz.prog F.zrh ⟨12,zoa,zob⟩:=fun hn h=>zCB (Nat.le_trans hn (by decide)) h
theorem zjg:Rn.Worth Tryz.prog F.zK ⟨21,zac,zad⟩:=fun hn h=>zig (Nat.le_trans hn (by decide)) h
theorem zkO:Rn.Worth Tryz.prog F.zP ⟨21,zar,zas⟩:=fun hn h=>zjV (Nat.le_trans hn (by decide)) h
theorem zsy:Rn.Worth Tryz.prog F.zhl ⟨7,zdY,zdZ⟩:=fun hn h=>zrF (Nat.le_trans hn (by decide)) h
theorem zqW:Rn.Worth Tryz.prog F.zfI ⟨7,zcF,zcG⟩:=fun hn h=>zp8 (Nat.le_trans hn (by decide)) h
theorem zAx:Rn.Worth Tryz.prog F.znj ⟨3,zkv,zkw⟩:=fun hn h=>zyW (Nat.le_trans hn (by decide)) h
theorem zpb:Rn.Worth Tryz.prog F.zd5 ⟨4,zbL,zbM⟩:=fun hn h=>zoJ (Nat.le_trans hn (by decide)) h
theorem zAy:Rn.Worth Tryz.prog F.znk ⟨7,zkx,zky⟩:=fun hn h=>zyX (Nat.le_trans hn (by decide)) h
theorem zEz:Rn.Worth Tryz.prog F.znG ⟨5,zoc,zod⟩:=fun hn h=>zCE (Nat.le_trans hn (by decide)) h
theorem zB3:Rn.Worth Tryz.prog F.zoC ⟨8,zlQ,zlR⟩:=fun hn h=>zAc (Nat.le_trans hn (by decide)) h
theorem znd:Rn.Worth Tryz.prog F.zch ⟨1,za2,za3⟩:=fun hn h=>zms (Nat.le_trans hn (by decide)) h
theorem zoT:Rn.Worth Tryz.prog F.zai ⟨4,zbv,zbw⟩:=fun hn h=>zoe (Nat.le_trans hn (by decide)) h
theorem ziu:Rn.Worth Tryz.prog F.zaO ⟨10,z1,z2⟩:=fun hn h=>zhR (Nat.le_trans hn (by decide)) h
theorem zfV:Rn.Worth Tryz.prog F.zan ⟨10,zN,zO⟩:=fun hn h=>zfM (Nat.le_trans hn (by decide)) h
theorem zhp:Rn.Worth Tryz.prog F.zay ⟨10,zS,zT⟩:=fun hn h=>zg8 (Nat.le_trans hn (by decide)) h
theorem zrQ:Rn.Worth Tryz.prog F.zgf ⟨12,zc3,zc4⟩:=fun hn h=>zqH (Nat.le_trans hn (by decide)) h
theorem zlX:Rn.Worth Tryz.prog F.zZ ⟨19,zaD,zaE⟩:=fun hn h=>zk6 (Nat.le_trans hn (by decide)) h
theorem ziv:Rn.Worth Tryz.prog F.zaP ⟨8,z5,z6⟩:=fun hn h=>zh0 (Nat.le_trans hn (by decide)) h
theorem zzp:Rn.Worth Tryz.prog F.ziA ⟨8,ziI,ziJ⟩:=fun hn h=>zxx (Nat.le_trans hn (by decide)) h
theorem zve:Rn.Worth Tryz.prog F.zae ⟨3,ze2,ze3⟩:=fun hn h=>zs4 (Nat.le_trans hn (by decide)) h
theorem zvf:Rn.Worth Tryz.prog F.zby ⟨6,ze4,ze5⟩:=fun hn h=>zs5 (Nat.le_trans hn (by decide)) h
theorem zyh:Rn.Worth Tryz.prog F.zlt ⟨6,zhv,zhw⟩:=fun hn h=>zv4 (Nat.le_trans hn (by decide)) h
theorem zvg:Rn.Worth Tryz.prog F.zji ⟨7,zfa,zfb⟩:=fun hn h=>zs8 (Nat.le_trans hn (by decide)) h
theorem zB4:Rn.Worth Tryz.prog F.zoy ⟨5,zlF,zlG⟩:=fun hn h=>zzX (Nat.le_trans hn (by decide)) h
theorem zDe:Rn.T.All (Rn.Worth Tryz.prog) zB := .no (.no (.no (.no (.at zve (.at zEn (.at zEr (.at zAt (.nil) (.nil)) (.at zfU (.nil) (.nil))) (.at zu3 (.at zwO (.nil) (.nil)) (.nil))) (.at zsm (.at zyb (.at zGB (.nil) (.nil)) (.nil)) (.at zwL (.nil) (.at zAw (.nil) (.nil))))) (.no (.at zAo (.at zAp (.at ztP (.nil) (.nil)) (.at zyg (.nil) (.nil))) (.at zst (.nil) (.at zwU (.nil) (.nil)))) (.at zsn (.at zzh (.at zAv (.nil) (.nil)) (.nil)) (.at zAs (.at zEw (.nil) (.nil)) (.at zkO (.nil) (.nil)))))) (.at zzp (.no (.at zu0 (.at ztM (.nil) (.nil)) (.no (.at ztR (.nil) (.nil)) (.at zwT (.nil) (.nil)))) (.at zwF (.at zwH (.at zoi (.nil) (.nil)) (.nil)) (.at zqe (.at zGC (.nil) (.nil)) (.at zlW (.nil) (.nil))))) (.at zGw (.at zwC (.at zsp (.at zu7 (.nil) (.nil)) (.at zzm (.nil) (.nil))) (.no (.at zwR (.nil) (.nil)) (.nil))) (.at zBY (.at zB4 (.at zCJ (.nil) (.nil)) (.nil)) (.at ztN (.nil) (.at zAx (.nil) (.nil))))))) (.no (.at zBX (.at zvf (.at zuZ (.at zso (.at zAu (.nil) (.nil)) (.at zjf (.nil) (.nil))) (.no (.at zwP (.nil) (.nil)) (.at zGE (.nil) (.nil)))) (.at zwE (.at zzg (.at zCI (.at ziu (.nil) (.nil)) (.nil)) (.nil)) (.at zqd (.at zB1 (.nil) (.nil)) (.at zma (.nil) (.nil))))) (.no (.at zzc (.no (.at zu5 (.nil) (.nil)) (.at zrO (.nil) (.nil))) (.nil)) (.at zEp (.no (.at zyd (.nil) (.nil)) (.nil)) (.at zzi (.at zzl (.nil) (.nil)) (.at zsy (.nil) (.nil)))))) (.at zwA (.at zwB (.at zo7 (.at zu1 (.at ztO (.at zB3 (.nil) (.nil)) (.nil)) (.at zCL (.nil) (.nil))) (.at zGz (.nil) (.at zvc (.nil) (.nil)))) (.no (.at zGy (.nil) (.nil)) (.at zEt (.at zB2 (.nil) (.nil)) (.nil)))) (.no (.at zvg (.at zzf (.no (.at zoT (.nil) (.nil)) (.nil)) (.at zEx (.nil) (.nil))) (.at zAr (.no (.at zlX (.nil) (.nil)) (.nil)) (.at zzn (.nil) (.nil)))) (.at zGx (.at zqR (.at zCK (.nil) (.nil)) (.at zrP (.nil) (.nil))) (.at zyc (.at zGD (.nil) (.nil)) (.at zAy (.nil) (.nil)))))))) (.no (.no (.at zAl (.at zsj (.at zAn (.at zo8 (.at zEu (.nil) (.nil)) (.nil)) (.no (.at zoj (.nil) (.nil)) (.nil))) (.at zwD (.at zu2 (.at zCH (.nil) (.nil)) (.at zj2 (.nil) (.nil))) (.at zo9 (.at zqU (.nil) (.nil)) (.nil)))) (.no (.at zsl (.at zAq (.at ztQ (.nil) (.nil)) (.nil)) (.at zsu (.nil) (.at ztU (.nil) (.nil)))) (.at zEo (.at zoh (.at znc (.nil) (.nil)) (.nil)) (.at zwM (.at zwS (.nil) (.nil)) (.nil))))) (.at ztL (.no (.no (.at zwG (.no (.at zEz (.nil) (.nil)) (.nil)) (.at zyf (.nil) (.nil))) (.at zqS (.at zqT (.nil) (.nil)) (.at zsx (.nil) (.nil)))) (.at zqP (.at zwI (.nil) (.nil)) (.at zBZ (.at zye (.nil) (.nil)) (.at zEy (.nil) (.nil))))) (.no (.at zyh (.at zsq (.at zu8 (.nil) (.nil)) (.at zCM (.nil) (.nil))) (.nil)) (.at zze (.at zrM (.at zB0 (.nil) (.nil)) (.at zpE (.nil) (.nil))) (.at zqf (.no (.at ziv (.nil) (.nil)) (.nil)) (.at zpb (.nil) (.nil))))))) (.at zBW (.at zAm (.at zqO (.at zoQ (.at zqQ (.at zGA (.nil) (.nil)) (.nil)) (.at zwJ (.no (.at zhp (.nil) (.nil)) (.nil)) (.at zvb (.nil) (.nil)))) (.at zx9 (.no (.at zqg (.nil) (.nil)) (.nil)) (.at zoS (.at zzj (.nil) (.nil)) (.nil)))) (.at zCG (.at zoR (.no (.at zu6 (.nil) (.nil)) (.at ztS (.nil) (.nil))) (.at zqc (.at zpa (.at zrQ (.nil) (.nil)) (.nil)) (.nil))) (.no (.at zss (.no (.at zfV (.nil) (.nil)) (.nil)) (.at zva (.nil) (.nil))) (.at zsw (.at zlh (.nil) (.nil)) (.at zqW (.nil) (.nil)))))) (.no (.no (.at zsk (.at zya (.at zwN (.at znd (.nil) (.nil)) (.nil)) (.at zqV (.nil) (.nil))) (.at zwK (.at zwQ (.nil) (.nil)) (.at zvd (.nil) (.nil)))) (.no (.at zsr (.nil) (.nil)) (.at zu4 (.at zzk (.nil) (.nil)) (.at zjg (.nil) (.nil))))) (.at zEm (.at zzd (.at zEs (.at zu9 (.nil) (.nil)) (.at ztT (.nil) (.nil))) (.at zsv (.at zEv (.nil) (.nil)) (.at zzo (.nil) (.nil)))) (.at zEq (.no (.at zrN (.nil) (.nil)) (.at zqh (.nil) (.nil))) (.nil))))))
end Go.Proofs.YtdogcflaekkdkaaGreat
namespace Go.Proofs.YtdogcflaekkdkaaGreat
open Go Go.Vm
def bl (b:ByteArray):List UInt8:=b.data.toList
def zLu (a b:ByteArray):Bool:=Op.bytesLess a.toList b.toList
structure FileR where
 name:ByteArray
 safe:ByteArray
 tail:ByteArray
def FileR.all (f:FileR):ByteArray:=f.safe++f.tail
structure zyi where
 limit:Int
 l:List FileR
 left:Int
 down:Bool
def zDf (L:List FileR):Prop:=L.Pairwise fun x y=>zLu x.name y.name=true
def zLv (L:List FileR) (n:ByteArray):Option FileR:=L.find? fun f=>decide (f.name=n)
def zLw (L:List FileR):Nat:=(L.map fun f=>f.safe.size+f.tail.size).sum
structure zMf (D:zyi):Prop where
 sort:zDf D.l
 len:D.l.length≤64
 used:zLw D.l≤1048576
 limit:0≤D.limit∧D.limit≤1048576
 left : -1≤D.left∧D.left≤9223372036854775807
end Go.Proofs.YtdogcflaekkdkaaGreat
namespace Go.Proofs.YtdogcflaekkdkaaGreat
open Go Go.Vm
attribute [local irreducible] Brn Ob Grow CallsM inR zh6 zfC Mem.row Mem.cells Mem.setCells Mem.upd Go.Vm.Own zix znw zmE zjI New SrcOk zat NewSl Mem.textAt Mem.mapAt Mem.iterAt zd6 kfind Wr zm5 Elems
set_option maxRecDepth 10000
section
@[reducible] def zLN (k:ByteArray):Value := .string k
structure FX where
 f:Nat
 a:Option Addr
 c:Nat
 p:List UInt8
 safe:Nat
@[reducible] def fxV (x:FX):Value:=ptr x.f
structure zLO (M:Mem) (x:FX):Prop where
 self:M.has x.f T.zCi [.slice x.a x.p.length x.c,.int .i64 x.safe]
 row:Wr M T.zyq 1 x.a x.p.length x.c (x.p.map znv)
def FX.own (x:FX):Nat→Prop:=fun y=>y=x.f∨blk x.a y
def zKR (x y:FX):Prop:=∀ z,x.own z→¬y.own z
abbrev FsT:=List (ByteArray×FX)
structure DAt (M:Mem) (p b:Nat) (D:zyi) (es:FsT):Prop where
 self:M.has p T.zCh [.int .i64 D.limit,.map (some b),.int .i64 D.left,.bool D.down]
 map:zK7 zLN fxV M b es
 ents:∀ q∈es,zLO M q.2
 apart:es.Pairwise fun x y=>zKR x.2 y.2
def zEA (p b:Nat) (es:FsT):Nat→Prop:=fun y=>y=p∨y=b∨∃ q∈es,q.2.own y
variable {M:Mem} {p b:Nat} {D:zyi} {es:FsT}
def cont (f:FileR):List UInt8×Nat:=(bl f.all,f.safe.size)
structure zLP (es:FsT) (L:List FileR):Prop where
 sort:zDf L
 nodup:(es.map (·.1)).Nodup
 same:∀ n,(zKk es n).map (fun x=>(x.p,x.safe))=(zLv L n).map cont
end
section
variable {M:Mem} {p b:Nat} {D:zyi} {es:FsT}
structure zMb (M M':Mem) (p b:Nat) (es es':FsT) (D':zyi):Prop where
 at':DAt M' p b D' es'
 rel:zLP es' D'.l
 keep:Mem.keep (zEA p b es) M M'
 own:∀ y,zEA p b es' y→zEA p b es y∨M y=none
theorem Wr.newSl {E:TypeId} {s:Nat} {a:Option Addr} {n c:Nat} {L:List Value} (h:Wr M E s a n c L):NewSl (M.minus (blk a)) E s a n c L M:=by
 unfold Wr at h
 obtain⟨h1,h2,h3⟩:=h
 exact newSl_iff.2 ⟨Mem.minus_le _ _,h1,h2,h3.imp id fun ⟨b,cs,ha,hh,hr⟩=>⟨b,cs,ha,Mem.minus_in ⟨_,ha,rfl⟩,hh,hr⟩⟩
end
end Go.Proofs.YtdogcflaekkdkaaGreat
