/- Part of this proof;laid by program. -/
import Derived.Test.YtpnhjkiligohnaaGreatDoorJ15
import Derived.Test.YtpnhjkiligohnaaGreatDoorJ19
import Derived.Test.YtpnhjkiligohnaaGreatDoorJ9
import Derived.Sort.Walk0
import Derived.Shelf.Sort.Plain
import Derived.Shelf.Slices.In.SortNone
set_option linter.unusedVariables false
set_option linter.unusedSimpArgs false
namespace Go.Proofs.YtpnhjkiligohnaaGreatDoor
open Go Go.Vm
set_option maxRecDepth 20000
def zA:Rn.T Rn.FC := .n (.n (.n (.n (.n (.n (.n (.n (.n (.e) (some ⟨8,zkJ,zkK⟩) (.e)) none (.e)) none (.e)) none (.n (.n (.n (.e) (some ⟨9,zcV,zcW⟩) (.e)) (some ⟨12,zdG,zdH⟩) (.e)) (some ⟨91,zf4,zf5⟩) (.n (.e) (some ⟨19,zbH,zbI⟩) (.e)))) none (.n (.n (.n (.n (.e) (some ⟨5,zqj,zqk⟩) (.e)) (some ⟨4,zl9,zma⟩) (.e)) none (.n (.n (.e) (some ⟨7,zdp,zdq⟩) (.e)) (some ⟨7,zfu,zfv⟩) (.e))) none (.n (.n (.n (.e) (some ⟨10,zao,zap⟩) (.e)) (some ⟨8,znG,znH⟩) (.e)) (some ⟨3,zkz,zkA⟩) (.n (.n (.e) (some ⟨10,zaz,zaA⟩) (.e)) none (.e))))) (some ⟨18,zi5,zi6⟩) (.n (.n (.n (.n (.n (.e) (some ⟨11,zjl,zjm⟩) (.e)) (some ⟨4,znE,znF⟩) (.e)) (some ⟨13,zhu,zhv⟩) (.n (.n (.e) (some ⟨6,zrP,zrQ⟩) (.e)) (some ⟨3,zcP,zcQ⟩) (.e))) (some ⟨6,zhi,zhj⟩) (.n (.n (.n (.e) (some ⟨10,zaj,zak⟩) (.e)) (some ⟨26,zrF,zrG⟩) (.e)) (some ⟨6,zes,zet⟩) (.n (.e) (some ⟨5,zbW,zbX⟩) (.e)))) (some ⟨65,zlX,zlY⟩) (.n (.n (.n (.e) (some ⟨13,zhU,zhV⟩) (.e)) (some ⟨3,zoI,zoJ⟩) (.n (.e) (some ⟨9,zoK,zoL⟩) (.e))) (some ⟨12,zhk,zhl⟩) (.n (.e) none (.n (.n (.e) (some ⟨12,zdO,zdP⟩) (.e)) (some ⟨12,zqh,zqi⟩) (.e)))))) none (.n (.n (.n (.n (.n (.n (.e) (some ⟨2,za3,za4⟩) (.e)) (some ⟨3,zcp,zcq⟩) (.e)) none (.n (.n (.e) (some ⟨6,zkP,zkQ⟩) (.e)) (some ⟨18,zeI,zeJ⟩) (.e))) none (.n (.n (.n (.e) (some ⟨9,zfC,zfD⟩) (.e)) none (.e)) (some ⟨6,zhE,zhF⟩) (.n (.e) (some ⟨5,znI,znJ⟩) (.e)))) none (.n (.n (.n (.e) (some ⟨8,zjf,zjg⟩) (.e)) none (.n (.e) (some ⟨52,zgq,zgr⟩) (.e))) none (.e))) none (.n (.n (.n (.n (.e) (some ⟨14,zhS,zhT⟩) (.e)) (some ⟨66,zem,zen⟩) (.n (.n (.e) (some ⟨5,zii,zij⟩) (.e)) (some ⟨10,zqf,zqg⟩) (.e))) (some ⟨5,zkt,zku⟩) (.n (.n (.e) (some ⟨46,zeG,zeH⟩) (.e)) (some ⟨12,zeu,zev⟩) (.n (.e) (some ⟨1,zbJ,zbK⟩) (.e)))) none (.n (.n (.n (.e) (some ⟨10,zkF,zkG⟩) (.e)) (some ⟨17,zkv,zkw⟩) (.e)) (some ⟨10,zho,zhp⟩) (.n (.n (.n (.e) (some ⟨11,zig,zih⟩) (.e)) none (.e)) (some ⟨13,zhO,zhP⟩) (.e)))))) none (.n (.n (.n (.n (.n (.n (.n (.e) (some ⟨11,zh6,zh7⟩) (.e)) (some ⟨3,zl5,zl6⟩) (.e)) none (.n (.n (.e) (some ⟨4,zcc,zcd⟩) (.e)) (some ⟨12,zqd,zqe⟩) (.e))) none (.n (.n (.n (.e) (some ⟨6,zia,zib⟩) (.e)) none (.e)) (some ⟨3,zhC,zhD⟩) (.e))) (some ⟨14,zhg,zhh⟩) (.n (.n (.n (.e) (some ⟨4,zkB,zkC⟩) (.e)) none (.n (.n (.e) (some ⟨4,zcv,zcw⟩) (.e)) (some ⟨1,zgm,zgn⟩) (.e))) none (.n (.e) (some ⟨21,zdb,zdc⟩) (.n (.e) (some ⟨21,za0,za1⟩) (.e))))) none (.n (.n (.n (.n (.n (.e) (some ⟨4,zdn,zdo⟩) (.e)) (some ⟨2,zga,zgb⟩) (.e)) (some ⟨3,zhw,zhx⟩) (.n (.n (.e) (some ⟨7,znN,znO⟩) (.e)) none (.e))) none (.n (.n (.e) (some ⟨5,zeC,zeD⟩) (.e)) (some ⟨3,zb6,zb7⟩) (.n (.e) (some ⟨3,zct,zcu⟩) (.e)))) none (.n (.n (.n (.e) (some ⟨42,zrD,zrE⟩) (.e)) (some ⟨4,zpW,zpX⟩) (.n (.e) (some ⟨5,zcR,zcS⟩) (.e))) (some ⟨4,zpQ,zpR⟩) (.n (.e) (some ⟨16,zf8,zf9⟩) (.e))))) none (.n (.n (.n (.n (.n (.e) (some ⟨37,zb8,zb9⟩) (.e)) (some ⟨7,zrz,zrA⟩) (.n (.n (.e) (some ⟨10,zbm,zbn⟩) (.e)) (some ⟨1,zdl,zdm⟩) (.e))) none (.n (.e) (some ⟨16,zeq,zer⟩) (.n (.e) (some ⟨5,zdI,zdJ⟩) (.e)))) (some ⟨5,zf2,zf3⟩) (.n (.n (.n (.e) (some ⟨4,zkD,zkE⟩) (.e)) (some ⟨30,zeo,zep⟩) (.n (.e) (some ⟨4,zgs,zgt⟩) (.e))) none (.n (.e) none (.n (.e) (some ⟨8,zgu,zgv⟩) (.e))))) none (.n (.n (.n (.n (.n (.e) (some ⟨3,zfw,zfx⟩) (.e)) (some ⟨4,zjd,zje⟩) (.e)) (some ⟨6,zfi,zfj⟩) (.n (.n (.e) (some ⟨12,zqo,zqp⟩) (.e)) (some ⟨3,zrH,zrI⟩) (.e))) none (.n (.n (.e) (some ⟨12,zgg,zgh⟩) (.e)) (some ⟨5,zhK,zhL⟩) (.n (.e) (some ⟨5,zcT,zcU⟩) (.e)))) none (.n (.n (.n (.n (.e) (some ⟨3,zfA,zfB⟩) (.e)) none (.e)) (some ⟨15,zpY,zpZ⟩) (.e)) (some ⟨7,zhs,zht⟩) (.n (.n (.e) (some ⟨9,zh2,zh3⟩) (.e)) none (.n (.e) (some ⟨13,zkH,zkI⟩) (.e)))))))) none (.n (.n (.n (.n (.n (.n (.n (.n (.e) (some ⟨13,zmh,zmi⟩) (.e)) (some ⟨7,zl3,zl4⟩) (.e)) none (.e)) none (.n (.n (.n (.e) (some ⟨19,zbc,zbd⟩) (.e)) (some ⟨1,zdd,zde⟩) (.e)) (some ⟨4,zc9,zda⟩) (.n (.e) (some ⟨3,zjj,zjk⟩) (.e)))) none (.n (.n (.n (.n (.e) (some ⟨5,zfy,zfz⟩) (.e)) (some ⟨2,zew,zex⟩) (.e)) none (.n (.n (.e) (some ⟨3,zml,zmm⟩) (.e)) (some ⟨5,zgk,zgl⟩) (.e))) none (.n (.n (.e) (some ⟨2,zah,zai⟩) (.e)) (some ⟨9,zhM,zhN⟩) (.n (.e) (some ⟨21,zaG,zaH⟩) (.e))))) none (.n (.n (.n (.n (.n (.e) (some ⟨3,zoS,zoT⟩) (.e)) (some ⟨5,zp4,zp5⟩) (.e)) (some ⟨58,zfg,zfh⟩) (.n (.n (.e) (some ⟨3,zjp,zjq⟩) (.e)) (some ⟨25,zjh,zji⟩) (.e))) none (.n (.n (.e) (some ⟨6,zh0,zh1⟩) (.e)) (some ⟨4,zkx,zky⟩) (.n (.e) (some ⟨8,zeK,zeL⟩) (.e)))) none (.n (.n (.n (.e) (some ⟨4,zhW,zhX⟩) (.e)) (some ⟨5,zpU,zpV⟩) (.n (.n (.e) (some ⟨8,zax,zay⟩) (.e)) (some ⟨58,zoM,zoN⟩) (.e))) (some ⟨4,zpO,zpP⟩) (.n (.n (.n (.e) (some ⟨5,zql,zqm⟩) (.e)) none (.e)) none (.n (.e) (some ⟨25,zrL,zrM⟩) (.e)))))) none (.n (.n (.n (.n (.n (.e) (some ⟨52,zcL,zcM⟩) (.e)) (some ⟨7,zoG,zoH⟩) (.n (.n (.e) (some ⟨6,zmj,zmk⟩) (.e)) (some ⟨13,zdj,zdk⟩) (.e))) none (.n (.n (.n (.e) (some ⟨7,zic,zid⟩) (.e)) (some ⟨4,zhY,zhZ⟩) (.e)) (some ⟨3,zf6,zf7⟩) (.n (.e) (some ⟨5,zoQ,zoR⟩) (.e)))) none (.n (.n (.n (.e) (some ⟨5,zge,zgf⟩) (.e)) none (.e)) none (.e))) none (.n (.n (.n (.n (.n (.e) (some ⟨77,zdK,zdL⟩) (.e)) (some ⟨66,zgc,zgd⟩) (.e)) (some ⟨63,zhA,zhB⟩) (.n (.n (.e) (some ⟨21,zbe,zbf⟩) (.e)) (some ⟨17,zmd,zme⟩) (.e))) (some ⟨3,zlZ,zl0⟩) (.n (.n (.e) (some ⟨11,zca,zcb⟩) (.e)) (some ⟨10,zhI,zhJ⟩) (.e))) none (.n (.n (.n (.e) (some ⟨5,zbS,zbT⟩) (.e)) (some ⟨4,zrB,zrC⟩) (.e)) (some ⟨44,zhq,zhr⟩) (.n (.n (.n (.e) (some ⟨16,zfG,zfH⟩) (.e)) (some ⟨31,zcr,zcs⟩) (.e)) none (.e)))))) none (.n (.n (.n (.n (.n (.n (.n (.e) (some ⟨4,zkL,zkM⟩) (.e)) (some ⟨3,zhQ,zhR⟩) (.e)) (some ⟨17,znA,znB⟩) (.n (.n (.e) (some ⟨6,znK,znL⟩) (.e)) none (.e))) none (.n (.e) (some ⟨28,zi9,zja⟩) (.n (.n (.e) (some ⟨13,zik,zil⟩) (.e)) (some ⟨7,zoO,zoP⟩) (.e)))) none (.n (.n (.n (.n (.e) (some ⟨8,zaS,zaT⟩) (.e)) (some ⟨41,zp6,zp7⟩) (.e)) none (.n (.n (.e) (some ⟨5,zkT,zkU⟩) (.e)) (some ⟨1,zgo,zgp⟩) (.e))) none (.n (.n (.e) (some ⟨2,zaE,zaF⟩) (.e)) (some ⟨11,zfk,zfl⟩) (.e)))) none (.n (.n (.n (.n (.n (.e) (some ⟨5,zjn,zjo⟩) (.e)) (some ⟨3,zfo,zfp⟩) (.e)) (some ⟨5,zhy,zhz⟩) (.n (.n (.e) (some ⟨5,zkR,zkS⟩) (.e)) (some ⟨3,zmb,zmc⟩) (.e))) (some ⟨4,zi7,zi8⟩) (.n (.n (.e) (some ⟨41,zeE,zeF⟩) (.e)) (some ⟨24,zhG,zhH⟩) (.n (.e) (some ⟨6,zeM,zeN⟩) (.e)))) none (.n (.n (.n (.e) (some ⟨11,zey,zez⟩) (.e)) (some ⟨25,znC,znD⟩) (.n (.e) (some ⟨5,zbU,zbV⟩) (.e))) (some ⟨7,zhm,zhn⟩) (.n (.n (.e) (some ⟨14,zdh,zdi⟩) (.e)) (some ⟨29,zfm,zfn⟩) (.e))))) none (.n (.n (.n (.n (.n (.n (.e) (some ⟨17,zrN,zrO⟩) (.e)) (some ⟨4,zcN,zcO⟩) (.e)) (some ⟨71,zpS,zpT⟩) (.n (.e) (some ⟨14,zfq,zfr⟩) (.e))) (some ⟨126,zpM,zpN⟩) (.n (.n (.e) (some ⟨3,zdf,zdg⟩) (.e)) (some ⟨11,zl1,zl2⟩) (.n (.e) (some ⟨4,zh4,zh5⟩) (.e)))) (some ⟨10,zkr,zks⟩) (.n (.n (.e) none (.n (.e) (some ⟨7,zrJ,zrK⟩) (.e))) (some ⟨5,zny,znz⟩) (.n (.n (.e) (some ⟨3,zgi,zgj⟩) (.e)) none (.n (.e) (some ⟨3,zeO,zeP⟩) (.e))))) (some ⟨25,zlV,zlW⟩) (.n (.n (.n (.n (.n (.e) (some ⟨4,zkN,zkO⟩) (.e)) (some ⟨23,zl7,zl8⟩) (.e)) none (.n (.n (.e) (some ⟨7,zeQ,zeR⟩) (.e)) (some ⟨4,zfs,zft⟩) (.e))) none (.n (.e) (some ⟨12,zjb,zjc⟩) (.e))) none (.n (.n (.n (.n (.e) (some ⟨6,zdM,zdN⟩) (.e)) (some ⟨30,zeA,zeB⟩) (.e)) (some ⟨1,zp0,zp1⟩) (.n (.e) (some ⟨8,zmf,zmg⟩) (.e))) (some ⟨3,zcn,zco⟩) (.n (.e) none (.n (.e) (some ⟨9,zgw,zgx⟩) (.e))))))))
theorem zzU:Rn.Worth Tryz.prog F.zmp ⟨44,zhq,zhr⟩:=fun hn h=>zxy (Nat.le_trans hn (by decide)) h
theorem zBP:Rn.Worth Tryz.prog F.zae ⟨18,zi5,zi6⟩:=fun hn h=>zze (Nat.le_trans hn (by decide)) h
theorem zEU:Rn.Worth Tryz.prog F.zeZ ⟨25,zlV,zlW⟩:=fun hn h=>zCC (Nat.le_trans hn (by decide)) h
theorem zzV:Rn.Worth Tryz.prog F.zcA ⟨14,zhg,zhh⟩:=fun hn h=>zxh (Nat.le_trans hn (by decide)) h
theorem zyj:Rn.Worth Tryz.prog F.zbz ⟨5,zf2,zf3⟩:=fun hn h=>zvC (Nat.le_trans hn (by decide)) h
theorem zDm:Rn.Worth Tryz.prog F.zcB ⟨10,zkr,zks⟩:=fun hn h=>zA8 (Nat.le_trans hn (by decide)) h
theorem zEV:Rn.Worth Tryz.prog F.ze0 ⟨65,zlX,zlY⟩:=fun hn h=>zCF (Nat.le_trans hn (by decide)) h
theorem zJL:Rn.Worth Tryz.prog F.ztA ⟨126,zpM,zpN⟩:=fun hn h=>zHw (Nat.le_trans hn (by decide)) h
theorem zzW:Rn.Worth Tryz.prog F.zmo ⟨6,zhi,zhj⟩:=fun hn h=>zxs (Nat.le_trans hn (by decide)) h
theorem zBQ:Rn.Worth Tryz.prog F.zb3 ⟨4,zi7,zi8⟩:=fun hn h=>zzl (Nat.le_trans hn (by decide)) h
theorem zDn:Rn.Worth Tryz.prog F.zcC ⟨5,zkt,zku⟩:=fun hn h=>zA9 (Nat.le_trans hn (by decide)) h
theorem zEW:Rn.Worth Tryz.prog F.zds ⟨3,zlZ,zl0⟩:=fun hn h=>zCK (Nat.le_trans hn (by decide)) h
theorem zGX:Rn.Worth Tryz.prog F.znq ⟨5,zny,znz⟩:=fun hn h=>zEw (Nat.le_trans hn (by decide)) h
theorem zzX:Rn.Worth Tryz.prog F.zd0 ⟨12,zhk,zhl⟩:=fun hn h=>zxv (Nat.le_trans hn (by decide)) h
theorem zJM:Rn.Worth Tryz.prog F.ztB ⟨4,zpO,zpP⟩:=fun hn h=>zHx (Nat.le_trans hn (by decide)) h
theorem zJN:Rn.Worth Tryz.prog F.ztC ⟨4,zpQ,zpR⟩:=fun hn h=>zHy (Nat.le_trans hn (by decide)) h
theorem zzY:Rn.Worth Tryz.prog F.zg5 ⟨7,zhm,zhn⟩:=fun hn h=>zxw (Nat.le_trans hn (by decide)) h
theorem zzZ:Rn.Worth Tryz.prog F.zj ⟨10,zho,zhp⟩:=fun hn h=>zxx (Nat.le_trans hn (by decide)) h
theorem zz0:Rn.Worth Tryz.prog F.zmq ⟨7,zhs,zht⟩:=fun hn h=>zxz (Nat.le_trans hn (by decide)) h
theorem zrm:Rn.Worth Tryz.prog F.zcm ⟨3,zcn,zco⟩:=fun hn h=>zqS (Nat.le_trans hn (by decide)) h
theorem zGY:Rn.Worth Tryz.prog F.zgE ⟨17,znA,znB⟩:=fun hn h=>zEx (Nat.le_trans hn (by decide)) h
theorem zHR:Rn.Worth Tryz.prog F.zlA ⟨7,zoG,zoH⟩:=fun hn h=>zGa (Nat.le_trans hn (by decide)) h
theorem zMe:Rn.Worth Tryz.prog F.ze9 ⟨7,zrz,zrA⟩:=fun hn h=>zIX (Nat.le_trans hn (by decide)) h
theorem zJO:Rn.Worth Tryz.prog F.ztD ⟨71,zpS,zpT⟩:=fun hn h=>zHB (Nat.le_trans hn (by decide)) h
theorem zz1:Rn.Worth Tryz.prog F.zg6 ⟨13,zhu,zhv⟩:=fun hn h=>zxA (Nat.le_trans hn (by decide)) h
theorem zwl:Rn.Worth Tryz.prog F.zaX ⟨58,zfg,zfh⟩:=fun hn h=>zuv (Nat.le_trans hn (by decide)) h
theorem zz2:Rn.Worth Tryz.prog F.zmr ⟨3,zhw,zhx⟩:=fun hn h=>zxB (Nat.le_trans hn (by decide)) h
theorem zz3:Rn.Worth Tryz.prog F.zms ⟨5,zhy,zhz⟩:=fun hn h=>zxC (Nat.le_trans hn (by decide)) h
theorem zuO:Rn.Worth Tryz.prog F.ziM ⟨66,zem,zen⟩:=fun hn h=>ztS (Nat.le_trans hn (by decide)) h
theorem zz4:Rn.Worth Tryz.prog F.zk ⟨63,zhA,zhB⟩:=fun hn h=>zxD (Nat.le_trans hn (by decide)) h
theorem zwm:Rn.Worth Tryz.prog F.zjM ⟨6,zfi,zfj⟩:=fun hn h=>zuw (Nat.le_trans hn (by decide)) h
theorem zuP:Rn.Worth Tryz.prog F.zei ⟨30,zeo,zep⟩:=fun hn h=>ztT (Nat.le_trans hn (by decide)) h
theorem zHS:Rn.Worth Tryz.prog F.zaR ⟨3,zoI,zoJ⟩:=fun hn h=>zGb (Nat.le_trans hn (by decide)) h
theorem zJP:Rn.Worth Tryz.prog F.zdD ⟨5,zpU,zpV⟩:=fun hn h=>zHC (Nat.le_trans hn (by decide)) h
theorem zJQ:Rn.Worth Tryz.prog F.zpJ ⟨4,zpW,zpX⟩:=fun hn h=>zHD (Nat.le_trans hn (by decide)) h
theorem zGZ:Rn.Worth Tryz.prog F.zqL ⟨25,znC,znD⟩:=fun hn h=>zEy (Nat.le_trans hn (by decide)) h
theorem zDo:Rn.Worth Tryz.prog F.zof ⟨17,zkv,zkw⟩:=fun hn h=>zBe (Nat.le_trans hn (by decide)) h
theorem zMf:Rn.Worth Tryz.prog F.zvl ⟨4,zrB,zrC⟩:=fun hn h=>zIY (Nat.le_trans hn (by decide)) h
theorem zJR:Rn.Worth Tryz.prog F.ztE ⟨15,zpY,zpZ⟩:=fun hn h=>zHE (Nat.le_trans hn (by decide)) h
theorem zJS:Rn.Worth Tryz.prog F.ztF ⟨1,zp0,zp1⟩:=fun hn h=>zHF (Nat.le_trans hn (by decide)) h
theorem zyk:Rn.Worth Tryz.prog F.zbA ⟨91,zf4,zf5⟩:=fun hn h=>zvF (Nat.le_trans hn (by decide)) h
theorem ztd:Rn.Worth Tryz.prog F.zgF ⟨4,zc9,zda⟩:=fun hn h=>zsb (Nat.le_trans hn (by decide)) h
theorem zz5:Rn.Worth Tryz.prog F.zmt ⟨3,zhC,zhD⟩:=fun hn h=>zxM (Nat.le_trans hn (by decide)) h
theorem zBR:Rn.Worth Tryz.prog F.znr ⟨28,zi9,zja⟩:=fun hn h=>zzo (Nat.le_trans hn (by decide)) h
theorem zz6:Rn.Worth Tryz.prog F.zmu ⟨6,zhE,zhF⟩:=fun hn h=>zxN (Nat.le_trans hn (by decide)) h
theorem zyl:Rn.Worth Tryz.prog F.zbB ⟨3,zf6,zf7⟩:=fun hn h=>zvG (Nat.le_trans hn (by decide)) h
theorem zuQ:Rn.Worth Tryz.prog F.ziN ⟨16,zeq,zer⟩:=fun hn h=>ztU (Nat.le_trans hn (by decide)) h
theorem zEX:Rn.Worth Tryz.prog F.zpl ⟨11,zl1,zl2⟩:=fun hn h=>zCP (Nat.le_trans hn (by decide)) h
theorem zuR:Rn.Worth Tryz.prog F.ziO ⟨6,zes,zet⟩:=fun hn h=>ztV (Nat.le_trans hn (by decide)) h
theorem zDp:Rn.Worth Tryz.prog F.zog ⟨4,zkx,zky⟩:=fun hn h=>zBf (Nat.le_trans hn (by decide)) h
theorem zq4:Rn.Worth Tryz.prog F.zal ⟨3,zb6,zb7⟩:=fun hn h=>zp2 (Nat.le_trans hn (by decide)) h
theorem zz7:Rn.Worth Tryz.prog F.zmv ⟨24,zhG,zhH⟩:=fun hn h=>zxO (Nat.le_trans hn (by decide)) h
theorem zuS:Rn.Worth Tryz.prog F.ziP ⟨12,zeu,zev⟩:=fun hn h=>ztW (Nat.le_trans hn (by decide)) h
theorem zz8:Rn.Worth Tryz.prog F.zcD ⟨10,zhI,zhJ⟩:=fun hn h=>zxP (Nat.le_trans hn (by decide)) h
theorem zz9:Rn.Worth Tryz.prog F.zmw ⟨5,zhK,zhL⟩:=fun hn h=>zxQ (Nat.le_trans hn (by decide)) h
theorem zBS:Rn.Worth Tryz.prog F.zns ⟨12,zjb,zjc⟩:=fun hn h=>zzp (Nat.le_trans hn (by decide)) h
theorem zDq:Rn.Worth Tryz.prog F.zkl ⟨3,zkz,zkA⟩:=fun hn h=>zBg (Nat.le_trans hn (by decide)) h
theorem zAa:Rn.Worth Tryz.prog F.zd1 ⟨9,zhM,zhN⟩:=fun hn h=>zxR (Nat.le_trans hn (by decide)) h
theorem zte:Rn.Worth Tryz.prog F.zgG ⟨21,zdb,zdc⟩:=fun hn h=>zsc (Nat.le_trans hn (by decide)) h
theorem zwn:Rn.Worth Tryz.prog F.zjN ⟨11,zfk,zfl⟩:=fun hn h=>zuz (Nat.le_trans hn (by decide)) h
theorem zym:Rn.Worth Tryz.prog F.zcf ⟨16,zf8,zf9⟩:=fun hn h=>zvJ (Nat.le_trans hn (by decide)) h
theorem zwo:Rn.Worth Tryz.prog F.zcZ ⟨29,zfm,zfn⟩:=fun hn h=>zuC (Nat.le_trans hn (by decide)) h
theorem zAb:Rn.Worth Tryz.prog F.zd2 ⟨13,zhO,zhP⟩:=fun hn h=>zxU (Nat.le_trans hn (by decide)) h
theorem zEY:Rn.Worth Tryz.prog F.ze1 ⟨7,zl3,zl4⟩:=fun hn h=>zCQ (Nat.le_trans hn (by decide)) h
theorem zEZ:Rn.Worth Tryz.prog F.ze2 ⟨3,zl5,zl6⟩:=fun hn h=>zCR (Nat.le_trans hn (by decide)) h
theorem zAc:Rn.Worth Tryz.prog F.zcE ⟨3,zhQ,zhR⟩:=fun hn h=>zxV (Nat.le_trans hn (by decide)) h
theorem zrn:Rn.Worth Tryz.prog F.zeV ⟨3,zcp,zcq⟩:=fun hn h=>zqT (Nat.le_trans hn (by decide)) h
theorem zsw:Rn.Worth Tryz.prog F.zfL ⟨52,zcL,zcM⟩:=fun hn h=>zrc (Nat.le_trans hn (by decide)) h
theorem zq5:Rn.Worth Tryz.prog F.zd3 ⟨37,zb8,zb9⟩:=fun hn h=>zp3 (Nat.le_trans hn (by decide)) h
theorem zsx:Rn.Worth Tryz.prog F.zfM ⟨4,zcN,zcO⟩:=fun hn h=>zrd (Nat.le_trans hn (by decide)) h
theorem zG0:Rn.Worth Tryz.prog F.zqN ⟨4,znE,znF⟩:=fun hn h=>zEz (Nat.le_trans hn (by decide)) h
theorem zJT:Rn.Worth Tryz.prog F.ztG ⟨5,zp4,zp5⟩:=fun hn h=>zHG (Nat.le_trans hn (by decide)) h
theorem zyn:Rn.Worth Tryz.prog F.zdx ⟨2,zga,zgb⟩:=fun hn h=>zvK (Nat.le_trans hn (by decide)) h
theorem zwp:Rn.Worth Tryz.prog F.zfa ⟨3,zfo,zfp⟩:=fun hn h=>zuD (Nat.le_trans hn (by decide)) h
theorem zAd:Rn.Worth Tryz.prog F.zmx ⟨14,zhS,zhT⟩:=fun hn h=>zxW (Nat.le_trans hn (by decide)) h
theorem zyo:Rn.Worth Tryz.prog F.zk6 ⟨66,zgc,zgd⟩:=fun hn h=>zvL (Nat.le_trans hn (by decide)) h
theorem zBT:Rn.Worth Tryz.prog F.znt ⟨4,zjd,zje⟩:=fun hn h=>zzu (Nat.le_trans hn (by decide)) h
theorem zE0:Rn.Worth Tryz.prog F.zpm ⟨23,zl7,zl8⟩:=fun hn h=>zCS (Nat.le_trans hn (by decide)) h
theorem zE1:Rn.Worth Tryz.prog F.zpn ⟨4,zl9,zma⟩:=fun hn h=>zCT (Nat.le_trans hn (by decide)) h
theorem zuT:Rn.Worth Tryz.prog F.ziQ ⟨2,zew,zex⟩:=fun hn h=>ztX (Nat.le_trans hn (by decide)) h
theorem zDr:Rn.Worth Tryz.prog F.zoh ⟨4,zkB,zkC⟩:=fun hn h=>zBj (Nat.le_trans hn (by decide)) h
theorem zJU:Rn.Worth Tryz.prog F.zb4 ⟨41,zp6,zp7⟩:=fun hn h=>zHH (Nat.le_trans hn (by decide)) h
theorem zBU:Rn.Worth Tryz.prog F.zfb ⟨8,zjf,zjg⟩:=fun hn h=>zzv (Nat.le_trans hn (by decide)) h
theorem zyp:Rn.Worth Tryz.prog F.zk7 ⟨5,zge,zgf⟩:=fun hn h=>zvM (Nat.le_trans hn (by decide)) h
theorem zDs:Rn.Worth Tryz.prog F.zoi ⟨4,zkD,zkE⟩:=fun hn h=>zBk (Nat.le_trans hn (by decide)) h
theorem zAe:Rn.Worth Tryz.prog F.zmy ⟨13,zhU,zhV⟩:=fun hn h=>zxX (Nat.le_trans hn (by decide)) h
theorem zAf:Rn.Worth Tryz.prog F.zaZ ⟨4,zhW,zhX⟩:=fun hn h=>zxY (Nat.le_trans hn (by decide)) h
theorem zMg:Rn.Worth Tryz.prog F.zvn ⟨42,zrD,zrE⟩:=fun hn h=>zIZ (Nat.le_trans hn (by decide)) h
theorem zuU:Rn.Worth Tryz.prog F.ziR ⟨11,zey,zez⟩:=fun hn h=>ztY (Nat.le_trans hn (by decide)) h
theorem zDt:Rn.Worth Tryz.prog F.zoj ⟨10,zkF,zkG⟩:=fun hn h=>zBl (Nat.le_trans hn (by decide)) h
theorem zqt:Rn.Worth Tryz.prog F.zdE ⟨5,zbS,zbT⟩:=fun hn h=>zps (Nat.le_trans hn (by decide)) h
theorem zuV:Rn.Worth Tryz.prog F.ziS ⟨30,zeA,zeB⟩:=fun hn h=>ztZ (Nat.le_trans hn (by decide)) h
theorem zuj:Rn.Worth Tryz.prog F.zg7 ⟨12,zdG,zdH⟩:=fun hn h=>zsV (Nat.le_trans hn (by decide)) h
theorem ztf:Rn.Worth Tryz.prog F.zc6 ⟨1,zdd,zde⟩:=fun hn h=>zsd (Nat.le_trans hn (by decide)) h
theorem zAg:Rn.Worth Tryz.prog F.zd4 ⟨4,zhY,zhZ⟩:=fun hn h=>zx1 (Nat.le_trans hn (by decide)) h
theorem ztg:Rn.Worth Tryz.prog F.zbQ ⟨3,zdf,zdg⟩:=fun hn h=>zse (Nat.le_trans hn (by decide)) h
theorem zMh:Rn.Worth Tryz.prog F.zvo ⟨26,zrF,zrG⟩:=fun hn h=>zI0 (Nat.le_trans hn (by decide)) h
theorem zAh:Rn.Worth Tryz.prog F.zmz ⟨6,zh0,zh1⟩:=fun hn h=>zx2 (Nat.le_trans hn (by decide)) h
theorem zuW:Rn.Worth Tryz.prog F.zej ⟨5,zeC,zeD⟩:=fun hn h=>zt0 (Nat.le_trans hn (by decide)) h
theorem zuX:Rn.Worth Tryz.prog F.zek ⟨41,zeE,zeF⟩:=fun hn h=>zt1 (Nat.le_trans hn (by decide)) h
theorem zuY:Rn.Worth Tryz.prog F.zel ⟨46,zeG,zeH⟩:=fun hn h=>zt2 (Nat.le_trans hn (by decide)) h
theorem zq6:Rn.Worth Tryz.prog F.zd5 ⟨11,zca,zcb⟩:=fun hn h=>zp8 (Nat.le_trans hn (by decide)) h
theorem zyq:Rn.Worth Tryz.prog F.zcg ⟨12,zgg,zgh⟩:=fun hn h=>zvN (Nat.le_trans hn (by decide)) h
theorem zG1:Rn.Worth Tryz.prog F.zqP ⟨8,znG,znH⟩:=fun hn h=>zEA (Nat.le_trans hn (by decide)) h
theorem zgV:Rn.Worth Tryz.prog F.zaV ⟨2,zah,zai⟩:=fun hn h=>zgM (Nat.le_trans hn (by decide)) h
theorem zk1:Rn.Worth Tryz.prog F.zbu ⟨2,zaE,zaF⟩:=fun hn h=>zjW (Nat.le_trans hn (by decide)) h
theorem zyr:Rn.Worth Tryz.prog F.zk8 ⟨3,zgi,zgj⟩:=fun hn h=>zvQ (Nat.le_trans hn (by decide)) h
theorem zth:Rn.Worth Tryz.prog F.zc7 ⟨14,zdh,zdi⟩:=fun hn h=>zsf (Nat.le_trans hn (by decide)) h
theorem zro:Rn.Worth Tryz.prog F.zeW ⟨31,zcr,zcs⟩:=fun hn h=>zqW (Nat.le_trans hn (by decide)) h
theorem zAi:Rn.Worth Tryz.prog F.zd7 ⟨9,zh2,zh3⟩:=fun hn h=>zx3 (Nat.le_trans hn (by decide)) h
theorem zJV:Rn.Worth Tryz.prog F.ztI ⟨12,zqd,zqe⟩:=fun hn h=>zHI (Nat.le_trans hn (by decide)) h
theorem zuZ:Rn.Worth Tryz.prog F.zcy ⟨18,zeI,zeJ⟩:=fun hn h=>zt5 (Nat.le_trans hn (by decide)) h
theorem zti:Rn.Worth Tryz.prog F.zaM ⟨13,zdj,zdk⟩:=fun hn h=>zsg (Nat.le_trans hn (by decide)) h
theorem ztj:Rn.Worth Tryz.prog F.zc8 ⟨1,zdl,zdm⟩:=fun hn h=>zsh (Nat.le_trans hn (by decide)) h
theorem zwq:Rn.Worth Tryz.prog F.zjO ⟨14,zfq,zfr⟩:=fun hn h=>zuG (Nat.le_trans hn (by decide)) h
theorem zsy:Rn.Worth Tryz.prog F.zfN ⟨3,zcP,zcQ⟩:=fun hn h=>zre (Nat.le_trans hn (by decide)) h
theorem zBV:Rn.Worth Tryz.prog F.znu ⟨25,zjh,zji⟩:=fun hn h=>zzy (Nat.le_trans hn (by decide)) h
theorem zE2:Rn.Worth Tryz.prog F.ze3 ⟨3,zmb,zmc⟩:=fun hn h=>zCY (Nat.le_trans hn (by decide)) h
theorem zJW:Rn.Worth Tryz.prog F.zb5 ⟨10,zqf,zqg⟩:=fun hn h=>zHJ (Nat.le_trans hn (by decide)) h
theorem zE3:Rn.Worth Tryz.prog F.zpo ⟨17,zmd,zme⟩:=fun hn h=>zCZ (Nat.le_trans hn (by decide)) h
theorem zMi:Rn.Worth Tryz.prog F.zvr ⟨3,zrH,zrI⟩:=fun hn h=>zI3 (Nat.le_trans hn (by decide)) h
theorem zwr:Rn.Worth Tryz.prog F.zjP ⟨4,zfs,zft⟩:=fun hn h=>zuH (Nat.le_trans hn (by decide)) h
theorem zws:Rn.Worth Tryz.prog F.zjQ ⟨7,zfu,zfv⟩:=fun hn h=>zuI (Nat.le_trans hn (by decide)) h
theorem zys:Rn.Worth Tryz.prog F.zk9 ⟨5,zgk,zgl⟩:=fun hn h=>zvT (Nat.le_trans hn (by decide)) h
theorem zyt:Rn.Worth Tryz.prog F.zdy ⟨1,zgm,zgn⟩:=fun hn h=>zvU (Nat.le_trans hn (by decide)) h
theorem zyu:Rn.Worth Tryz.prog F.zf0 ⟨1,zgo,zgp⟩:=fun hn h=>zvV (Nat.le_trans hn (by decide)) h
theorem zyv:Rn.Worth Tryz.prog F.zla ⟨52,zgq,zgr⟩:=fun hn h=>zvW (Nat.le_trans hn (by decide)) h
theorem zyw:Rn.Worth Tryz.prog F.zlb ⟨4,zgs,zgt⟩:=fun hn h=>zvX (Nat.le_trans hn (by decide)) h
theorem zMj:Rn.Worth Tryz.prog F.zoZ ⟨7,zrJ,zrK⟩:=fun hn h=>zI4 (Nat.le_trans hn (by decide)) h
theorem zHT:Rn.Worth Tryz.prog F.zlB ⟨9,zoK,zoL⟩:=fun hn h=>zGe (Nat.le_trans hn (by decide)) h
theorem zHU:Rn.Worth Tryz.prog F.zoE ⟨58,zoM,zoN⟩:=fun hn h=>zGf (Nat.le_trans hn (by decide)) h
theorem zsz:Rn.Worth Tryz.prog F.zfO ⟨5,zcR,zcS⟩:=fun hn h=>zrf (Nat.le_trans hn (by decide)) h
theorem zqu:Rn.Worth Tryz.prog F.zdF ⟨5,zbU,zbV⟩:=fun hn h=>zpt (Nat.le_trans hn (by decide)) h
theorem zE4:Rn.Worth Tryz.prog F.ziv ⟨8,zmf,zmg⟩:=fun hn h=>zC0 (Nat.le_trans hn (by decide)) h
theorem zpg:Rn.Worth Tryz.prog F.zaY ⟨19,zbH,zbI⟩:=fun hn h=>zon (Nat.le_trans hn (by decide)) h
theorem zBW:Rn.Worth Tryz.prog F.zbF ⟨3,zjj,zjk⟩:=fun hn h=>zzz (Nat.le_trans hn (by decide)) h
theorem zHV:Rn.Worth Tryz.prog F.zoF ⟨7,zoO,zoP⟩:=fun hn h=>zGg (Nat.le_trans hn (by decide)) h
theorem zG2:Rn.Worth Tryz.prog F.zd8 ⟨5,znI,znJ⟩:=fun hn h=>zEH (Nat.le_trans hn (by decide)) h
theorem zHW:Rn.Worth Tryz.prog F.zlD ⟨5,zoQ,zoR⟩:=fun hn h=>zGh (Nat.le_trans hn (by decide)) h
theorem zuk:Rn.Worth Tryz.prog F.zg8 ⟨5,zdI,zdJ⟩:=fun hn h=>zs0 (Nat.le_trans hn (by decide)) h
theorem zAj:Rn.Worth Tryz.prog F.zd9 ⟨4,zh4,zh5⟩:=fun hn h=>zx6 (Nat.le_trans hn (by decide)) h
theorem zqv:Rn.Worth Tryz.prog F.zbb ⟨5,zbW,zbX⟩:=fun hn h=>zpu (Nat.le_trans hn (by decide)) h
theorem zu0:Rn.Worth Tryz.prog F.zcz ⟨8,zeK,zeL⟩:=fun hn h=>zt6 (Nat.le_trans hn (by decide)) h
theorem zrp:Rn.Worth Tryz.prog F.zbx ⟨3,zct,zcu⟩:=fun hn h=>zqX (Nat.le_trans hn (by decide)) h
theorem zu1:Rn.Worth Tryz.prog F.ziT ⟨6,zeM,zeN⟩:=fun hn h=>zt7 (Nat.le_trans hn (by decide)) h
theorem zph:Rn.Worth Tryz.prog F.zc1 ⟨1,zbJ,zbK⟩:=fun hn h=>zoo (Nat.le_trans hn (by decide)) h
theorem zsA:Rn.Worth Tryz.prog F.zaC ⟨5,zcT,zcU⟩:=fun hn h=>zrg (Nat.le_trans hn (by decide)) h
theorem zk2:Rn.Worth Tryz.prog F.zaf ⟨21,zaG,zaH⟩:=fun hn h=>zjX (Nat.le_trans hn (by decide)) h
theorem zmM:Rn.Worth Tryz.prog F.zam ⟨21,za0,za1⟩:=fun hn h=>zlH (Nat.le_trans hn (by decide)) h
theorem zyx:Rn.Worth Tryz.prog F.zbC ⟨8,zgu,zgv⟩:=fun hn h=>zvY (Nat.le_trans hn (by decide)) h
theorem zu2:Rn.Worth Tryz.prog F.za8 ⟨3,zeO,zeP⟩:=fun hn h=>zt8 (Nat.le_trans hn (by decide)) h
theorem zJX:Rn.Worth Tryz.prog F.zbP ⟨12,zqh,zqi⟩:=fun hn h=>zHK (Nat.le_trans hn (by decide)) h
theorem zMk:Rn.Worth Tryz.prog F.zmQ ⟨25,zrL,zrM⟩:=fun hn h=>zI5 (Nat.le_trans hn (by decide)) h
theorem zDu:Rn.Worth Tryz.prog F.zok ⟨13,zkH,zkI⟩:=fun hn h=>zBq (Nat.le_trans hn (by decide)) h
theorem zyy:Rn.Worth Tryz.prog F.zf1 ⟨9,zgw,zgx⟩:=fun hn h=>zvZ (Nat.le_trans hn (by decide)) h
theorem zDv:Rn.Worth Tryz.prog F.zol ⟨8,zkJ,zkK⟩:=fun hn h=>zBr (Nat.le_trans hn (by decide)) h
theorem zE5:Rn.Worth Tryz.prog F.zpp ⟨13,zmh,zmi⟩:=fun hn h=>zC1 (Nat.le_trans hn (by decide)) h
theorem zAk:Rn.Worth Tryz.prog F.zmA ⟨11,zh6,zh7⟩:=fun hn h=>zx9 (Nat.le_trans hn (by decide)) h
theorem zDw:Rn.Worth Tryz.prog F.zkm ⟨4,zkL,zkM⟩:=fun hn h=>zBs (Nat.le_trans hn (by decide)) h
theorem zng:Rn.Worth Tryz.prog F.zbY ⟨2,za3,za4⟩:=fun hn h=>zmF (Nat.le_trans hn (by decide)) h
theorem zMl:Rn.Worth Tryz.prog F.zrw ⟨17,zrN,zrO⟩:=fun hn h=>zI8 (Nat.le_trans hn (by decide)) h
theorem zBX:Rn.Worth Tryz.prog F.znv ⟨11,zjl,zjm⟩:=fun hn h=>zzA (Nat.le_trans hn (by decide)) h
theorem zHX:Rn.Worth Tryz.prog F.zr8 ⟨3,zoS,zoT⟩:=fun hn h=>zGm (Nat.le_trans hn (by decide)) h
theorem ztk:Rn.Worth Tryz.prog F.zgI ⟨4,zdn,zdo⟩:=fun hn h=>zso (Nat.le_trans hn (by decide)) h
theorem zBY:Rn.Worth Tryz.prog F.zi2 ⟨5,zjn,zjo⟩:=fun hn h=>zzB (Nat.le_trans hn (by decide)) h
theorem zul:Rn.Worth Tryz.prog F.zg9 ⟨77,zdK,zdL⟩:=fun hn h=>zs3 (Nat.le_trans hn (by decide)) h
theorem zwt:Rn.Worth Tryz.prog F.zfc ⟨3,zfw,zfx⟩:=fun hn h=>zuJ (Nat.le_trans hn (by decide)) h
theorem zDx:Rn.Worth Tryz.prog F.zdU ⟨4,zkN,zkO⟩:=fun hn h=>zBt (Nat.le_trans hn (by decide)) h
theorem zJY:Rn.Worth Tryz.prog F.ztK ⟨5,zqj,zqk⟩:=fun hn h=>zHN (Nat.le_trans hn (by decide)) h
theorem zwu:Rn.Worth Tryz.prog F.zjR ⟨5,zfy,zfz⟩:=fun hn h=>zuK (Nat.le_trans hn (by decide)) h
theorem zlP:Rn.Worth Tryz.prog F.zbL ⟨8,zaS,zaT⟩:=fun hn h=>zlh (Nat.le_trans hn (by decide)) h
theorem zrS:Rn.Worth Tryz.prog F.z7 ⟨3,zfA,zfB⟩:=fun hn h=>zzC (Nat.le_trans hn (by decide)) h
theorem zum:Rn.Worth Tryz.prog F.zhb ⟨6,zdM,zdN⟩:=fun hn h=>zs4 (Nat.le_trans hn (by decide)) h
theorem zsB:Rn.Worth Tryz.prog F.zfP ⟨9,zcV,zcW⟩:=fun hn h=>zrh (Nat.le_trans hn (by decide)) h
theorem znT:Rn.Worth Tryz.prog F.zau ⟨19,zbc,zbd⟩:=fun hn h=>zm2 (Nat.le_trans hn (by decide)) h
theorem zAl:Rn.Worth Tryz.prog F.zea ⟨6,zia,zib⟩:=fun hn h=>zyc (Nat.le_trans hn (by decide)) h
theorem zwv:Rn.Worth Tryz.prog F.zfd ⟨9,zfC,zfD⟩:=fun hn h=>zuL (Nat.le_trans hn (by decide)) h
theorem zAm:Rn.Worth Tryz.prog F.zhc ⟨7,zic,zid⟩:=fun hn h=>zyd (Nat.le_trans hn (by decide)) h
theorem zgW:Rn.Worth Tryz.prog F.zaW ⟨10,zaj,zak⟩:=fun hn h=>zgN (Nat.le_trans hn (by decide)) h
theorem zi0:Rn.Worth Tryz.prog F.za9 ⟨10,zao,zap⟩:=fun hn h=>ziC (Nat.le_trans hn (by decide)) h
theorem zJZ:Rn.Worth Tryz.prog F.zpL ⟨5,zql,zqm⟩:=fun hn h=>zHO (Nat.le_trans hn (by decide)) h
theorem zAn:Rn.Worth Tryz.prog F.zec ⟨11,zig,zih⟩:=fun hn h=>zye (Nat.le_trans hn (by decide)) h
theorem zww:Rn.Worth Tryz.prog F.zc2 ⟨16,zfG,zfH⟩:=fun hn h=>zuM (Nat.le_trans hn (by decide)) h
theorem zq7:Rn.Worth Tryz.prog F.zaN ⟨4,zcc,zcd⟩:=fun hn h=>zqn (Nat.le_trans hn (by decide)) h
theorem zG3:Rn.Worth Tryz.prog F.znw ⟨6,znK,znL⟩:=fun hn h=>zEM (Nat.le_trans hn (by decide)) h
theorem zDy:Rn.Worth Tryz.prog F.zkn ⟨6,zkP,zkQ⟩:=fun hn h=>zBC (Nat.le_trans hn (by decide)) h
theorem zE6:Rn.Worth Tryz.prog F.ziy ⟨6,zmj,zmk⟩:=fun hn h=>zC6 (Nat.le_trans hn (by decide)) h
theorem zn8:Rn.Worth Tryz.prog F.zci ⟨10,zbm,zbn⟩:=fun hn h=>znM (Nat.le_trans hn (by decide)) h
theorem zMm:Rn.Worth Tryz.prog F.zry ⟨6,zrP,zrQ⟩:=fun hn h=>zJb (Nat.le_trans hn (by decide)) h
theorem zBZ:Rn.Worth Tryz.prog F.zff ⟨3,zjp,zjq⟩:=fun hn h=>zzH (Nat.le_trans hn (by decide)) h
theorem zG4:Rn.Worth Tryz.prog F.zqQ ⟨7,znN,znO⟩:=fun hn h=>zEN (Nat.le_trans hn (by decide)) h
theorem zDz:Rn.Worth Tryz.prog F.zcF ⟨5,zkR,zkS⟩:=fun hn h=>zBD (Nat.le_trans hn (by decide)) h
theorem zAo:Rn.Worth Tryz.prog F.zhe ⟨5,zii,zij⟩:=fun hn h=>zyf (Nat.le_trans hn (by decide)) h
theorem znU:Rn.Worth Tryz.prog F.zav ⟨21,zbe,zbf⟩:=fun hn h=>zm3 (Nat.le_trans hn (by decide)) h
theorem zJ0:Rn.Worth Tryz.prog F.ztL ⟨12,zqo,zqp⟩:=fun hn h=>zHP (Nat.le_trans hn (by decide)) h
theorem zu3:Rn.Worth Tryz.prog F.ziV ⟨7,zeQ,zeR⟩:=fun hn h=>zub (Nat.le_trans hn (by decide)) h
theorem ztl:Rn.Worth Tryz.prog F.zgK ⟨7,zdp,zdq⟩:=fun hn h=>zsr (Nat.le_trans hn (by decide)) h
theorem zE7:Rn.Worth Tryz.prog F.zpq ⟨3,zml,zmm⟩:=fun hn h=>zC7 (Nat.le_trans hn (by decide)) h
theorem zrq:Rn.Worth Tryz.prog F.zeX ⟨4,zcv,zcw⟩:=fun hn h=>zqY (Nat.le_trans hn (by decide)) h
theorem zDA:Rn.Worth Tryz.prog F.zko ⟨5,zkT,zkU⟩:=fun hn h=>zBE (Nat.le_trans hn (by decide)) h
theorem zj9:Rn.Worth Tryz.prog F.zbp ⟨8,zax,zay⟩:=fun hn h=>zjz (Nat.le_trans hn (by decide)) h
theorem zAp:Rn.Worth Tryz.prog F.zmD ⟨13,zik,zil⟩:=fun hn h=>zyi (Nat.le_trans hn (by decide)) h
theorem zka:Rn.Worth Tryz.prog F.zbq ⟨10,zaz,zaA⟩:=fun hn h=>zjC (Nat.le_trans hn (by decide)) h
theorem zun:Rn.Worth Tryz.prog F.zhf ⟨12,zdO,zdP⟩:=fun hn h=>zs5 (Nat.le_trans hn (by decide)) h
theorem zIs:Rn.T.All (Rn.Worth Tryz.prog) zA := .no (.no (.no (.at zBP (.no (.no (.no (.no (.at zDv (.nil) (.nil)) (.nil)) (.nil)) (.at zyk (.at zuj (.at zsB (.nil) (.nil)) (.nil)) (.at zpg (.nil) (.nil)))) (.no (.no (.at zE1 (.at zJY (.nil) (.nil)) (.nil)) (.at zws (.at ztl (.nil) (.nil)) (.nil))) (.at zDq (.at zG1 (.at zi0 (.nil) (.nil)) (.nil)) (.no (.at zka (.nil) (.nil)) (.nil))))) (.at zEV (.at zzW (.at zz1 (.at zG0 (.at zBX (.nil) (.nil)) (.nil)) (.at zsy (.at zMm (.nil) (.nil)) (.nil))) (.at zuR (.at zMh (.at zgW (.nil) (.nil)) (.nil)) (.at zqv (.nil) (.nil)))) (.at zzX (.at zHS (.at zAe (.nil) (.nil)) (.at zHT (.nil) (.nil))) (.no (.nil) (.at zJX (.at zun (.nil) (.nil)) (.nil)))))) (.no (.no (.no (.no (.at zrn (.at zng (.nil) (.nil)) (.nil)) (.at zuZ (.at zDy (.nil) (.nil)) (.nil))) (.at zz6 (.no (.at zwv (.nil) (.nil)) (.nil)) (.at zG2 (.nil) (.nil)))) (.no (.no (.at zBU (.nil) (.nil)) (.at zyv (.nil) (.nil))) (.nil))) (.no (.at zDn (.at zuO (.at zAd (.nil) (.nil)) (.at zJW (.at zAo (.nil) (.nil)) (.nil))) (.at zuS (.at zuY (.nil) (.nil)) (.at zph (.nil) (.nil)))) (.at zzZ (.at zDo (.at zDt (.nil) (.nil)) (.nil)) (.at zAb (.no (.at zAn (.nil) (.nil)) (.nil)) (.nil)))))) (.no (.no (.at zzV (.no (.no (.at zEZ (.at zAk (.nil) (.nil)) (.nil)) (.at zJV (.at zq7 (.nil) (.nil)) (.nil))) (.at zz5 (.no (.at zAl (.nil) (.nil)) (.nil)) (.nil))) (.no (.no (.at zDr (.nil) (.nil)) (.at zyt (.at zrq (.nil) (.nil)) (.nil))) (.at zte (.nil) (.at zmM (.nil) (.nil))))) (.no (.no (.at zz2 (.at zyn (.at ztk (.nil) (.nil)) (.nil)) (.no (.at zG4 (.nil) (.nil)) (.nil))) (.at zq4 (.at zuW (.nil) (.nil)) (.at zrp (.nil) (.nil)))) (.at zJN (.at zJQ (.at zMg (.nil) (.nil)) (.at zsz (.nil) (.nil))) (.at zym (.nil) (.nil))))) (.no (.at zyj (.no (.at zMe (.at zq5 (.nil) (.nil)) (.at ztj (.at zn8 (.nil) (.nil)) (.nil))) (.at zuQ (.nil) (.at zuk (.nil) (.nil)))) (.no (.at zuP (.at zDs (.nil) (.nil)) (.at zyw (.nil) (.nil))) (.no (.nil) (.at zyx (.nil) (.nil))))) (.no (.no (.at zwm (.at zBT (.at zwt (.nil) (.nil)) (.nil)) (.at zMi (.at zJ0 (.nil) (.nil)) (.nil))) (.at zz9 (.at zyq (.nil) (.nil)) (.at zsA (.nil) (.nil)))) (.at zz0 (.at zJR (.no (.at zrS (.nil) (.nil)) (.nil)) (.nil)) (.no (.at zAi (.nil) (.nil)) (.at zDu (.nil) (.nil)))))))) (.no (.no (.no (.no (.no (.no (.at zEY (.at zE5 (.nil) (.nil)) (.nil)) (.nil)) (.at ztd (.at ztf (.at znT (.nil) (.nil)) (.nil)) (.at zBW (.nil) (.nil)))) (.no (.no (.at zuT (.at zwu (.nil) (.nil)) (.nil)) (.at zys (.at zE7 (.nil) (.nil)) (.nil))) (.at zAa (.at zgV (.nil) (.nil)) (.at zk2 (.nil) (.nil))))) (.no (.no (.at zwl (.at zJT (.at zHX (.nil) (.nil)) (.nil)) (.at zBV (.at zBZ (.nil) (.nil)) (.nil))) (.at zDp (.at zAh (.nil) (.nil)) (.at zu0 (.nil) (.nil)))) (.at zJM (.at zJP (.at zAf (.nil) (.nil)) (.at zHU (.at zj9 (.nil) (.nil)) (.nil))) (.no (.no (.at zJZ (.nil) (.nil)) (.nil)) (.at zMk (.nil) (.nil)))))) (.no (.no (.no (.at zHR (.at zsw (.nil) (.nil)) (.at zti (.at zE6 (.nil) (.nil)) (.nil))) (.at zyl (.at zAg (.at zAm (.nil) (.nil)) (.nil)) (.at zHW (.nil) (.nil)))) (.no (.no (.at zyp (.nil) (.nil)) (.nil)) (.nil))) (.no (.at zEW (.at zz4 (.at zyo (.at zul (.nil) (.nil)) (.nil)) (.at zE3 (.at znU (.nil) (.nil)) (.nil))) (.at zz8 (.at zq6 (.nil) (.nil)) (.nil))) (.at zzU (.at zMf (.at zqt (.nil) (.nil)) (.nil)) (.no (.at zro (.at zww (.nil) (.nil)) (.nil)) (.nil)))))) (.no (.no (.no (.no (.at zGY (.at zAc (.at zDw (.nil) (.nil)) (.nil)) (.no (.at zG3 (.nil) (.nil)) (.nil))) (.at zBR (.nil) (.at zHV (.at zAp (.nil) (.nil)) (.nil)))) (.no (.no (.at zJU (.at zlP (.nil) (.nil)) (.nil)) (.at zyu (.at zDA (.nil) (.nil)) (.nil))) (.at zwn (.at zk1 (.nil) (.nil)) (.nil)))) (.no (.at zBQ (.at zz3 (.at zwp (.at zBY (.nil) (.nil)) (.nil)) (.at zE2 (.at zDz (.nil) (.nil)) (.nil))) (.at zz7 (.at zuX (.nil) (.nil)) (.at zu1 (.nil) (.nil)))) (.at zzY (.at zGZ (.at zuU (.nil) (.nil)) (.at zqu (.nil) (.nil))) (.at zwo (.at zth (.nil) (.nil)) (.nil))))) (.at zEU (.at zDm (.at zJL (.at zJO (.at zsx (.at zMl (.nil) (.nil)) (.nil)) (.at zwq (.nil) (.nil))) (.at zEX (.at ztg (.nil) (.nil)) (.at zAj (.nil) (.nil)))) (.at zGX (.no (.nil) (.at zMj (.nil) (.nil))) (.no (.at zyr (.nil) (.nil)) (.at zu2 (.nil) (.nil))))) (.no (.no (.no (.at zE0 (.at zDx (.nil) (.nil)) (.nil)) (.at zwr (.at zu3 (.nil) (.nil)) (.nil))) (.at zBS (.nil) (.nil))) (.at zrm (.at zJS (.at zuV (.at zum (.nil) (.nil)) (.nil)) (.at zE4 (.nil) (.nil))) (.no (.nil) (.at zyy (.nil) (.nil))))))))
end Go.Proofs.YtpnhjkiligohnaaGreatDoor
namespace Go.Proofs.YtpnhjkiligohnaaGreatDoor
open Go Go.Vm
def bl (b:ByteArray):List UInt8:=b.data.toList
def zSK (a b:ByteArray):Bool:=Op.bytesLess a.toList b.toList
structure FileR where
 name:ByteArray
 safe:ByteArray
 tail:ByteArray
def FileR.all (f:FileR):ByteArray:=f.safe++f.tail
structure zB0 where
 limit:Int
 l:List FileR
 left:Int
 down:Bool
def zIt (L:List FileR):Prop:=L.Pairwise fun x y=>zSK x.name y.name=true
def zSL (L:List FileR) (n:ByteArray):Option FileR:=L.find? fun f=>decide (f.name=n)
def zSM (L:List FileR):Nat:=(L.map fun f=>f.safe.size+f.tail.size).sum
structure zTP (D:zB0):Prop where
 sort:zIt D.l
 len:D.l.length≤64
 used:zSM D.l≤1048576
 limit:0≤D.limit∧D.limit≤1048576
 left : -1≤D.left∧D.left≤9223372036854775807
end Go.Proofs.YtpnhjkiligohnaaGreatDoor
namespace Go.Proofs.YtpnhjkiligohnaaGreatDoor
open Go Go.Vm
attribute [local irreducible] Brn Ob Grow CallsM inR zbw zbt Mem.row Mem.cells Mem.setCells Mem.upd Go.Vm.Own zb1 zeh zdA zcx New SrcOk zaq NewSl Mem.textAt Mem.mapAt Mem.iterAt zbs kfind Wr NewEls Elems
set_option maxRecDepth 10000
@[reducible] def zTj (k:ByteArray):Value := .string k
structure FX where
 f:Nat
 a:Option Addr
 c:Nat
 p:List UInt8
 safe:Nat
@[reducible] def fxV (x:FX):Value:=ptr x.f
structure zTk (M:Mem) (x:FX):Prop where
 self:M.has x.f T.zHr [.slice x.a x.p.length x.c,.int .i64 x.safe]
 row:Wr M T.zW 1 x.a x.p.length x.c (x.p.map zF)
def FX.own (x:FX):Nat→Prop:=fun y=>y=x.f∨blk x.a y
def zRP (x y:FX):Prop:=∀ z,x.own z→¬y.own z
abbrev FsT:=List (ByteArray×FX)
structure DAt (M:Mem) (p b:Nat) (D:zB0) (es:FsT):Prop where
 self:M.has p T.zHq [.int .i64 D.limit,.map (some b),.int .i64 D.left,.bool D.down]
 map:MapAt zTj fxV M b es
 ents:∀ q∈es,zTk M q.2
 apart:es.Pairwise fun x y=>zRP x.2 y.2
def zJ1 (p b:Nat) (es:FsT):Nat→Prop:=fun y=>y=p∨y=b∨∃ q∈es,q.2.own y
variable {M:Mem} {p b:Nat} {D:zB0} {es:FsT}
def cont (f:FileR):List UInt8×Nat:=(bl f.all,f.safe.size)
structure zTl (es:FsT) (L:List FileR):Prop where
 sort:zIt L
 nodup:(es.map (·.1)).Nodup
 same:∀ n,(zaI es n).map (fun x=>(x.p,x.safe))=(zSL L n).map cont
end Go.Proofs.YtpnhjkiligohnaaGreatDoor
