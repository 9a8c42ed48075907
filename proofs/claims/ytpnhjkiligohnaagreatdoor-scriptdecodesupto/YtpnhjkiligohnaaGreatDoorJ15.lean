/- Part of this proof;laid by program. -/
import Derived.Test.YtpnhjkiligohnaaGreatDoorJ11
import Derived.Test.YtpnhjkiligohnaaGreatDoorJ12
import Derived.Test.YtpnhjkiligohnaaGreatDoorJ13
import Derived.Test.YtpnhjkiligohnaaGreatDoorJ14
set_option linter.unusedVariables false
set_option linter.unusedSimpArgs false
namespace Go.Proofs.YtpnhjkiligohnaaGreatDoor
open Go.Vm Go.Vm.Rn
set_option maxRecDepth 20000
def tab:T FC := .n (.n (.n (.n (.n (.n (.n (.n (.n (.e) (some ⟨8,zkJ,zkK⟩) (.e)) (none) (.n (.e) (some ⟨12,znc,znd⟩) (.e))) (some ⟨10,zF8,zF9⟩) (.n (.n (.e) (some ⟨9,zBA,zBB⟩) (.e)) (some ⟨105,zI1,zI2⟩) (.e))) (some ⟨1,zEo,zEp⟩) (.n (.n (.n (.e) (some ⟨9,zcV,zcW⟩) (.e)) (some ⟨12,zdG,zdH⟩) (.e)) (some ⟨91,zf4,zf5⟩) (.n (.n (.e) (some ⟨11,zjA,zjB⟩) (.e)) (some ⟨19,zbH,zbI⟩) (.e)))) (some ⟨3,zzf,zzg⟩) (.n (.n (.n (.n (.e) (some ⟨5,zqj,zqk⟩) (.e)) (some ⟨4,zl9,zma⟩) (.e)) (some ⟨6,zxE,zxF⟩) (.n (.n (.e) (some ⟨7,zdp,zdq⟩) (.e)) (some ⟨7,zfu,zfv⟩) (.e))) (some ⟨13,zF2,zF3⟩) (.n (.n (.n (.e) (some ⟨10,zao,zap⟩) (.e)) (some ⟨8,znG,znH⟩) (.e)) (some ⟨3,zkz,zkA⟩) (.n (.n (.e) (some ⟨10,zaz,zaA⟩) (.e)) (some ⟨9,zsm,zsn⟩) (.e))))) (some ⟨18,zi5,zi6⟩) (.n (.n (.n (.n (.n (.e) (some ⟨11,zjl,zjm⟩) (.e)) (some ⟨4,znE,znF⟩) (.n (.e) (some ⟨9,znP,znQ⟩) (.e))) (some ⟨13,zhu,zhv⟩) (.n (.n (.e) (some ⟨6,zrP,zrQ⟩) (.e)) (some ⟨3,zcP,zcQ⟩) (.e))) (some ⟨6,zhi,zhj⟩) (.n (.n (.n (.e) (some ⟨10,zaj,zak⟩) (.e)) (some ⟨26,zrF,zrG⟩) (.e)) (some ⟨6,zes,zet⟩) (.n (.n (.e) (some ⟨12,zlM,zlN⟩) (.e)) (some ⟨5,zbW,zbX⟩) (.e)))) (some ⟨65,zlX,zlY⟩) (.n (.n (.n (.n (.e) (some ⟨11,zh8,zh9⟩) (.e)) (some ⟨13,zhU,zhV⟩) (.e)) (some ⟨3,zoI,zoJ⟩) (.n (.n (.e) (some ⟨11,zpv,zpw⟩) (.e)) (some ⟨9,zoK,zoL⟩) (.e))) (some ⟨12,zhk,zhl⟩) (.n (.n (.n (.e) (some ⟨3,zBw,zBx⟩) (.e)) (none) (.e)) (some ⟨15,zxS,zxT⟩) (.n (.n (.e) (some ⟨12,zdO,zdP⟩) (.e)) (some ⟨12,zqh,zqi⟩) (.e)))))) (some ⟨6,zsR,zsS⟩) (.n (.n (.n (.n (.n (.n (.e) (some ⟨2,za3,za4⟩) (.e)) (some ⟨3,zcp,zcq⟩) (.n (.e) (some ⟨12,zne,znf⟩) (.e))) (some ⟨10,zHz,zHA⟩) (.n (.n (.e) (some ⟨6,zkP,zkQ⟩) (.e)) (some ⟨18,zeI,zeJ⟩) (.e))) (some ⟨10,zEq,zEr⟩) (.n (.n (.n (.e) (some ⟨9,zfC,zfD⟩) (.e)) (some ⟨6,zsY,zsZ⟩) (.e)) (some ⟨6,zhE,zhF⟩) (.n (.n (.e) (some ⟨5,zzI,zzJ⟩) (.e)) (some ⟨5,znI,znJ⟩) (.e)))) (some ⟨5,zxi,zxj⟩) (.n (.n (.n (.n (.e) (some ⟨11,zop,zoq⟩) (.e)) (some ⟨8,zjf,zjg⟩) (.e)) (some ⟨6,zux,zuy⟩) (.n (.n (.e) (some ⟨10,zor,zos⟩) (.e)) (some ⟨52,zgq,zgr⟩) (.e))) (some ⟨2,zBa,zBb⟩) (.n (.n (.n (.e) (some ⟨10,zjx,zjy⟩) (.e)) (some ⟨5,zvO,zvP⟩) (.e)) (some ⟨9,zzq,zzr⟩) (.n (.n (.e) (some ⟨10,zkX,zkY⟩) (.e)) (some ⟨3,zo5,zo6⟩) (.e))))) (some ⟨133,zA6,zA7⟩) (.n (.n (.n (.n (.n (.e) (some ⟨1,zsp,zsq⟩) (.e)) (some ⟨14,zhS,zhT⟩) (.e)) (some ⟨66,zem,zen⟩) (.n (.n (.e) (some ⟨5,zii,zij⟩) (.e)) (some ⟨10,zqf,zqg⟩) (.e))) (some ⟨5,zkt,zku⟩) (.n (.n (.n (.e) (some ⟨10,zie,zif⟩) (.e)) (some ⟨46,zeG,zeH⟩) (.e)) (some ⟨12,zeu,zev⟩) (.n (.n (.e) (some ⟨3,zEO,zEP⟩) (.e)) (some ⟨1,zbJ,zbK⟩) (.e)))) (some ⟨13,zCG,zCH⟩) (.n (.n (.n (.n (.e) (some ⟨3,zya,zyb⟩) (.e)) (some ⟨10,zkF,zkG⟩) (.e)) (some ⟨17,zkv,zkw⟩) (.n (.n (.e) (some ⟨50,zlo,zlp⟩) (.e)) (some ⟨6,zsi,zsj⟩) (.e))) (some ⟨10,zho,zhp⟩) (.n (.n (.n (.e) (some ⟨11,zig,zih⟩) (.e)) (some ⟨7,zvR,zvS⟩) (.e)) (some ⟨13,zhO,zhP⟩) (.n (.n (.e) (some ⟨7,zjF,zjG⟩) (.e)) (some ⟨10,zEI,zEJ⟩) (.e))))))) (none) (.n (.n (.n (.n (.n (.n (.n (.e) (some ⟨11,zh6,zh7⟩) (.e)) (some ⟨3,zl5,zl6⟩) (.n (.e) (some ⟨9,zC8,zC9⟩) (.e))) (some ⟨5,zIV,zIW⟩) (.n (.n (.e) (some ⟨4,zcc,zcd⟩) (.e)) (some ⟨12,zqd,zqe⟩) (.e))) (some ⟨5,zxm,zxn⟩) (.n (.n (.n (.e) (some ⟨6,zia,zib⟩) (.e)) (some ⟨4,zsW,zsX⟩) (.e)) (some ⟨3,zhC,zhD⟩) (.n (.n (.e) (some ⟨10,zJc,zJd⟩) (.e)) (some ⟨5,zEF,zEG⟩) (.e)))) (some ⟨14,zhg,zhh⟩) (.n (.n (.n (.n (.e) (some ⟨7,zv0,zv1⟩) (.e)) (some ⟨4,zkB,zkC⟩) (.e)) (some ⟨5,zxI,zxJ⟩) (.n (.n (.e) (some ⟨4,zcv,zcw⟩) (.e)) (some ⟨1,zgm,zgn⟩) (.e))) (some ⟨6,zEu,zEv⟩) (.n (.n (.n (.e) (some ⟨13,ziW,ziX⟩) (.e)) (some ⟨5,zt3,zt4⟩) (.e)) (some ⟨21,zdb,zdc⟩) (.n (.n (.e) (some ⟨13,zj6,zj7⟩) (.e)) (some ⟨21,za0,za1⟩) (.e))))) (some ⟨12,zCw,zCx⟩) (.n (.n (.n (.n (.n (.e) (some ⟨4,zdn,zdo⟩) (.e)) (some ⟨2,zga,zgb⟩) (.n (.e) (some ⟨12,zn6,zn7⟩) (.e))) (some ⟨3,zhw,zhx⟩) (.n (.n (.e) (some ⟨7,znN,znO⟩) (.e)) (some ⟨6,zBm,zBn⟩) (.e))) (some ⟨3,zxt,zxu⟩) (.n (.n (.n (.e) (some ⟨13,zgT,zgU⟩) (.e)) (some ⟨5,zeC,zeD⟩) (.e)) (some ⟨3,zb6,zb7⟩) (.n (.n (.e) (some ⟨13,zm6,zm7⟩) (.e)) (some ⟨3,zct,zcu⟩) (.e)))) (some ⟨5,zzh,zzi⟩) (.n (.n (.n (.n (.e) (some ⟨11,zli,zlj⟩) (.e)) (some ⟨42,zrD,zrE⟩) (.e)) (some ⟨4,zpW,zpX⟩) (.n (.n (.e) (some ⟨11,zm4,zm5⟩) (.e)) (some ⟨5,zcR,zcS⟩) (.e))) (some ⟨4,zpQ,zpR⟩) (.n (.n (.n (.e) (some ⟨41,zGn,zGo⟩) (.e)) (some ⟨3,zqb,zqc⟩) (.e)) (some ⟨16,zf8,zf9⟩) (.n (.n (.e) (some ⟨10,zpx,zpy⟩) (.e)) (some ⟨7,zGi,zGj⟩) (.e)))))) (some ⟨9,zvy,zvz⟩) (.n (.n (.n (.n (.n (.n (.e) (some ⟨5,zI6,zI7⟩) (.e)) (some ⟨37,zb8,zb9⟩) (.n (.e) (some ⟨13,zn2,zn3⟩) (.e))) (some ⟨7,zrz,zrA⟩) (.n (.n (.e) (some ⟨10,zbm,zbn⟩) (.e)) (some ⟨1,zdl,zdm⟩) (.e))) (some ⟨79,zvD,zvE⟩) (.n (.n (.n (.e) (some ⟨10,zv2,zv3⟩) (.e)) (some ⟨3,zuE,zuF⟩) (.e)) (some ⟨16,zeq,zer⟩) (.n (.n (.e) (some ⟨9,zgQ,zgR⟩) (.e)) (some ⟨5,zdI,zdJ⟩) (.e)))) (some ⟨5,zf2,zf3⟩) (.n (.n (.n (.n (.e) (some ⟨50,zm0,zm1⟩) (.e)) (some ⟨4,zkD,zkE⟩) (.e)) (some ⟨30,zeo,zep⟩) (.n (.n (.e) (some ⟨3,zss,zst⟩) (.e)) (some ⟨4,zgs,zgt⟩) (.e))) (some ⟨5,zF6,zF7⟩) (.n (.n (.n (.e) (some ⟨13,ziD,ziE⟩) (.e)) (none) (.e)) (some ⟨10,zvH,zvI⟩) (.n (.n (.e) (some ⟨13,zjD,zjE⟩) (.e)) (some ⟨8,zgu,zgv⟩) (.e))))) (some ⟨3,zCA,zCB⟩) (.n (.n (.n (.n (.n (.e) (some ⟨3,zfw,zfx⟩) (.e)) (some ⟨4,zjd,zje⟩) (.e)) (some ⟨6,zfi,zfj⟩) (.n (.n (.e) (some ⟨12,zqo,zqp⟩) (.e)) (some ⟨3,zrH,zrI⟩) (.e))) (some ⟨6,zEs,zEt⟩) (.n (.n (.n (.e) (some ⟨13,zgO,zgP⟩) (.e)) (some ⟨12,zgg,zgh⟩) (.e)) (some ⟨5,zhK,zhL⟩) (.n (.e) (some ⟨5,zcT,zcU⟩) (.e)))) (some ⟨9,zEm,zEn⟩) (.n (.n (.n (.n (.e) (some ⟨3,zfA,zfB⟩) (.e)) (some ⟨10,zxZ,zx0⟩) (.e)) (some ⟨15,zpY,zpZ⟩) (.n (.n (.e) (some ⟨11,zfW,zfX⟩) (.e)) (some ⟨6,zED,zEE⟩) (.e))) (some ⟨7,zhs,zht⟩) (.n (.n (.n (.e) (some ⟨4,zzD,zzE⟩) (.e)) (some ⟨9,zh2,zh3⟩) (.e)) (none) (.n (.n (.e) (some ⟨3,zv6,zv7⟩) (.e)) (some ⟨13,zkH,zkI⟩) (.e)))))))) (none) (.n (.n (.n (.n (.n (.n (.n (.n (.e) (some ⟨13,zmh,zmi⟩) (.e)) (some ⟨7,zl3,zl4⟩) (.n (.e) (some ⟨6,zBF,zBG⟩) (.e))) (none) (.n (.n (.e) (some ⟨4,zzF,zzG⟩) (.e)) (some ⟨96,zGc,zGd⟩) (.e))) (some ⟨26,zFY,zFZ⟩) (.n (.n (.n (.e) (some ⟨19,zbc,zbd⟩) (.e)) (some ⟨1,zdd,zde⟩) (.e)) (some ⟨4,zc9,zda⟩) (.n (.n (.e) (some ⟨12,zmI,zmJ⟩) (.e)) (some ⟨3,zjj,zjk⟩) (.e)))) (some ⟨3,zxf,zxg⟩) (.n (.n (.n (.n (.e) (some ⟨5,zfy,zfz⟩) (.e)) (some ⟨2,zew,zex⟩) (.e)) (some ⟨34,zxG,zxH⟩) (.n (.n (.e) (some ⟨3,zml,zmm⟩) (.e)) (some ⟨5,zgk,zgl⟩) (.e))) (some ⟨3,zCL,zCM⟩) (.n (.n (.n (.e) (some ⟨13,zlK,zlL⟩) (.e)) (some ⟨2,zah,zai⟩) (.e)) (some ⟨9,zhM,zhN⟩) (.n (.n (.e) (some ⟨13,zm8,zm9⟩) (.e)) (some ⟨21,zaG,zaH⟩) (.e))))) (some ⟨6,zFS,zFT⟩) (.n (.n (.n (.n (.n (.e) (some ⟨3,zoS,zoT⟩) (.e)) (some ⟨5,zp4,zp5⟩) (.n (.e) (some ⟨10,zn4,zn5⟩) (.e))) (some ⟨58,zfg,zfh⟩) (.n (.n (.e) (some ⟨3,zjp,zjq⟩) (.e)) (some ⟨25,zjh,zji⟩) (.e))) (some ⟨5,zCI,zCJ⟩) (.n (.n (.n (.e) (some ⟨13,zjY,zjZ⟩) (.e)) (some ⟨6,zh0,zh1⟩) (.e)) (some ⟨4,zkx,zky⟩) (.n (.n (.e) (some ⟨9,ziF,ziG⟩) (.e)) (some ⟨8,zeK,zeL⟩) (.e)))) (some ⟨6,zxk,zxl⟩) (.n (.n (.n (.n (.e) (some ⟨5,zC2,zC3⟩) (.e)) (some ⟨4,zhW,zhX⟩) (.e)) (some ⟨5,zpU,zpV⟩) (.n (.n (.e) (some ⟨8,zax,zay⟩) (.e)) (some ⟨58,zoM,zoN⟩) (.e))) (some ⟨4,zpO,zpP⟩) (.n (.n (.n (.e) (some ⟨5,zql,zqm⟩) (.e)) (none) (.e)) (some ⟨5,zuA,zuB⟩) (.n (.n (.e) (some ⟨9,zzK,zzL⟩) (.e)) (some ⟨25,zrL,zrM⟩) (.e)))))) (some ⟨6,zsT,zsU⟩) (.n (.n (.n (.n (.n (.n (.e) (some ⟨5,zt9,zua⟩) (.e)) (some ⟨52,zcL,zcM⟩) (.n (.e) (some ⟨9,zjH,zjI⟩) (.e))) (some ⟨7,zoG,zoH⟩) (.n (.n (.e) (some ⟨6,zmj,zmk⟩) (.e)) (some ⟨13,zdj,zdk⟩) (.e))) (some ⟨6,zxq,zxr⟩) (.n (.n (.n (.e) (some ⟨7,zic,zid⟩) (.e)) (some ⟨4,zhY,zhZ⟩) (.e)) (some ⟨3,zf6,zf7⟩) (.n (.n (.e) (some ⟨12,zj4,zj5⟩) (.e)) (some ⟨5,zoQ,zoR⟩) (.e)))) (some ⟨7,zvA,zvB⟩) (.n (.n (.n (.n (.e) (some ⟨11,zlI,zlJ⟩) (.e)) (some ⟨5,zge,zgf⟩) (.e)) (some ⟨6,zBc,zBd⟩) (.n (.n (.e) (some ⟨3,zri,zrj⟩) (.e)) (some ⟨5,zx4,zx5⟩) (.e))) (some ⟨10,zF4,zF5⟩) (.n (.n (.n (.e) (some ⟨13,zfE,zfF⟩) (.e)) (some ⟨12,zqU,zqV⟩) (.e)) (some ⟨7,zzs,zzt⟩) (.n (.n (.e) (some ⟨13,zfY,zfZ⟩) (.e)) (some ⟨3,zo7,zo8⟩) (.e))))) (some ⟨10,zCy,zCz⟩) (.n (.n (.n (.n (.n (.e) (some ⟨77,zdK,zdL⟩) (.e)) (some ⟨66,zgc,zgd⟩) (.e)) (some ⟨63,zhA,zhB⟩) (.n (.n (.e) (some ⟨21,zbe,zbf⟩) (.e)) (some ⟨17,zmd,zme⟩) (.e))) (some ⟨3,zlZ,zl0⟩) (.n (.n (.n (.e) (some ⟨13,zee,zef⟩) (.e)) (some ⟨11,zca,zcb⟩) (.e)) (some ⟨10,zhI,zhJ⟩) (.n (.n (.e) (some ⟨3,zv4,zv5⟩) (.e)) (some ⟨5,zBo,zBp⟩) (.e)))) (some ⟨9,zzj,zzk⟩) (.n (.n (.n (.n (.e) (some ⟨9,zBu,zBv⟩) (.e)) (some ⟨5,zbS,zbT⟩) (.e)) (some ⟨4,zrB,zrC⟩) (.n (.n (.e) (some ⟨8,zkV,zkW⟩) (.e)) (some ⟨5,zsk,zsl⟩) (.e))) (some ⟨44,zhq,zhr⟩) (.n (.n (.n (.e) (some ⟨16,zfG,zfH⟩) (.e)) (some ⟨31,zcr,zcs⟩) (.e)) (none) (.n (.n (.e) (some ⟨11,zn0,zn1⟩) (.e)) (some ⟨21,zHL,zHM⟩) (.e))))))) (none) (.n (.n (.n (.n (.n (.n (.n (.e) (some ⟨4,zkL,zkM⟩) (.e)) (some ⟨3,zhQ,zhR⟩) (.n (.e) (some ⟨2,zrk,zrl⟩) (.e))) (some ⟨17,znA,znB⟩) (.n (.n (.e) (some ⟨6,znK,znL⟩) (.e)) (some ⟨17,zEB,zEC⟩) (.e))) (some ⟨3,zxo,zxp⟩) (.n (.n (.n (.e) (some ⟨89,zI9,zJa⟩) (.e)) (some ⟨1,zzw,zzx⟩) (.e)) (some ⟨28,zi9,zja⟩) (.n (.n (.e) (some ⟨13,zik,zil⟩) (.e)) (some ⟨7,zoO,zoP⟩) (.e)))) (some ⟨5,zCD,zCE⟩) (.n (.n (.n (.n (.e) (some ⟨8,zaS,zaT⟩) (.e)) (some ⟨41,zp6,zp7⟩) (.e)) (some ⟨5,zxK,zxL⟩) (.n (.n (.e) (some ⟨5,zkT,zkU⟩) (.e)) (some ⟨1,zgo,zgp⟩) (.e))) (some ⟨5,zCN,zCO⟩) (.n (.n (.n (.e) (some ⟨56,zj0,zj1⟩) (.e)) (some ⟨2,zaE,zaF⟩) (.e)) (some ⟨11,zfk,zfl⟩) (.n (.n (.e) (some ⟨56,zls,zlt⟩) (.e)) (some ⟨7,zx7,zx8⟩) (.e))))) (some ⟨1,zEk,zEl⟩) (.n (.n (.n (.n (.n (.e) (some ⟨5,zjn,zjo⟩) (.e)) (some ⟨3,zfo,zfp⟩) (.e)) (some ⟨5,zhy,zhz⟩) (.n (.n (.e) (some ⟨5,zkR,zkS⟩) (.e)) (some ⟨3,zmb,zmc⟩) (.e))) (some ⟨4,zi7,zi8⟩) (.n (.n (.n (.e) (some ⟨56,ziA,ziB⟩) (.e)) (some ⟨41,zeE,zeF⟩) (.e)) (some ⟨24,zhG,zhH⟩) (.n (.n (.e) (some ⟨18,zGp,zGq⟩) (.e)) (some ⟨6,zeM,zeN⟩) (.e)))) (some ⟨6,zFU,zFV⟩) (.n (.n (.n (.n (.e) (some ⟨12,znY,znZ⟩) (.e)) (some ⟨11,zey,zez⟩) (.e)) (some ⟨25,znC,znD⟩) (.n (.n (.e) (some ⟨11,zj2,zj3⟩) (.e)) (some ⟨5,zbU,zbV⟩) (.e))) (some ⟨7,zhm,zhn⟩) (.n (.n (.n (.e) (some ⟨13,zBy,zBz⟩) (.e)) (some ⟨14,zdh,zdi⟩) (.e)) (some ⟨29,zfm,zfn⟩) (.n (.n (.e) (some ⟨10,zna,znb⟩) (.e)) (some ⟨5,zGk,zGl⟩) (.e)))))) (some ⟨7,ztQ,ztR⟩) (.n (.n (.n (.n (.n (.n (.e) (some ⟨17,zrN,zrO⟩) (.e)) (some ⟨4,zcN,zcO⟩) (.n (.e) (some ⟨7,zEQ,zER⟩) (.e))) (some ⟨71,zpS,zpT⟩) (.n (.e) (some ⟨14,zfq,zfr⟩) (.e))) (some ⟨126,zpM,zpN⟩) (.n (.n (.n (.e) (some ⟨7,zC4,zC5⟩) (.e)) (some ⟨3,zdf,zdg⟩) (.e)) (some ⟨11,zl1,zl2⟩) (.n (.n (.e) (some ⟨13,zlq,zlr⟩) (.e)) (some ⟨4,zh4,zh5⟩) (.e)))) (some ⟨10,zkr,zks⟩) (.n (.n (.n (.n (.e) (some ⟨8,zmG,zmH⟩) (.e)) (some ⟨2,zCU,zCV⟩) (.e)) (none) (.n (.n (.e) (some ⟨7,zlm,zln⟩) (.e)) (some ⟨7,zrJ,zrK⟩) (.e))) (some ⟨5,zny,znz⟩) (.n (.n (.n (.e) (some ⟨14,zlk,zll⟩) (.e)) (some ⟨3,zgi,zgj⟩) (.e)) (some ⟨3,zBh,zBi⟩) (.n (.n (.e) (some ⟨14,zmK,zmL⟩) (.e)) (some ⟨3,zeO,zeP⟩) (.e))))) (some ⟨25,zlV,zlW⟩) (.n (.n (.n (.n (.n (.e) (some ⟨4,zkN,zkO⟩) (.e)) (some ⟨23,zl7,zl8⟩) (.e)) (some ⟨6,zzm,zzn⟩) (.n (.n (.e) (some ⟨7,zeQ,zeR⟩) (.e)) (some ⟨4,zfs,zft⟩) (.e))) (some ⟨11,zF0,zF1⟩) (.n (.n (.n (.e) (some ⟨14,zjv,zjw⟩) (.e)) (some ⟨7,zp9,zqa⟩) (.e)) (some ⟨12,zjb,zjc⟩) (.n (.n (.e) (some ⟨2,zqZ,zq0⟩) (.e)) (some ⟨6,zs1,zs2⟩) (.e)))) (some ⟨54,zFW,zFX⟩) (.n (.n (.n (.n (.e) (some ⟨6,zdM,zdN⟩) (.e)) (some ⟨30,zeA,zeB⟩) (.e)) (some ⟨1,zp0,zp1⟩) (.n (.n (.e) (some ⟨5,zyg,zyh⟩) (.e)) (some ⟨8,zmf,zmg⟩) (.e))) (some ⟨3,zcn,zco⟩) (.n (.n (.n (.e) (some ⟨6,zEK,zEL⟩) (.e)) (some ⟨4,zCW,zCX⟩) (.e)) (none) (.n (.n (.e) (some ⟨12,zlu,zlv⟩) (.e)) (some ⟨9,zgw,zgx⟩) (.e))))))))
end Go.Proofs.YtpnhjkiligohnaaGreatDoor
namespace Go.Vm.Rn
open Go.Vm
def All2 {α β:Type} (Q:α→β→Prop):List α→List β→Prop
 | [],[]=>True
 | a::l,b::r=>Q a b∧All2 Q l r
 | _,_=>False
namespace All2
variable {α β γ:Type} {Q Q':α→β→Prop}
theorem len:∀ {l:List α} {r:List β},All2 Q l r→l.length=r.length
 | [],[],_=>rfl
 | _::_,_::_,h=>congrArg (· + 1) (len h.2)
 | [],_::_,h=>h.elim
 | _::_,[],h=>h.elim
theorem imp (hq:∀ a b,Q a b→Q' a b):∀ {l:List α} {r:List β},All2 Q l r→All2 Q' l r
 | [],[],_=>trivial
 | _::_,_::_,h=>⟨hq _ _ h.1,imp hq h.2⟩
 | [],_::_,h=>h.elim
 | _::_,[],h=>h.elim
theorem drop:∀ (n:Nat) {l:List α} {r:List β},All2 Q l r→All2 Q (l.drop n) (r.drop n)
 | 0,_,_,h=>h
 | _+1,[],[],_=>trivial
 | n+1,_::_,_::_,h=>drop n h.2
 | _+1,[],_::_,h=>h.elim
 | _+1,_::_,[],h=>h.elim
theorem take:∀ (n:Nat) {l:List α} {r:List β},All2 Q l r→All2 Q (l.take n) (r.take n)
 | 0,_,_,_=>by simp[All2]
 | _+1,[],[],_=>trivial
 | n+1,_::_,_::_,h=>⟨h.1,take n h.2⟩
 | _+1,[],_::_,h=>h.elim
 | _+1,_::_,[],h=>h.elim
theorem append:∀ {l l':List α} {r r':List β},All2 Q l r→All2 Q l' r'→All2 Q (l++l') (r++r')
 | [],_,[],_,_,h=>h
 | _::_,_,_::_,_,h,h'=>⟨h.1,append h.2 h'⟩
 | [],_,_::_,_,h,_=>h.elim
 | _::_,_,[],_,h,_=>h.elim
theorem at_:∀ {l:List α} {r:List β},All2 Q l r→∀ {k:Nat} {a:α},l[k]? = some a→∃ b,r[k]? = some b∧Q a b
 | _::_,_::_,h,0,a,ha=>⟨_,rfl,by simp at ha;subst ha;exact h.1⟩
 | _::_,_::_,h,k+1,a,ha=>by simpa using at_ h.2 (k:=k) (a:=a) (by simpa using ha)
 | [],[],_,_,_,ha=>by simp at ha
 | [],_::_,h,_,_,_=>h.elim
 | _::_,[],h,_,_,_=>h.elim
theorem set:∀ {l:List α} {r:List β},All2 Q l r→∀ {k:Nat} {a:α} {b:β},Q a b→All2 Q (l.set k a) (r.set k b)
 | [],[],_,_,_,_,_=>trivial
 | _::_,_::_,h,0,_,_,hq=>⟨hq,h.2⟩
 | _::_,_::_,h,_+1,_,_,hq=>⟨h.1,set h.2 hq⟩
 | [],_::_,h,_,_,_,_=>h.elim
 | _::_,[],h,_,_,_,_=>h.elim
theorem map {f:β→γ} {Q'':α→γ→Prop} (hf:∀ a b,Q a b→Q'' a (f b)):∀ {l:List α} {r:List β},All2 Q l r→All2 Q'' l (r.map f)
 | [],[],_=>trivial
 | _::_,_::_,h=>⟨hf _ _ h.1,map hf h.2⟩
 | [],_::_,h=>h.elim
 | _::_,[],h=>h.elim
theorem fn (hq:∀ a b b',Q a b→Q a b'→b=b'):∀ {l:List α} {r r':List β},All2 Q l r→All2 Q l r'→r=r'
 | [],[],[],_,_=>rfl
 | _::_,_::_,_::_,h,h'=>by rw[hq _ _ _ h.1 h'.1,fn hq h.2 h'.2]
 | [],_::_,_,h,_=>h.elim
 | [],[],_::_,_,h=>h.elim
 | _::_,[],_,h,_=>h.elim
 | _::_,_::_,[],_,h=>h.elim
end All2
theorem zy {b:Bool} {t:R} {y:Out} (h:cB b t fail=some y):b=true∧t=some y:=by cases b<;>simp_all [cB,fail]
theorem ziZ {α:Type} {x:Option α} {K:α→R} {y:Out} (h:oV x K=some y):∃ v,x=some v∧K v=some y:=by cases x<;>simp_all [oV,fail]
theorem fN_eq (k:Nat→R) (n:Nat):fN k n=k n:=by cases n<;>rfl
theorem zSs (k:Int→R) (n:Int):fI k n=k n:=by cases n<;>simp only[fI,fN_eq]
theorem zsv {b:Bool} {K:V→R}:kB b K=K (.c (.t b)):=by cases b<;>rfl
theorem zbR {α:Type} (l:List α) (K:Nat→R):zeg l K=K l.length:=by
 unfold zeg;rw[fN_eq];congr 1
 induction l with
 | nil=>rfl
 | cons a r ih=>simp only[List.length_cons,←ih]
theorem zmS {α:Type}:∀ (l r:List α) (K:List α→R),appK l r K=K (l++r)
 | [],_,_=>rfl
 | a::l,r,K=>zmS l r fun r'=>K (a::r')
theorem zwH {α:Type} (l:List α):∀ (n:Nat) (K:List α→R),zzM l n K=K (List.replicate n l).flatten
 | 0,_=>rfl
 | n+1,K=>by
  have h:zzM l (n+1) K=zzM l n fun r=>appK l r K:=rfl
  rw[h,zwH l n,zmS];rfl
theorem zDe {α:Type} {y:Out}:∀ {n:Nat} {l:List α} {K:List α→R},zJe n l K=some y→n≤l.length∧K (l.drop n)=some y
 | 0,_,_,h=>⟨Nat.zero_le _,h⟩
 | _+1,[],_,h=>by cases h
 | n+1,_::l,K,h=>by
  obtain⟨h1,h2⟩:=zDe (n:=n) (l:=l) (K:=K) h;exact⟨Nat.succ_le_succ h1,h2⟩
theorem zs6 {α:Type} {y:Out}:∀ {n:Nat} {l:List α} {K:List α→R},zqs n l K=some y→n≤l.length∧K (l.take n)=some y
 | 0,_,_,h=>⟨Nat.zero_le _,h⟩
 | _+1,[],_,h=>by cases h
 | n+1,a::l,K,h=>by
  obtain⟨h1,h2⟩:=zs6 (n:=n) (l:=l) (K:=fun r=>K (a::r)) h;exact⟨Nat.succ_le_succ h1,h2⟩
theorem zIe {α:Type} {y:Out}:∀ {vs l:List α} {K:List α→R},zOR vs l K=some y→vs.length≤l.length∧K (vs++l.drop vs.length)=some y
 | [],_,_,h=>⟨Nat.zero_le _,h⟩
 | _::_,[],_,h=>by cases h
 | v::vs,a::l,K,h=>by
  obtain⟨h1,h2⟩:=zIe (vs:=vs) (l:=l) (K:=fun r=>K (v::r)) h;exact⟨Nat.succ_le_succ h1,h2⟩
theorem zwc {α:Type} {y:Out}:∀ {o:Nat} {l vs:List α} {K:List α→R},zDa o l vs K=some y→o+vs.length≤l.length∧K (splice l o vs)=some y
 | 0,l,vs,K,h=>by
  obtain⟨h1,h2⟩:=zIe (vs:=vs) (l:=l) (K:=K) h;exact⟨by omega,by simpa[splice] using h2⟩
 | _+1,[],_,_,h=>by cases h
 | o+1,a::l,vs,K,h=>by
  obtain⟨h1,h2⟩:=zwc (o:=o) (l:=l) (vs:=vs) (K:=fun r=>K (a::r)) h;refine⟨by simp only[List.length_cons];omega,?_⟩;have e:splice (a::l) (o+1) vs=a::splice l o vs:=by simp[splice,Nat.add_right_comm o 1]
  rw[e];exact h2
theorem zs7 {α:Type} {y:Out}:∀ {l:List α} {k:Nat} {K:α→R},zv8 l k K=some y→∃ a,l[k]? = some a∧K a=some y
 | [],_,_,h=>by cases h
 | a::_,0,_,h=>⟨a,rfl,h⟩
 | _::l,k+1,K,h=>by simpa using zs7 (l:=l) (k:=k) (K:=K) h
theorem zGE {α:Type} {y:Out}:∀ {l:List α} {k:Nat} {x:α} {K:List α→R},setK l k x K=some y→k<l.length∧K (l.set k x)=some y
 | [],_,_,_,h=>by cases h
 | _::l,0,_,_,h=>⟨by simp,h⟩
 | a::l,k+1,x,K,h=>by
  obtain⟨h1,h2⟩:=zGE (l:=l) (k:=k) (x:=x) (K:=fun r=>K (a::r)) h;exact⟨by simp only[List.length_cons];omega,h2⟩
theorem zLL {α:Type} {y:Out}:∀ {l:List α} {k:Nat} {K:List α→R},zMU l k K=some y→k<l.length∧K (l.eraseIdx k)=some y
 | [],_,_,h=>by cases h
 | _::l,0,_,h=>⟨by simp,h⟩
 | a::l,k+1,K,h=>by
  obtain⟨h1,h2⟩:=zLL (l:=l) (k:=k) (K:=fun r=>K (a::r)) h;exact⟨by simp only[List.length_cons];omega,h2⟩
theorem zs8 {cs:List C} {o n:Nat} {K:List C→R} {y:Out} (h:takeC cs o n K=some y):o+n≤cs.length∧K ((cs.drop o).take n)=some y:=by
 obtain⟨h1,h2⟩:=zDe h;obtain⟨h3,h4⟩:=zs6 h2;rw[List.length_drop] at h3;exact⟨by omega,h4⟩
namespace T
variable {α:Type}
theorem get_1 (l r:T α) (v:Option α) (m:Nat):(T.n l v r).get (m+1)=if Nat.beq (m % 2) 1 then r.get (m / 2) else l.get (m / 2):=by
 show (Bool.rec (l.get (m / 2)) (r.get (m / 2)) (Nat.beq (m % 2) 1):Option α)=_;cases Nat.beq (m % 2) 1<;>rfl
noncomputable def put (t:T α) (k:Nat) (x:Option α):T α:=t.set k x id
theorem set_put {ρ:Type}:∀ (t:T α) (k:Nat) (x:Option α) (K:T α→ρ),t.set k x K=K (t.put k x)
 | .e,_,_,_=>rfl
 | .n _ _ _,0,_,_=>rfl
 | .n l v r,m+1,x,K=>by
  unfold put;show (Bool.rec (l.set (m / 2) x fun l'=>K (.n l' v r)) (r.set (m / 2) x fun r'=>K (.n l v r')) (Nat.beq (m % 2) 1):ρ)=K (Bool.rec (motive:=fun _=>T α) (l.set (m / 2) x fun l'=>id (.n l' v r)) (r.set (m / 2) x fun r'=>id (.n l v r')) (Nat.beq (m % 2) 1))
  cases Nat.beq (m % 2) 1
  ·show l.set (m / 2) x _=K (l.set (m / 2) x _);rw[set_put l,set_put l];rfl
  ·show r.set (m / 2) x _=K (r.set (m / 2) x _);rw[set_put r,set_put r];rfl
theorem zOZ (l r:T α) (v:Option α) (m:Nat) (x:Option α):(T.n l v r).put (m+1) x=if Nat.beq (m % 2) 1 then .n l v (r.put (m / 2) x) else .n (l.put (m / 2) x) v r:=by
 unfold put;show (Bool.rec (l.set (m / 2) x fun l'=>id (.n l' v r)) (r.set (m / 2) x fun r'=>id (.n l v r')) (Nat.beq (m % 2) 1):T α)=_
 cases Nat.beq (m % 2) 1
 ·show l.set (m / 2) x _=_;rw[set_put l];rfl
 ·show r.set (m / 2) x _=_;rw[set_put r];rfl
theorem zDf:∀ {f k j:Nat} {x:Option α} {y:α},(T.one f k x).get j=some y→j=k∧x=some y
 | 0,_,_,_,_,h=>by cases h
 | _+1,0,0,x,y,h=>⟨rfl,h⟩
 | _+1,0,j+1,x,y,h=>by
  have e:∀ f,(T.one (f+1) 0 x:T α) = .n .e x .e:=fun _=>rfl
  rw[e,get_1] at h;split at h<;>cases h
 | f+1,m+1,j,x,y,h=>by
  have e:(T.one (f+1) (m+1) x:T α)=Bool.rec (.n (T.one f (m / 2) x) none .e) (.n .e none (T.one f (m / 2) x)) (Nat.beq (m % 2) 1):=rfl;rw[e] at h;cases hm:Nat.beq (m % 2) 1 with
  | true=>
   rw[hm] at h;have hm':m % 2=1:=Nat.eq_of_beq_eq_true hm
   cases j with
   | zero=>cases h
   | succ j=>
    replace h:(T.n .e none (T.one f (m / 2) x):T α).get (j+1)=some y:=h;rw[get_1] at h;split at h
    ·rename_i hj;have hj':j % 2=1:=Nat.eq_of_beq_eq_true hj
     obtain⟨h1,h2⟩:=zDf h;exact⟨by omega,h2⟩
    ·cases h
  | false=>
   rw[hm] at h;have hm':m % 2≠1:=fun e=>by rw[e] at hm;cases hm
   cases j with
   | zero=>cases h
   | succ j=>
    replace h:(T.n (T.one f (m / 2) x) none .e:T α).get (j+1)=some y:=h;rw[get_1] at h;split at h
    ·cases h
    ·rename_i hj;have hj':j % 2≠1:=fun e=>by rw[e] at hj;exact hj rfl
     obtain⟨h1,h2⟩:=zDf h;exact⟨by omega,h2⟩
theorem get_put:∀ {t:T α} {k j:Nat} {x:Option α} {y:α},(t.put k x).get j=some y→(j=k∧x=some y)∨(j≠k∧t.get j=some y)
 | .e,k,j,x,y,h => .inl (zDf (f:=40) (show (T.one 40 k x).get j=some y from h))
 | .n _ _ _,0,0,x,y,h => .inl ⟨rfl,h⟩
 | .n l v r,0,j+1,x,y,h=>by
  have e:(T.n l v r).put 0 x = .n l x r:=rfl;rw[e,get_1] at h;exact .inr ⟨by omega,by rw[get_1];exact h⟩
 | .n l v r,m+1,0,x,y,h=>by
  rw[zOZ] at h;refine .inr ⟨by omega,?_⟩;split at h<;>exact h
 | .n l v r,m+1,j+1,x,y,h=>by
  rw[zOZ] at h;rw[get_1];cases hm:Nat.beq (m % 2) 1<;>cases hj:Nat.beq (j % 2) 1<;>simp only[hm,Bool.false_eq_true,if_false,if_true] at h<;>rw[get_1,hj] at h<;>simp only[Bool.false_eq_true,if_false,if_true] at h ⊢
  ·have hm':m % 2≠1:=fun e=>by rw[e] at hm;cases hm
   have hj':j % 2≠1:=fun e=>by rw[e] at hj;cases hj
   rcases get_put h with ⟨h1,h2⟩|⟨h1,h2⟩
   ·exact .inl ⟨by omega,h2⟩
   ·exact .inr ⟨by omega,h2⟩
  ·have hm':m % 2≠1:=fun e=>by rw[e] at hm;cases hm
   have hj':j % 2=1:=Nat.eq_of_beq_eq_true hj;exact .inr ⟨by omega,h⟩
  ·have hj':j % 2≠1:=fun e=>by rw[e] at hj;cases hj
   have hm':m % 2=1:=Nat.eq_of_beq_eq_true hm;exact .inr ⟨by omega,h⟩
  ·have hm':m % 2=1:=Nat.eq_of_beq_eq_true hm;have hj':j % 2=1:=Nat.eq_of_beq_eq_true hj
   rcases get_put h with ⟨h1,h2⟩|⟨h1,h2⟩
   ·exact .inl ⟨by omega,h2⟩
   ·exact .inr ⟨by omega,h2⟩
end T
structure E where
 addr:Nat
 cap:Nat
 nil:Bool
 sp:List Value
def zac (l:List Nat):ByteArray:=⟨(l.map UInt8.ofNat).toArray⟩
def C.val (σ:List E):C→Option Value
 | .n q x=>some (.int q x)
 | .t x=>some (.bool x)
 | .s x=>some (.string (zac x))
 | .p a o=>(σ[a]?).map fun e => .pointer (some ⟨e.addr,o,none⟩)
 | .np=>some (.pointer none)
 | .l a o x y=>(σ[a]?).map fun e => .slice (some ⟨e.addr,o,none⟩) x y
 | .g a o d x=>(σ[a]?).bind fun e=>if e.nil=true then (if x=0∧o=0∧d=0 then some (.slice none 0 0) else none) else (if d+x≤e.cap then some (.slice (some ⟨e.addr,o,none⟩) x (e.cap - d)) else none)
 | .nl=>some (.slice none 0 0)
 | .m a=>(σ[a]?).map fun e => .map (some e.addr)
 | .nm=>some (.map none)
 | .b _ _=>none
 | .f x=>some (.func (.func x) #[] #[])
 | .fm x a o=>(σ[a]?).map fun e => .func (.func x) #[.pointer (some ⟨e.addr,o,none⟩)] #[]
 | .h a o d k z w=>(σ[a]?).bind fun e=>if e.nil=false∧d+k≤e.cap then some (.slice (zaq (some ⟨e.addr,o,none⟩) k (e.cap - d) z) 0 (if w then 0 else e.cap - d - k)) else none
 | .ni=>some .nilIface
 | .nf=>some .nilFunc
def CR (σ:List E) (c:C) (v:Value):Prop:=c.val σ=some v
def SCR (σ:List E) (nb:Nat) (c:C) (x:SC):Prop:=match c with | .b j o=>j<nb∧x = .bx j o|c=>∃ v,c.val σ=some v∧x = .v v
def WR (σ:List E) (w:W) (v:Value):Prop:=match w with | .c x=>CR σ x v | .ag l=>∃ vs,All2 (CR σ) l vs∧v = .agg vs.toArray | .fn g l=>∃ vs,All2 (CR σ) l vs∧v = .func (.func g) #[] vs.toArray
def VR (σ:List E) (nb:Nat) (v:V) (sv:SV):Prop:=
 match v with
 | .c x=>(∃ sc,SCR σ nb x sc∧sv = .c sc)∨(∃ b,x = .t b∧sv = .sb b)
 | .ag l=>∃ cs,All2 (SCR σ nb) l cs∧sv = .ag cs
 | .fn g l=>(∃ cs,All2 (SCR σ nb) l cs∧sv = .fn g cs)∨(∃ vs,All2 (CR σ) l vs∧sv = .c (.v (.func (.func g) #[] vs.toArray)))
 | .tp l=>∃ vs,All2 (WR σ) l vs∧sv = .c (.v (.tuple vs.toArray))
 | .sl j n=>j<nb∧sv = .sl j n
 | .dead=>sv = .dead
def OVR (σ:List E) (v:V) (x:Value):Prop:=match v with | .c c=>CR σ c x | .ag l=>WR σ (.ag l) x | .fn g l=>WR σ (.fn g l) x | .tp l=>∃ vs,All2 (WR σ) l vs∧x = .tuple vs.toArray|_=>False
def EnR (σ:List E) (e:En) (m:MapEntry):Prop:=WR σ e.key m.key∧WR σ e.val m.val∧m.born=e.born
def mR (σ:List E) (m:Option Nat) (x:Option Nat):Prop:=match m with|none=>x=none|some a=>∃ e,σ[a]? = some e∧x=some e.addr
def OR (σ:List E) (e:E) (o:O) (M:Mem):Prop:=
 match o with
 | .row T l=>e.nil=false∧∃ vs,All2 (CR σ) l vs∧M e.addr=some (.cells vs.toArray T (0,0))
 | .ro T l=>e.nil=false∧∃ vs,All2 (CR σ) l vs∧M e.addr=some (.cells vs.toArray T (vs.length,vs.length+1))
 | .gr T z l=>∃ vs,All2 (CR σ) l vs∧((e.nil=true∧l=[]∧e.cap=0)∨(e.nil=false∧M e.addr=some (.cells (vs++e.sp).toArray T (0,0))∧(vs++e.sp).length=e.cap*z))
 | .mp es c=>e.nil=false∧∃ ms,All2 (EnR σ) es ms∧M e.addr=some (.map ms.toArray c)
 | .it m a s t=>e.nil=false∧∃ x,mR σ m x∧M e.addr=some (.mapIter x a s.toArray t)
 | .si l p=>e.nil=false∧M e.addr=some (.stringIter (zac l) p)
def BR (σ:List E) (nb:Nat) (b:B) (x:BE):Prop:=match b with | .live T l=>∃ cs,All2 (SCR σ nb) l cs∧x = .live T cs | .gone a=>∃ e,σ[a]? = some e∧x = .gone e.addr | .dark=>∃ a,x = .gone a
def FR (σ:List E) (nb:Nat) (s:S) (fr:List (Nat×SV)):Prop:=∀ d v,s.fget d=some v→v ≠ .dead∧∃ sv,lk fr d=some sv∧VR σ nb v sv
structure HR (σ:List E) (H:T O) (M:Mem):Prop where
 has:∀ a o,H.get a=some o→∃ e,σ[a]? = some e∧OR σ e o M
 inj:∀ a b oa ob ea eb,H.get a=some oa→H.get b=some ob→σ[a]? = some ea→σ[b]? = some eb→ea.nil=false→eb.nil=false→ea.addr=eb.addr→a=b
structure SR (σ:List E) (s:S) (t:St):Prop where
 n:s.n=σ.length
 fr:FR σ t.bx.length s t.fr
 bx:All2 (BR σ t.bx.length) s.bx t.bx
 h:HR σ s.H t.M
def S.rd (s:S) (a:Nat):Prop:=match s.g with|none=>True|some l=>mem a l=true
structure QR (σ:List E) (nb:Nat) (s:S) (t:St):Prop where
 fr:FR σ nb s t.fr
 bx:All2 (BR σ nb) s.bx t.bx
 h:∀ a o,s.rd a→s.H.get a=some o→∃ e,σ[a]? = some e∧OR σ e o t.M
theorem SR.q {σ:List E} {s:S} {t:St} (h:SR σ s t):QR σ t.bx.length s t:=⟨h.fr,h.bx,fun a o _ ha=>h.h.has a o ha⟩
theorem C.val_mono {σ:List E} (τ:List E) {c:C} {v:Value} (h:c.val σ=some v):c.val (σ++τ)=some v:=by
 have key:∀ {a:Nat} {e:E},σ[a]? = some e→(σ++τ)[a]? = some e:=fun {a e} he=>by
  rw[List.getElem?_append_left (List.getElem?_eq_some_iff.1 he).1];exact he
 cases c with
 | p a o=>simp only[C.val,Option.map_eq_some_iff] at h ⊢; obtain⟨e,h1,h2⟩:=h;exact⟨e,key h1,h2⟩
 | l a o n c=>simp only[C.val,Option.map_eq_some_iff] at h ⊢; obtain⟨e,h1,h2⟩:=h;exact⟨e,key h1,h2⟩
 | m a=>simp only[C.val,Option.map_eq_some_iff] at h ⊢; obtain⟨e,h1,h2⟩:=h;exact⟨e,key h1,h2⟩
 | g a o d n=>simp only[C.val,Option.bind_eq_some_iff] at h ⊢; obtain⟨e,h1,h2⟩:=h;exact⟨e,key h1,h2⟩
 | fm g a o=>simp only[C.val,Option.map_eq_some_iff] at h ⊢; obtain⟨e,h1,h2⟩:=h;exact⟨e,key h1,h2⟩
 | h a o d k z w=>simp only[C.val,Option.bind_eq_some_iff] at h ⊢; obtain⟨e,h1,h2⟩:=h;exact⟨e,key h1,h2⟩
 | _=>exact h
theorem CR.mono {σ:List E} (τ:List E) {c:C} {v:Value} (h:CR σ c v):CR (σ++τ) c v:=C.val_mono τ h
theorem SCR.mono {σ:List E} {nb nb':Nat} (τ:List E) (hn:nb≤nb') {c:C} {x:SC} (h:SCR σ nb c x):SCR (σ++τ) nb' c x:=by
 cases c with
 | b j o=>exact⟨Nat.lt_of_lt_of_le h.1 hn,h.2⟩
 | _=>obtain⟨v,h1,h2⟩:=h;exact⟨v,C.val_mono τ h1,h2⟩
theorem WR.mono {σ:List E} (τ:List E) {w:W} {v:Value} (h:WR σ w v):WR (σ++τ) w v:=by
 cases w with
 | c x=>exact CR.mono τ h
 | ag l=>obtain⟨vs,h1,h2⟩:=h;exact⟨vs,h1.imp fun _ _=>CR.mono τ,h2⟩
 | fn g l=>obtain⟨vs,h1,h2⟩:=h;exact⟨vs,h1.imp fun _ _=>CR.mono τ,h2⟩
theorem VR.mono {σ:List E} {nb nb':Nat} (τ:List E) (hn:nb≤nb') {v:V} {sv:SV} (h:VR σ nb v sv):VR (σ++τ) nb' v sv:=by
 cases v with
 | c x=>exact h.imp (fun ⟨sc,h1,h2⟩=>⟨sc,h1.mono τ hn,h2⟩) id
 | ag l=>obtain⟨cs,h1,h2⟩:=h;exact⟨cs,h1.imp fun _ _=>SCR.mono τ hn,h2⟩
 | fn g l=>exact h.imp (fun ⟨cs,h1,h2⟩=>⟨cs,h1.imp fun _ _=>SCR.mono τ hn,h2⟩) (fun ⟨vs,h1,h2⟩=>⟨vs,h1.imp fun _ _=>CR.mono τ,h2⟩)
 | tp l=>obtain⟨vs,h1,h2⟩:=h;exact⟨vs,h1.imp fun _ _=>WR.mono τ,h2⟩
 | sl j n=>exact⟨Nat.lt_of_lt_of_le h.1 hn,h.2⟩
 | dead=>exact h
theorem zov {σ:List E} (τ:List E) {a:Nat} {e:E} (he:σ[a]? = some e):(σ++τ)[a]? = some e:=by
 rw[List.getElem?_append_left (List.getElem?_eq_some_iff.1 he).1];exact he
theorem EnR.mono {σ:List E} (τ:List E) {e:En} {m:MapEntry} (h:EnR σ e m):EnR (σ++τ) e m:=⟨h.1.mono τ,h.2.1.mono τ,h.2.2⟩
theorem OR.mono {σ:List E} (τ:List E) {e:E} {o:O} {M:Mem} (h:OR σ e o M):OR (σ++τ) e o M:=by
 cases o with
 | row T l=>obtain⟨h0,vs,h1,h2⟩:=h;exact⟨h0,vs,h1.imp fun _ _=>CR.mono τ,h2⟩
 | ro T l=>obtain⟨h0,vs,h1,h2⟩:=h;exact⟨h0,vs,h1.imp fun _ _=>CR.mono τ,h2⟩
 | gr T z l=>obtain⟨vs,h1,h2⟩:=h;exact⟨vs,h1.imp fun _ _=>CR.mono τ,h2⟩
 | mp es c=>obtain⟨h0,ms,h1,h2⟩:=h;exact⟨h0,ms,h1.imp fun _ _=>EnR.mono τ,h2⟩
 | it m a s t=>
  obtain⟨h0,x,h1,h2⟩:=h;refine⟨h0,x,?_,h2⟩;cases m with
  | none=>exact h1
  | some a=>obtain⟨e,h3,h4⟩:=h1;exact⟨e,zov τ h3,h4⟩
 | si l p=>exact h
theorem BR.mono {σ:List E} {nb nb':Nat} (τ:List E) (hn:nb≤nb') {b:B} {x:BE} (h:BR σ nb b x):BR (σ++τ) nb' b x:=by
 cases b with
 | live T l=>obtain⟨cs,h1,h2⟩:=h;exact⟨cs,h1.imp fun _ _=>SCR.mono τ hn,h2⟩
 | gone a=>obtain⟨e,h1,h2⟩:=h;exact⟨e,zov τ h1,h2⟩
 | dark=>exact h
theorem FR.mono {σ:List E} {nb nb':Nat} (τ:List E) (hn:nb≤nb') {s:S} {fr:List (Nat×SV)} (h:FR σ nb s fr):FR (σ++τ) nb' s fr:=fun d v hd=>by
 obtain⟨h0,sv,h1,h2⟩:=h d v hd;exact⟨h0,sv,h1,h2.mono τ hn⟩
theorem CR.fn {σ:List E} {c:C} {v v':Value} (h:CR σ c v) (h':CR σ c v'):v=v':=by unfold CR at h h';rw[h] at h';exact Option.some.inj h'
theorem CR.sc {σ:List E} {nb:Nat} {c:C} {v:Value} (h:CR σ c v):SCR σ nb c (.v v):=by
 cases c with
 | b j o=>cases h
 | _=>exact⟨v,h,rfl⟩
theorem CR.one {σ:List E} {c:C} {v:Value} (h:CR σ c v):v.oneCell'=true:=by
 unfold CR at h
 cases c<;>simp only[C.val,Option.map_eq_some_iff,Option.bind_eq_some_iff,Option.some.injEq,reduceCtorEq] at h<;>first
  | (subst h;rfl)
  | (obtain⟨e, -, rfl⟩:=h;rfl)
  | (obtain⟨e, -, h⟩:=h;split at h<;>split at h<;>first|(cases h;rfl)|cases h)
  | (obtain⟨e, -, h⟩:=h;split at h<;>first|(cases h;rfl)|cases h)
theorem zwd {σ:List E} {nb:Nat} {c:C} {v:Value} (h:CR σ c v):VR σ nb (.c c) (zfK v):=by
 have h1:=h.one;cases v with
 | bool b=>
  right;refine⟨b,?_,rfl⟩;unfold CR at h
  cases c<;>simp only[C.val,Option.map_eq_some_iff,Option.bind_eq_some_iff,Option.some.injEq,reduceCtorEq,and_false,exists_false] at h<;>first
   | (cases h;rfl)
   | (obtain⟨e, -, h⟩:=h;split at h<;>split at h<;>cases h)
   | (obtain⟨e, -, h⟩:=h;split at h<;>cases h)
 | agg cs=>cases h1
 | tuple cs=>cases h1
 | _=>exact .inl ⟨_,h.sc,rfl⟩
theorem zwI {σ:List E} {nb:Nat} {w:W} {v:Value} (h:WR σ w v):VR σ nb (V.ofW w) (zfK v):=by
 cases w with
 | c x=>exact zwd h
 | ag l=>
  obtain⟨vs,h1,rfl⟩:=h;exact⟨vs.map .v,h1.map fun _ _ h=>CR.sc h,by simp[zfK]⟩
 | fn g l=>
  obtain⟨vs,h1,rfl⟩:=h;exact .inr ⟨vs,h1,rfl⟩
theorem zSu {σ:List E} {nb:Nat} {v:V} {x:Value} (h:OVR σ v x):VR σ nb v (zfK x):=by
 cases v with
 | c c=>exact zwd h
 | ag l=>exact zwI (w := .ag l) h
 | fn g l=>exact zwI (w := .fn g l) h
 | tp l=>obtain⟨vs,h1,rfl⟩:=h;exact⟨vs,h1,rfl⟩
 | sl j n=>exact h.elim
 | dead=>exact h.elim
theorem zPV (s:ByteArray):zac (s.toList.map UInt8.toNat)=s:=by
 unfold zac
 have:(s.toList.map UInt8.toNat).map UInt8.ofNat=s.toList:=by
  rw[List.map_map]
  conv=>rhs;rw[←List.map_id s.toList]
  apply List.map_congr_left;intro a _;simp
 rw[this,ByteArray.toList_eq]
theorem C.ofV_s {v:Value} {c:C} (h:C.ofV v=some c) (σ:List E):CR σ c v:=by
 unfold C.ofV at h
 split at h<;>first
  | (cases h;rfl)
  | (cases h;simp only[CR,C.val,zPV])
  | cases h
theorem zq2 {y:Out} (σ:List E):∀ {vs:List Value} {K:List C→R},zv9 vs K=some y→∃ l,All2 (CR σ) l vs∧K l=some y
 | [],K,h=>⟨[],trivial,h⟩
 | v::vs,K,h=>by
  obtain⟨c,h1,h2⟩:=ziZ (K:=fun c=>zv9 vs fun r=>K (c::r)) h;obtain⟨l,h3,h4⟩:=zq2 σ (vs:=vs) (K:=fun r=>K (c::r)) h2;exact⟨c::l,⟨C.ofV_s h1 σ,h3⟩,h4⟩
theorem ofV_s {v:Value} {K:V→R} {y:Out} (h:V.ofV v K=some y) (σ:List E) (nb:Nat):∃ x,(∃ w,(x = .c w∧CR σ w v∨∃ l cs,x = .ag l∧v = .agg cs∧All2 (CR σ) l cs.toList))∧VR σ nb x (zE9 v)∧K x=some y:=by
 unfold V.ofV at h;split at h
 ·rename_i cs;obtain⟨l,h1,h2⟩:=zq2 σ h;exact⟨.ag l,⟨.ni,.inr ⟨l,cs,rfl,rfl,h1⟩⟩,⟨cs.toList.map .v,h1.map fun _ _ h=>CR.sc h,rfl⟩,h2⟩
 ·rename_i hv;obtain⟨c,h1,h2⟩:=ziZ h;have h3:=C.ofV_s h1 σ
  refine⟨.c c,⟨c,.inl ⟨rfl,h3⟩⟩,.inl ⟨.v v,h3.sc,?_⟩,h2⟩;cases v<;>first|rfl|exact absurd rfl (hv _)
section
variable {σ:List E} {s:S} {t:St} {y:Out} {nb:Nat}
theorem z8 {x:Operand} {K:V→R} (h:ev s x K=some y) (hf:FR σ nb s t.fr) {k:SV→Prop} (hk:∀ v sv,v ≠ .dead→VR σ nb v sv→K v=some y→k sv):Vm.ev t x k:=by
 cases x with
 | tmp d=>
  obtain⟨v,h1,h2⟩:=ziZ (K:=K) h;obtain⟨h0,sv,h3,h4⟩:=hf d v h1;show evO (lk t.fr d) k
  rw[h3];have h5:=hk v sv h0 h4 h2
  cases sv with
  | dead=>
   exfalso;cases v with
   | c x=>rcases h4 with ⟨_,_,h⟩|⟨_,_,h⟩<;>cases h
   | ag l=>obtain⟨_,_,h⟩:=h4;cases h
   | fn g l=>rcases h4 with ⟨_,_,h⟩|⟨_,_,h⟩<;>cases h
   | tp l=>obtain⟨_,_,h⟩:=h4;cases h
   | sl j n=>cases h4.2
   | dead=>exact h0 rfl
  | _=>exact h5
 | const v=>
  obtain⟨x,⟨w,hx⟩,h1,h2⟩:=ofV_s (K:=K) h σ nb;refine hk x _ ?_ h1 h2;rintro rfl;rcases hx with ⟨h,_⟩|⟨_,_,h,_⟩<;>cases h
 | func f=>exact hk (.c (.f f)) _ (by simp) (.inl ⟨.v (.func (.func f) #[] #[]),CR.sc (c := .f f) rfl,rfl⟩) h
 | global g=>cases h
end
end Go.Vm.Rn
