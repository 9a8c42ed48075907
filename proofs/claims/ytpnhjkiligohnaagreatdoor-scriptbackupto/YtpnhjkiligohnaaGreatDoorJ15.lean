/- Part of this proof;laid by program. -/
import Derived.Test.YtpnhjkiligohnaaGreatDoorJ11
import Derived.Test.YtpnhjkiligohnaaGreatDoorJ12
import Derived.Test.YtpnhjkiligohnaaGreatDoorJ13
import Derived.Test.YtpnhjkiligohnaaGreatDoorJ14
set_option linter.unusedVariables false
set_option linter.unusedSimpArgs false
namespace Go.Proofs.YtpnhjkiligohnaaGreatDoor
open Go.Vm Go.Vm.Rn
set_option maxRecDepth 20000
def tab:T FC := .n (.n (.n (.n (.n (.n (.n (.n (.n (.e) (some ⟨8,zk0,zk1⟩) (.e)) (none) (.n (.e) (some ⟨12,znx,zny⟩) (.e))) (some ⟨10,zG7,zG8⟩) (.n (.n (.e) (some ⟨9,zCh,zCi⟩) (.e)) (some ⟨105,zJ8,zJ9⟩) (.e))) (some ⟨1,zFh,zFi⟩) (.n (.n (.n (.e) (some ⟨9,zda,zdb⟩) (.e)) (some ⟨12,zdZ,zd0⟩) (.e)) (some ⟨91,zgn,zgo⟩) (.n (.n (.e) (some ⟨11,zjT,zjU⟩) (.e)) (some ⟨19,zbR,zbS⟩) (.e)))) (some ⟨3,zzR,zzS⟩) (.n (.n (.n (.n (.e) (some ⟨5,zqO,zqP⟩) (.e)) (some ⟨4,zmq,zmr⟩) (.e)) (some ⟨6,zyi,zyj⟩) (.n (.n (.e) (some ⟨7,zdJ,zdK⟩) (.e)) (some ⟨7,zfM,zfN⟩) (.e))) (some ⟨13,zG1,zG2⟩) (.n (.n (.n (.e) (some ⟨10,zav,zaw⟩) (.e)) (some ⟨8,zn2,zn3⟩) (.e)) (some ⟨3,zkQ,zkR⟩) (.n (.n (.e) (some ⟨10,zaG,zaH⟩) (.e)) (some ⟨9,zsT,zsU⟩) (.e))))) (some ⟨18,zjm,zjn⟩) (.n (.n (.n (.n (.n (.e) (some ⟨11,zjC,zjD⟩) (.e)) (some ⟨4,zn0,zn1⟩) (.n (.e) (some ⟨9,zob,zoc⟩) (.e))) (some ⟨13,zhN,zhO⟩) (.n (.n (.e) (some ⟨6,zso,zsp⟩) (.e)) (some ⟨3,zc4,zc5⟩) (.e))) (some ⟨6,zhB,zhC⟩) (.n (.n (.n (.e) (some ⟨10,zan,zao⟩) (.e)) (some ⟨26,zse,zsf⟩) (.e)) (some ⟨6,zeH,zeI⟩) (.n (.n (.e) (some ⟨12,zl2,zl3⟩) (.e)) (some ⟨5,zb8,zb9⟩) (.e)))) (some ⟨65,zme,zmf⟩) (.n (.n (.n (.n (.e) (some ⟨11,zis,zit⟩) (.e)) (some ⟨13,zid,zie⟩) (.e)) (some ⟨3,zo8,zo9⟩) (.n (.n (.e) (some ⟨11,zp0,zp1⟩) (.e)) (some ⟨9,zpa,zpb⟩) (.e))) (some ⟨12,zhD,zhE⟩) (.n (.n (.n (.e) (some ⟨3,zCd,zCe⟩) (.e)) (none) (.e)) (some ⟨15,zyw,zyx⟩) (.n (.n (.e) (some ⟨12,zd7,zd8⟩) (.e)) (some ⟨12,zqM,zqN⟩) (.e)))))) (some ⟨6,ztm,ztn⟩) (.n (.n (.n (.n (.n (.n (.e) (some ⟨2,zbh,zbi⟩) (.e)) (some ⟨3,zcD,zcE⟩) (.n (.e) (some ⟨12,znz,znA⟩) (.e))) (some ⟨10,zIE,zIF⟩) (.n (.n (.e) (some ⟨6,zk6,zk7⟩) (.e)) (some ⟨18,zeX,zeY⟩) (.e))) (some ⟨10,zFj,zFk⟩) (.n (.n (.n (.e) (some ⟨9,zfU,zfV⟩) (.e)) (some ⟨6,ztt,ztu⟩) (.e)) (some ⟨6,zhX,zhY⟩) (.n (.n (.e) (some ⟨5,zAk,zAl⟩) (.e)) (some ⟨5,zn4,zn5⟩) (.e)))) (some ⟨5,zxW,zxX⟩) (.n (.n (.n (.n (.e) (some ⟨11,zoN,zoO⟩) (.e)) (some ⟨8,zjw,zjx⟩) (.e)) (some ⟨6,zu5,zu6⟩) (.n (.n (.e) (some ⟨10,zoP,zoQ⟩) (.e)) (some ⟨52,zgJ,zgK⟩) (.e))) (some ⟨2,zBR,zBS⟩) (.n (.n (.n (.e) (some ⟨10,zjQ,zjR⟩) (.e)) (some ⟨5,zwq,zwr⟩) (.e)) (some ⟨9,zz2,zz3⟩) (.n (.n (.e) (some ⟨10,zle,zlf⟩) (.e)) (some ⟨3,zpv,zpw⟩) (.e))))) (some ⟨133,zBN,zBO⟩) (.n (.n (.n (.n (.n (.e) (some ⟨1,zsW,zsX⟩) (.e)) (some ⟨14,zib,zic⟩) (.e)) (some ⟨66,zeB,zeC⟩) (.n (.n (.e) (some ⟨5,ziC,ziD⟩) (.e)) (some ⟨10,zqK,zqL⟩) (.e))) (some ⟨5,zkK,zkL⟩) (.n (.n (.n (.e) (some ⟨10,ziy,ziz⟩) (.e)) (some ⟨46,zeV,zeW⟩) (.e)) (some ⟨12,zeJ,zeK⟩) (.n (.n (.e) (some ⟨3,zFH,zFI⟩) (.e)) (some ⟨1,zbT,zbU⟩) (.e)))) (some ⟨13,zDt,zDu⟩) (.n (.n (.n (.n (.e) (some ⟨3,zyO,zyP⟩) (.e)) (some ⟨10,zkW,zkX⟩) (.e)) (some ⟨17,zkM,zkN⟩) (.n (.n (.e) (some ⟨50,zlF,zlG⟩) (.e)) (some ⟨6,zsP,zsQ⟩) (.e))) (some ⟨10,zhH,zhI⟩) (.n (.n (.n (.e) (some ⟨11,ziA,ziB⟩) (.e)) (some ⟨7,zwt,zwu⟩) (.e)) (some ⟨13,zh7,zh8⟩) (.n (.n (.e) (some ⟨7,zjY,zjZ⟩) (.e)) (some ⟨10,zFB,zFC⟩) (.e))))))) (none) (.n (.n (.n (.n (.n (.n (.n (.e) (some ⟨11,ziq,zir⟩) (.e)) (some ⟨3,zmm,zmn⟩) (.n (.e) (some ⟨9,zDV,zDW⟩) (.e))) (some ⟨5,zJ2,zJ3⟩) (.n (.n (.e) (some ⟨4,zco,zcp⟩) (.e)) (some ⟨12,zqI,zqJ⟩) (.e))) (some ⟨5,zx0,zx1⟩) (.n (.n (.n (.e) (some ⟨6,ziu,ziv⟩) (.e)) (some ⟨4,ztr,zts⟩) (.e)) (some ⟨3,zhV,zhW⟩) (.n (.n (.e) (some ⟨10,zKj,zKk⟩) (.e)) (some ⟨5,zFy,zFz⟩) (.e)))) (some ⟨14,zhz,zhA⟩) (.n (.n (.n (.n (.e) (some ⟨7,zwC,zwD⟩) (.e)) (some ⟨4,zkS,zkT⟩) (.e)) (some ⟨5,zym,zyn⟩) (.n (.n (.e) (some ⟨4,zcJ,zcK⟩) (.e)) (some ⟨1,zgF,zgG⟩) (.e))) (some ⟨6,zFn,zFo⟩) (.n (.n (.n (.e) (some ⟨13,zjd,zje⟩) (.e)) (some ⟨5,zuy,zuz⟩) (.e)) (some ⟨21,zdv,zdw⟩) (.n (.n (.e) (some ⟨13,zkp,zkq⟩) (.e)) (some ⟨21,zbb,zbc⟩) (.e))))) (some ⟨12,zDj,zDk⟩) (.n (.n (.n (.n (.n (.e) (some ⟨4,zdH,zdI⟩) (.e)) (some ⟨2,zgt,zgu⟩) (.n (.e) (some ⟨12,zou,zov⟩) (.e))) (some ⟨3,zhP,zhQ⟩) (.n (.n (.e) (some ⟨7,zn9,zoa⟩) (.e)) (some ⟨6,zB3,zB4⟩) (.e))) (some ⟨3,zx7,zx8⟩) (.n (.n (.n (.e) (some ⟨13,zhc,zhd⟩) (.e)) (some ⟨5,zeR,zeS⟩) (.e)) (some ⟨3,zci,zcj⟩) (.n (.n (.e) (some ⟨13,znr,zns⟩) (.e)) (some ⟨3,zcH,zcI⟩) (.e)))) (some ⟨5,zzT,zzU⟩) (.n (.n (.n (.n (.e) (some ⟨11,zlz,zlA⟩) (.e)) (some ⟨42,zsc,zsd⟩) (.e)) (some ⟨4,zqr,zqs⟩) (.n (.n (.e) (some ⟨11,znp,znq⟩) (.e)) (some ⟨5,zc6,zc7⟩) (.e))) (some ⟨4,zql,zqm⟩) (.n (.n (.n (.e) (some ⟨41,zHm,zHn⟩) (.e)) (some ⟨3,zqG,zqH⟩) (.e)) (some ⟨16,zgr,zgs⟩) (.n (.n (.e) (some ⟨10,zp2,zp3⟩) (.e)) (some ⟨7,zHh,zHi⟩) (.e)))))) (some ⟨9,zwa,zwb⟩) (.n (.n (.n (.n (.n (.n (.e) (some ⟨5,zKd,zKe⟩) (.e)) (some ⟨37,zck,zcl⟩) (.n (.e) (some ⟨13,zoq,zor⟩) (.e))) (some ⟨7,zr8,zr9⟩) (.n (.n (.e) (some ⟨10,zbx,zby⟩) (.e)) (some ⟨1,zdF,zdG⟩) (.e))) (some ⟨79,zwf,zwg⟩) (.n (.n (.n (.e) (some ⟨10,zwE,zwF⟩) (.e)) (some ⟨3,zvc,zvd⟩) (.e)) (some ⟨16,zeF,zeG⟩) (.n (.n (.e) (some ⟨9,zg8,zg9⟩) (.e)) (some ⟨5,zd1,zd2⟩) (.e)))) (some ⟨5,zgl,zgm⟩) (.n (.n (.n (.n (.e) (some ⟨50,znl,znm⟩) (.e)) (some ⟨4,zkU,zkV⟩) (.e)) (some ⟨30,zeD,zeE⟩) (.n (.n (.e) (some ⟨3,zsZ,zs0⟩) (.e)) (some ⟨4,zgL,zgM⟩) (.e))) (some ⟨5,zG5,zG6⟩) (.n (.n (.n (.e) (some ⟨13,ziS,ziT⟩) (.e)) (none) (.e)) (some ⟨10,zwj,zwk⟩) (.n (.n (.e) (some ⟨13,zjW,zjX⟩) (.e)) (some ⟨8,zgN,zgO⟩) (.e))))) (some ⟨3,zDn,zDo⟩) (.n (.n (.n (.n (.n (.e) (some ⟨3,zfO,zfP⟩) (.e)) (some ⟨4,zju,zjv⟩) (.e)) (some ⟨6,zfA,zfB⟩) (.n (.n (.e) (some ⟨12,zqT,zqU⟩) (.e)) (some ⟨3,zsg,zsh⟩) (.e))) (some ⟨6,zFl,zFm⟩) (.n (.n (.n (.e) (some ⟨13,zg6,zg7⟩) (.e)) (some ⟨12,zgz,zgA⟩) (.e)) (some ⟨5,zh3,zh4⟩) (.n (.e) (some ⟨5,zc8,zc9⟩) (.e)))) (some ⟨9,zFf,zFg⟩) (.n (.n (.n (.n (.e) (some ⟨3,zfS,zfT⟩) (.e)) (some ⟨10,zyD,zyE⟩) (.e)) (some ⟨15,zqt,zqu⟩) (.n (.n (.e) (some ⟨11,zgc,zgd⟩) (.e)) (some ⟨6,zFw,zFx⟩) (.e))) (some ⟨7,zhL,zhM⟩) (.n (.n (.n (.e) (some ⟨4,zAf,zAg⟩) (.e)) (some ⟨9,zil,zim⟩) (.e)) (none) (.n (.n (.e) (some ⟨3,zwI,zwJ⟩) (.e)) (some ⟨13,zkY,zkZ⟩) (.e)))))))) (none) (.n (.n (.n (.n (.n (.n (.n (.n (.e) (some ⟨13,zmy,zmz⟩) (.e)) (some ⟨7,zmk,zml⟩) (.n (.e) (some ⟨6,zCm,zCn⟩) (.e))) (none) (.n (.n (.e) (some ⟨4,zAh,zAi⟩) (.e)) (some ⟨96,zHb,zHc⟩) (.e))) (some ⟨26,zGX,zGY⟩) (.n (.n (.n (.e) (some ⟨19,zbn,zbo⟩) (.e)) (some ⟨1,zdx,zdy⟩) (.e)) (some ⟨4,zdt,zdu⟩) (.n (.n (.e) (some ⟨12,zm0,zm1⟩) (.e)) (some ⟨3,zjA,zjB⟩) (.e)))) (some ⟨3,zxT,zxU⟩) (.n (.n (.n (.n (.e) (some ⟨5,zfQ,zfR⟩) (.e)) (some ⟨2,zeL,zeM⟩) (.e)) (some ⟨34,zyk,zyl⟩) (.n (.n (.e) (some ⟨3,zmC,zmD⟩) (.e)) (some ⟨5,zgD,zgE⟩) (.e))) (some ⟨3,zDy,zDz⟩) (.n (.n (.n (.e) (some ⟨13,zl0,zl1⟩) (.e)) (some ⟨2,zal,zam⟩) (.e)) (some ⟨9,zh5,zh6⟩) (.n (.n (.e) (some ⟨13,znt,znu⟩) (.e)) (some ⟨21,zaP,zaQ⟩) (.e))))) (some ⟨6,zGR,zGS⟩) (.n (.n (.n (.n (.n (.e) (some ⟨3,zpi,zpj⟩) (.e)) (some ⟨5,zqz,zqA⟩) (.n (.e) (some ⟨10,zos,zot⟩) (.e))) (some ⟨58,zfy,zfz⟩) (.n (.n (.e) (some ⟨3,zjG,zjH⟩) (.e)) (some ⟨25,zjy,zjz⟩) (.e))) (some ⟨5,zDv,zDw⟩) (.n (.n (.n (.e) (some ⟨13,zkh,zki⟩) (.e)) (some ⟨6,zij,zik⟩) (.e)) (some ⟨4,zkO,zkP⟩) (.n (.n (.e) (some ⟨9,ziU,ziV⟩) (.e)) (some ⟨8,zeZ,ze0⟩) (.e)))) (some ⟨6,zxY,zxZ⟩) (.n (.n (.n (.n (.e) (some ⟨5,zDP,zDQ⟩) (.e)) (some ⟨4,zif,zig⟩) (.e)) (some ⟨5,zqp,zqq⟩) (.n (.n (.e) (some ⟨8,zaE,zaF⟩) (.e)) (some ⟨58,zpc,zpd⟩) (.e))) (some ⟨4,zqj,zqk⟩) (.n (.n (.n (.e) (some ⟨5,zqQ,zqR⟩) (.e)) (none) (.e)) (some ⟨5,zu8,zu9⟩) (.n (.n (.e) (some ⟨9,zAm,zAn⟩) (.e)) (some ⟨25,zsk,zsl⟩) (.e)))))) (some ⟨6,zto,ztp⟩) (.n (.n (.n (.n (.n (.n (.e) (some ⟨5,zuE,zuF⟩) (.e)) (some ⟨52,zc0,zc1⟩) (.n (.e) (some ⟨9,zj0,zj1⟩) (.e))) (some ⟨7,zo6,zo7⟩) (.n (.n (.e) (some ⟨6,zmA,zmB⟩) (.e)) (some ⟨13,zdD,zdE⟩) (.e))) (some ⟨6,zx4,zx5⟩) (.n (.n (.n (.e) (some ⟨7,ziw,zix⟩) (.e)) (some ⟨4,zih,zii⟩) (.e)) (some ⟨3,zgp,zgq⟩) (.n (.n (.e) (some ⟨12,zkn,zko⟩) (.e)) (some ⟨5,zpg,zph⟩) (.e)))) (some ⟨7,zwc,zwd⟩) (.n (.n (.n (.n (.e) (some ⟨11,zlY,zlZ⟩) (.e)) (some ⟨5,zgx,zgy⟩) (.e)) (some ⟨6,zBT,zBU⟩) (.n (.n (.e) (some ⟨3,zrR,zrS⟩) (.e)) (some ⟨5,zyI,zyJ⟩) (.e))) (some ⟨10,zG3,zG4⟩) (.n (.n (.n (.e) (some ⟨13,zfW,zfX⟩) (.e)) (some ⟨12,zrt,zru⟩) (.e)) (some ⟨7,zz4,zz5⟩) (.n (.n (.e) (some ⟨13,zge,zgf⟩) (.e)) (some ⟨3,zpx,zpy⟩) (.e))))) (some ⟨10,zDl,zDm⟩) (.n (.n (.n (.n (.n (.e) (some ⟨77,zd3,zd4⟩) (.e)) (some ⟨66,zgv,zgw⟩) (.e)) (some ⟨63,zhT,zhU⟩) (.n (.n (.e) (some ⟨21,zbp,zbq⟩) (.e)) (some ⟨17,zmu,zmv⟩) (.e))) (some ⟨3,zmg,zmh⟩) (.n (.n (.n (.e) (some ⟨13,zeu,zev⟩) (.e)) (some ⟨11,zcm,zcn⟩) (.e)) (some ⟨10,zh1,zh2⟩) (.n (.n (.e) (some ⟨3,zwG,zwH⟩) (.e)) (some ⟨5,zB5,zB6⟩) (.e)))) (some ⟨9,zzV,zzW⟩) (.n (.n (.n (.n (.e) (some ⟨9,zCb,zCc⟩) (.e)) (some ⟨5,zb4,zb5⟩) (.e)) (some ⟨4,zsa,zsb⟩) (.n (.n (.e) (some ⟨8,zlc,zld⟩) (.e)) (some ⟨5,zsR,zsS⟩) (.e))) (some ⟨44,zhJ,zhK⟩) (.n (.n (.n (.e) (some ⟨16,zfY,zfZ⟩) (.e)) (some ⟨31,zcF,zcG⟩) (.e)) (none) (.n (.n (.e) (some ⟨11,zoo,zop⟩) (.e)) (some ⟨21,zIQ,zIR⟩) (.e))))))) (none) (.n (.n (.n (.n (.n (.n (.n (.e) (some ⟨4,zk2,zk3⟩) (.e)) (some ⟨3,zh9,zia⟩) (.n (.e) (some ⟨2,zrT,zrU⟩) (.e))) (some ⟨17,znW,znX⟩) (.n (.n (.e) (some ⟨6,zn6,zn7⟩) (.e)) (some ⟨17,zFu,zFv⟩) (.e))) (some ⟨3,zx2,zx3⟩) (.n (.n (.n (.e) (some ⟨89,zKg,zKh⟩) (.e)) (some ⟨1,zz8,zz9⟩) (.e)) (some ⟨28,zjq,zjr⟩) (.n (.n (.e) (some ⟨13,ziE,ziF⟩) (.e)) (some ⟨7,zpe,zpf⟩) (.e)))) (some ⟨5,zDq,zDr⟩) (.n (.n (.n (.n (.e) (some ⟨8,za3,za4⟩) (.e)) (some ⟨41,zqB,zqC⟩) (.e)) (some ⟨5,zyo,zyp⟩) (.n (.n (.e) (some ⟨5,zla,zlb⟩) (.e)) (some ⟨1,zgH,zgI⟩) (.e))) (some ⟨5,zDA,zDB⟩) (.n (.n (.n (.e) (some ⟨56,zkj,zkk⟩) (.e)) (some ⟨2,zaN,zaO⟩) (.e)) (some ⟨11,zfC,zfD⟩) (.n (.n (.e) (some ⟨56,zlJ,zlK⟩) (.e)) (some ⟨7,zyL,zyM⟩) (.e))))) (some ⟨1,zFd,zFe⟩) (.n (.n (.n (.n (.n (.e) (some ⟨5,zjE,zjF⟩) (.e)) (some ⟨3,zfG,zfH⟩) (.e)) (some ⟨5,zhR,zhS⟩) (.n (.n (.e) (some ⟨5,zk8,zk9⟩) (.e)) (some ⟨3,zms,zmt⟩) (.e))) (some ⟨4,zjo,zjp⟩) (.n (.n (.n (.e) (some ⟨56,ziP,ziQ⟩) (.e)) (some ⟨41,zeT,zeU⟩) (.e)) (some ⟨24,zhZ,zh0⟩) (.n (.n (.e) (some ⟨18,zHo,zHp⟩) (.e)) (some ⟨6,ze1,ze2⟩) (.e)))) (some ⟨6,zGT,zGU⟩) (.n (.n (.n (.n (.e) (some ⟨12,zom,zon⟩) (.e)) (some ⟨11,zeN,zeO⟩) (.e)) (some ⟨25,znY,znZ⟩) (.n (.n (.e) (some ⟨11,zkl,zkm⟩) (.e)) (some ⟨5,zb6,zb7⟩) (.e))) (some ⟨7,zhF,zhG⟩) (.n (.n (.n (.e) (some ⟨13,zCf,zCg⟩) (.e)) (some ⟨14,zdB,zdC⟩) (.e)) (some ⟨29,zfE,zfF⟩) (.n (.n (.e) (some ⟨10,znv,znw⟩) (.e)) (some ⟨5,zHj,zHk⟩) (.e)))))) (some ⟨7,zul,zum⟩) (.n (.n (.n (.n (.n (.n (.e) (some ⟨17,zsm,zsn⟩) (.e)) (some ⟨4,zc2,zc3⟩) (.n (.e) (some ⟨7,zFJ,zFK⟩) (.e))) (some ⟨71,zqn,zqo⟩) (.n (.e) (some ⟨14,zfI,zfJ⟩) (.e))) (some ⟨126,zqh,zqi⟩) (.n (.n (.n (.e) (some ⟨7,zDR,zDS⟩) (.e)) (some ⟨3,zdz,zdA⟩) (.e)) (some ⟨11,zmi,zmj⟩) (.n (.n (.e) (some ⟨13,zlH,zlI⟩) (.e)) (some ⟨4,zin,zio⟩) (.e)))) (some ⟨10,zkI,zkJ⟩) (.n (.n (.n (.n (.e) (some ⟨8,zmY,zmZ⟩) (.e)) (some ⟨2,zDH,zDI⟩) (.e)) (none) (.n (.n (.e) (some ⟨7,zlD,zlE⟩) (.e)) (some ⟨7,zsi,zsj⟩) (.e))) (some ⟨5,znU,znV⟩) (.n (.n (.n (.e) (some ⟨14,zlB,zlC⟩) (.e)) (some ⟨3,zgB,zgC⟩) (.e)) (some ⟨3,zBY,zBZ⟩) (.n (.n (.e) (some ⟨14,zm2,zm3⟩) (.e)) (some ⟨3,ze3,ze4⟩) (.e))))) (some ⟨25,zmc,zmd⟩) (.n (.n (.n (.n (.n (.e) (some ⟨4,zk4,zk5⟩) (.e)) (some ⟨23,zmo,zmp⟩) (.e)) (some ⟨6,zzY,zzZ⟩) (.n (.n (.e) (some ⟨7,ze5,ze6⟩) (.e)) (some ⟨4,zfK,zfL⟩) (.e))) (some ⟨11,zGZ,zG0⟩) (.n (.n (.n (.e) (some ⟨14,zjO,zjP⟩) (.e)) (some ⟨7,zqE,zqF⟩) (.e)) (some ⟨12,zjs,zjt⟩) (.n (.n (.e) (some ⟨2,zry,zrz⟩) (.e)) (some ⟨6,ztw,ztx⟩) (.e)))) (some ⟨54,zGV,zGW⟩) (.n (.n (.n (.n (.e) (some ⟨6,zd5,zd6⟩) (.e)) (some ⟨30,zeP,zeQ⟩) (.e)) (some ⟨1,zqv,zqw⟩) (.n (.n (.e) (some ⟨5,zyU,zyV⟩) (.e)) (some ⟨8,zmw,zmx⟩) (.e))) (some ⟨3,zcB,zcC⟩) (.n (.n (.n (.e) (some ⟨6,zFD,zFE⟩) (.e)) (some ⟨4,zDJ,zDK⟩) (.e)) (none) (.n (.n (.e) (some ⟨12,zlL,zlM⟩) (.e)) (some ⟨9,zgP,zgQ⟩) (.e))))))))
end Go.Proofs.YtpnhjkiligohnaaGreatDoor
namespace Go.Vm.Rn
open Go.Vm
def All2 {α β:Type} (Q:α→β→Prop):List α→List β→Prop
 | [],[]=>True
 | a::l,b::r=>Q a b∧All2 Q l r
 | _,_=>False
namespace All2
variable {α β γ:Type} {Q Q':α→β→Prop}
theorem len:∀ {l:List α} {r:List β},All2 Q l r→l.length=r.length
 | [],[],_=>rfl
 | _::_,_::_,h=>congrArg (· + 1) (len h.2)
 | [],_::_,h=>h.elim
 | _::_,[],h=>h.elim
theorem imp (hq:∀ a b,Q a b→Q' a b):∀ {l:List α} {r:List β},All2 Q l r→All2 Q' l r
 | [],[],_=>trivial
 | _::_,_::_,h=>⟨hq _ _ h.1,imp hq h.2⟩
 | [],_::_,h=>h.elim
 | _::_,[],h=>h.elim
theorem drop:∀ (n:Nat) {l:List α} {r:List β},All2 Q l r→All2 Q (l.drop n) (r.drop n)
 | 0,_,_,h=>h
 | _+1,[],[],_=>trivial
 | n+1,_::_,_::_,h=>drop n h.2
 | _+1,[],_::_,h=>h.elim
 | _+1,_::_,[],h=>h.elim
theorem take:∀ (n:Nat) {l:List α} {r:List β},All2 Q l r→All2 Q (l.take n) (r.take n)
 | 0,_,_,_=>by simp[All2]
 | _+1,[],[],_=>trivial
 | n+1,_::_,_::_,h=>⟨h.1,take n h.2⟩
 | _+1,[],_::_,h=>h.elim
 | _+1,_::_,[],h=>h.elim
theorem append:∀ {l l':List α} {r r':List β},All2 Q l r→All2 Q l' r'→All2 Q (l++l') (r++r')
 | [],_,[],_,_,h=>h
 | _::_,_,_::_,_,h,h'=>⟨h.1,append h.2 h'⟩
 | [],_,_::_,_,h,_=>h.elim
 | _::_,_,[],_,h,_=>h.elim
theorem at_:∀ {l:List α} {r:List β},All2 Q l r→∀ {k:Nat} {a:α},l[k]? = some a→∃ b,r[k]? = some b∧Q a b
 | _::_,_::_,h,0,a,ha=>⟨_,rfl,by simp at ha;subst ha;exact h.1⟩
 | _::_,_::_,h,k+1,a,ha=>by simpa using at_ h.2 (k:=k) (a:=a) (by simpa using ha)
 | [],[],_,_,_,ha=>by simp at ha
 | [],_::_,h,_,_,_=>h.elim
 | _::_,[],h,_,_,_=>h.elim
theorem set:∀ {l:List α} {r:List β},All2 Q l r→∀ {k:Nat} {a:α} {b:β},Q a b→All2 Q (l.set k a) (r.set k b)
 | [],[],_,_,_,_,_=>trivial
 | _::_,_::_,h,0,_,_,hq=>⟨hq,h.2⟩
 | _::_,_::_,h,_+1,_,_,hq=>⟨h.1,set h.2 hq⟩
 | [],_::_,h,_,_,_,_=>h.elim
 | _::_,[],h,_,_,_,_=>h.elim
theorem map {f:β→γ} {Q'':α→γ→Prop} (hf:∀ a b,Q a b→Q'' a (f b)):∀ {l:List α} {r:List β},All2 Q l r→All2 Q'' l (r.map f)
 | [],[],_=>trivial
 | _::_,_::_,h=>⟨hf _ _ h.1,map hf h.2⟩
 | [],_::_,h=>h.elim
 | _::_,[],h=>h.elim
theorem fn (hq:∀ a b b',Q a b→Q a b'→b=b'):∀ {l:List α} {r r':List β},All2 Q l r→All2 Q l r'→r=r'
 | [],[],[],_,_=>rfl
 | _::_,_::_,_::_,h,h'=>by rw[hq _ _ _ h.1 h'.1,fn hq h.2 h'.2]
 | [],_::_,_,h,_=>h.elim
 | [],[],_::_,_,h=>h.elim
 | _::_,[],_,h,_=>h.elim
 | _::_,_::_,[],_,h=>h.elim
end All2
theorem zA {b:Bool} {t:R} {y:Out} (h:cB b t fail=some y):b=true∧t=some y:=by cases b<;>simp_all [cB,fail]
theorem zjg {α:Type} {x:Option α} {K:α→R} {y:Out} (h:oV x K=some y):∃ v,x=some v∧K v=some y:=by cases x<;>simp_all [oV,fail]
theorem fN_eq (k:Nat→R) (n:Nat):fN k n=k n:=by cases n<;>rfl
theorem zTW (k:Int→R) (n:Int):fI k n=k n:=by cases n<;>simp only[fI,fN_eq]
theorem zs2 {b:Bool} {K:V→R}:kB b K=K (.c (.t b)):=by cases b<;>rfl
theorem zb1 {α:Type} (l:List α) (K:Nat→R):zew l K=K l.length:=by
 unfold zew;rw[fN_eq];congr 1
 induction l with
 | nil=>rfl
 | cons a r ih=>simp only[List.length_cons,←ih]
theorem znc {α:Type}:∀ (l r:List α) (K:List α→R),appK l r K=K (l++r)
 | [],_,_=>rfl
 | a::l,r,K=>znc l r fun r'=>K (a::r')
theorem zxi {α:Type} (l:List α):∀ (n:Nat) (K:List α→R),zAo l n K=K (List.replicate n l).flatten
 | 0,_=>rfl
 | n+1,K=>by
  have h:zAo l (n+1) K=zAo l n fun r=>appK l r K:=rfl
  rw[h,zxi l n,znc];rfl
theorem zD1 {α:Type} {y:Out}:∀ {n:Nat} {l:List α} {K:List α→R},zKl n l K=some y→n≤l.length∧K (l.drop n)=some y
 | 0,_,_,h=>⟨Nat.zero_le _,h⟩
 | _+1,[],_,h=>by cases h
 | n+1,_::l,K,h=>by
  obtain⟨h1,h2⟩:=zD1 (n:=n) (l:=l) (K:=K) h;exact⟨Nat.succ_le_succ h1,h2⟩
theorem ztB {α:Type} {y:Out}:∀ {n:Nat} {l:List α} {K:List α→R},zqX n l K=some y→n≤l.length∧K (l.take n)=some y
 | 0,_,_,h=>⟨Nat.zero_le _,h⟩
 | _+1,[],_,h=>by cases h
 | n+1,a::l,K,h=>by
  obtain⟨h1,h2⟩:=ztB (n:=n) (l:=l) (K:=fun r=>K (a::r)) h;exact⟨Nat.succ_le_succ h1,h2⟩
theorem zJl {α:Type} {y:Out}:∀ {vs l:List α} {K:List α→R},zQi vs l K=some y→vs.length≤l.length∧K (vs++l.drop vs.length)=some y
 | [],_,_,h=>⟨Nat.zero_le _,h⟩
 | _::_,[],_,h=>by cases h
 | v::vs,a::l,K,h=>by
  obtain⟨h1,h2⟩:=zJl (vs:=vs) (l:=l) (K:=fun r=>K (v::r)) h;exact⟨Nat.succ_le_succ h1,h2⟩
theorem zwO {α:Type} {y:Out}:∀ {o:Nat} {l vs:List α} {K:List α→R},zDX o l vs K=some y→o+vs.length≤l.length∧K (splice l o vs)=some y
 | 0,l,vs,K,h=>by
  obtain⟨h1,h2⟩:=zJl (vs:=vs) (l:=l) (K:=K) h;exact⟨by omega,by simpa[splice] using h2⟩
 | _+1,[],_,_,h=>by cases h
 | o+1,a::l,vs,K,h=>by
  obtain⟨h1,h2⟩:=zwO (o:=o) (l:=l) (vs:=vs) (K:=fun r=>K (a::r)) h;refine⟨by simp only[List.length_cons];omega,?_⟩;have e:splice (a::l) (o+1) vs=a::splice l o vs:=by simp[splice,Nat.add_right_comm o 1]
  rw[e];exact h2
theorem ztC {α:Type} {y:Out}:∀ {l:List α} {k:Nat} {K:α→R},zwK l k K=some y→∃ a,l[k]? = some a∧K a=some y
 | [],_,_,h=>by cases h
 | a::_,0,_,h=>⟨a,rfl,h⟩
 | _::l,k+1,K,h=>by simpa using ztC (l:=l) (k:=k) (K:=K) h
theorem zHC {α:Type} {y:Out}:∀ {l:List α} {k:Nat} {x:α} {K:List α→R},setK l k x K=some y→k<l.length∧K (l.set k x)=some y
 | [],_,_,_,h=>by cases h
 | _::l,0,_,_,h=>⟨by simp,h⟩
 | a::l,k+1,x,K,h=>by
  obtain⟨h1,h2⟩:=zHC (l:=l) (k:=k) (x:=x) (K:=fun r=>K (a::r)) h;exact⟨by simp only[List.length_cons];omega,h2⟩
theorem zMZ {α:Type} {y:Out}:∀ {l:List α} {k:Nat} {K:List α→R},zOi l k K=some y→k<l.length∧K (l.eraseIdx k)=some y
 | [],_,_,h=>by cases h
 | _::l,0,_,h=>⟨by simp,h⟩
 | a::l,k+1,K,h=>by
  obtain⟨h1,h2⟩:=zMZ (l:=l) (k:=k) (K:=fun r=>K (a::r)) h;exact⟨by simp only[List.length_cons];omega,h2⟩
theorem ztD {cs:List C} {o n:Nat} {K:List C→R} {y:Out} (h:takeC cs o n K=some y):o+n≤cs.length∧K ((cs.drop o).take n)=some y:=by
 obtain⟨h1,h2⟩:=zD1 h;obtain⟨h3,h4⟩:=ztB h2;rw[List.length_drop] at h3;exact⟨by omega,h4⟩
namespace T
variable {α:Type}
theorem get_1 (l r:T α) (v:Option α) (m:Nat):(T.n l v r).get (m+1)=if Nat.beq (m % 2) 1 then r.get (m / 2) else l.get (m / 2):=by
 show (Bool.rec (l.get (m / 2)) (r.get (m / 2)) (Nat.beq (m % 2) 1):Option α)=_;cases Nat.beq (m % 2) 1<;>rfl
noncomputable def put (t:T α) (k:Nat) (x:Option α):T α:=t.set k x id
theorem set_put {ρ:Type}:∀ (t:T α) (k:Nat) (x:Option α) (K:T α→ρ),t.set k x K=K (t.put k x)
 | .e,_,_,_=>rfl
 | .n _ _ _,0,_,_=>rfl
 | .n l v r,m+1,x,K=>by
  unfold put;show (Bool.rec (l.set (m / 2) x fun l'=>K (.n l' v r)) (r.set (m / 2) x fun r'=>K (.n l v r')) (Nat.beq (m % 2) 1):ρ)=K (Bool.rec (motive:=fun _=>T α) (l.set (m / 2) x fun l'=>id (.n l' v r)) (r.set (m / 2) x fun r'=>id (.n l v r')) (Nat.beq (m % 2) 1))
  cases Nat.beq (m % 2) 1
  ·show l.set (m / 2) x _=K (l.set (m / 2) x _);rw[set_put l,set_put l];rfl
  ·show r.set (m / 2) x _=K (r.set (m / 2) x _);rw[set_put r,set_put r];rfl
theorem zQq (l r:T α) (v:Option α) (m:Nat) (x:Option α):(T.n l v r).put (m+1) x=if Nat.beq (m % 2) 1 then .n l v (r.put (m / 2) x) else .n (l.put (m / 2) x) v r:=by
 unfold put;show (Bool.rec (l.set (m / 2) x fun l'=>id (.n l' v r)) (r.set (m / 2) x fun r'=>id (.n l v r')) (Nat.beq (m % 2) 1):T α)=_
 cases Nat.beq (m % 2) 1
 ·show l.set (m / 2) x _=_;rw[set_put l];rfl
 ·show r.set (m / 2) x _=_;rw[set_put r];rfl
theorem zD2:∀ {f k j:Nat} {x:Option α} {y:α},(T.one f k x).get j=some y→j=k∧x=some y
 | 0,_,_,_,_,h=>by cases h
 | _+1,0,0,x,y,h=>⟨rfl,h⟩
 | _+1,0,j+1,x,y,h=>by
  have e:∀ f,(T.one (f+1) 0 x:T α) = .n .e x .e:=fun _=>rfl
  rw[e,get_1] at h;split at h<;>cases h
 | f+1,m+1,j,x,y,h=>by
  have e:(T.one (f+1) (m+1) x:T α)=Bool.rec (.n (T.one f (m / 2) x) none .e) (.n .e none (T.one f (m / 2) x)) (Nat.beq (m % 2) 1):=rfl;rw[e] at h;cases hm:Nat.beq (m % 2) 1 with
  | true=>
   rw[hm] at h;have hm':m % 2=1:=Nat.eq_of_beq_eq_true hm
   cases j with
   | zero=>cases h
   | succ j=>
    replace h:(T.n .e none (T.one f (m / 2) x):T α).get (j+1)=some y:=h;rw[get_1] at h;split at h
    ·rename_i hj;have hj':j % 2=1:=Nat.eq_of_beq_eq_true hj
     obtain⟨h1,h2⟩:=zD2 h;exact⟨by omega,h2⟩
    ·cases h
  | false=>
   rw[hm] at h;have hm':m % 2≠1:=fun e=>by rw[e] at hm;cases hm
   cases j with
   | zero=>cases h
   | succ j=>
    replace h:(T.n (T.one f (m / 2) x) none .e:T α).get (j+1)=some y:=h;rw[get_1] at h;split at h
    ·cases h
    ·rename_i hj;have hj':j % 2≠1:=fun e=>by rw[e] at hj;exact hj rfl
     obtain⟨h1,h2⟩:=zD2 h;exact⟨by omega,h2⟩
theorem get_put:∀ {t:T α} {k j:Nat} {x:Option α} {y:α},(t.put k x).get j=some y→(j=k∧x=some y)∨(j≠k∧t.get j=some y)
 | .e,k,j,x,y,h => .inl (zD2 (f:=40) (show (T.one 40 k x).get j=some y from h))
 | .n _ _ _,0,0,x,y,h => .inl ⟨rfl,h⟩
 | .n l v r,0,j+1,x,y,h=>by
  have e:(T.n l v r).put 0 x = .n l x r:=rfl;rw[e,get_1] at h;exact .inr ⟨by omega,by rw[get_1];exact h⟩
 | .n l v r,m+1,0,x,y,h=>by
  rw[zQq] at h;refine .inr ⟨by omega,?_⟩;split at h<;>exact h
 | .n l v r,m+1,j+1,x,y,h=>by
  rw[zQq] at h;rw[get_1];cases hm:Nat.beq (m % 2) 1<;>cases hj:Nat.beq (j % 2) 1<;>simp only[hm,Bool.false_eq_true,if_false,if_true] at h<;>rw[get_1,hj] at h<;>simp only[Bool.false_eq_true,if_false,if_true] at h ⊢
  ·have hm':m % 2≠1:=fun e=>by rw[e] at hm;cases hm
   have hj':j % 2≠1:=fun e=>by rw[e] at hj;cases hj
   rcases get_put h with ⟨h1,h2⟩|⟨h1,h2⟩
   ·exact .inl ⟨by omega,h2⟩
   ·exact .inr ⟨by omega,h2⟩
  ·have hm':m % 2≠1:=fun e=>by rw[e] at hm;cases hm
   have hj':j % 2=1:=Nat.eq_of_beq_eq_true hj;exact .inr ⟨by omega,h⟩
  ·have hj':j % 2≠1:=fun e=>by rw[e] at hj;cases hj
   have hm':m % 2=1:=Nat.eq_of_beq_eq_true hm;exact .inr ⟨by omega,h⟩
  ·have hm':m % 2=1:=Nat.eq_of_beq_eq_true hm;have hj':j % 2=1:=Nat.eq_of_beq_eq_true hj
   rcases get_put h with ⟨h1,h2⟩|⟨h1,h2⟩
   ·exact .inl ⟨by omega,h2⟩
   ·exact .inr ⟨by omega,h2⟩
end T
structure E where
 addr:Nat
 cap:Nat
 nil:Bool
 sp:List Value
def zad (l:List Nat):ByteArray:=⟨(l.map UInt8.ofNat).toArray⟩
def C.val (σ:List E):C→Option Value
 | .n q x=>some (.int q x)
 | .t x=>some (.bool x)
 | .s x=>some (.string (zad x))
 | .p a o=>(σ[a]?).map fun e => .pointer (some ⟨e.addr,o,none⟩)
 | .np=>some (.pointer none)
 | .l a o x y=>(σ[a]?).map fun e => .slice (some ⟨e.addr,o,none⟩) x y
 | .g a o d x=>(σ[a]?).bind fun e=>if e.nil=true then (if x=0∧o=0∧d=0 then some (.slice none 0 0) else none) else (if d+x≤e.cap then some (.slice (some ⟨e.addr,o,none⟩) x (e.cap - d)) else none)
 | .nl=>some (.slice none 0 0)
 | .m a=>(σ[a]?).map fun e => .map (some e.addr)
 | .nm=>some (.map none)
 | .b _ _=>none
 | .f x=>some (.func (.func x) #[] #[])
 | .fm x a o=>(σ[a]?).map fun e => .func (.func x) #[.pointer (some ⟨e.addr,o,none⟩)] #[]
 | .h a o d k z w=>(σ[a]?).bind fun e=>if e.nil=false∧d+k≤e.cap then some (.slice (zap (some ⟨e.addr,o,none⟩) k (e.cap - d) z) 0 (if w then 0 else e.cap - d - k)) else none
 | .ni=>some .nilIface
 | .nf=>some .nilFunc
def CR (σ:List E) (c:C) (v:Value):Prop:=c.val σ=some v
def SCR (σ:List E) (nb:Nat) (c:C) (x:SC):Prop:=match c with | .b j o=>j<nb∧x = .bx j o|c=>∃ v,c.val σ=some v∧x = .v v
def WR (σ:List E) (w:W) (v:Value):Prop:=match w with | .c x=>CR σ x v | .ag l=>∃ vs,All2 (CR σ) l vs∧v = .agg vs.toArray | .fn g l=>∃ vs,All2 (CR σ) l vs∧v = .func (.func g) #[] vs.toArray
def VR (σ:List E) (nb:Nat) (v:V) (sv:SV):Prop:=
 match v with
 | .c x=>(∃ sc,SCR σ nb x sc∧sv = .c sc)∨(∃ b,x = .t b∧sv = .sb b)
 | .ag l=>∃ cs,All2 (SCR σ nb) l cs∧sv = .ag cs
 | .fn g l=>(∃ cs,All2 (SCR σ nb) l cs∧sv = .fn g cs)∨(∃ vs,All2 (CR σ) l vs∧sv = .c (.v (.func (.func g) #[] vs.toArray)))
 | .tp l=>∃ vs,All2 (WR σ) l vs∧sv = .c (.v (.tuple vs.toArray))
 | .sl j n=>j<nb∧sv = .sl j n
 | .dead=>sv = .dead
def OVR (σ:List E) (v:V) (x:Value):Prop:=match v with | .c c=>CR σ c x | .ag l=>WR σ (.ag l) x | .fn g l=>WR σ (.fn g l) x | .tp l=>∃ vs,All2 (WR σ) l vs∧x = .tuple vs.toArray|_=>False
def EnR (σ:List E) (e:En) (m:MapEntry):Prop:=WR σ e.key m.key∧WR σ e.val m.val∧m.born=e.born
def mR (σ:List E) (m:Option Nat) (x:Option Nat):Prop:=match m with|none=>x=none|some a=>∃ e,σ[a]? = some e∧x=some e.addr
def OR (σ:List E) (e:E) (o:O) (M:Mem):Prop:=
 match o with
 | .row T l=>e.nil=false∧∃ vs,All2 (CR σ) l vs∧M e.addr=some (.cells vs.toArray T (0,0))
 | .ro T l=>e.nil=false∧∃ vs,All2 (CR σ) l vs∧M e.addr=some (.cells vs.toArray T (vs.length,vs.length+1))
 | .gr T z l=>∃ vs,All2 (CR σ) l vs∧((e.nil=true∧l=[]∧e.cap=0)∨(e.nil=false∧M e.addr=some (.cells (vs++e.sp).toArray T (0,0))∧(vs++e.sp).length=e.cap*z))
 | .mp es c=>e.nil=false∧∃ ms,All2 (EnR σ) es ms∧M e.addr=some (.map ms.toArray c)
 | .it m a s t=>e.nil=false∧∃ x,mR σ m x∧M e.addr=some (.mapIter x a s.toArray t)
 | .si l p=>e.nil=false∧M e.addr=some (.stringIter (zad l) p)
def BR (σ:List E) (nb:Nat) (b:B) (x:BE):Prop:=match b with | .live T l=>∃ cs,All2 (SCR σ nb) l cs∧x = .live T cs | .gone a=>∃ e,σ[a]? = some e∧x = .gone e.addr | .dark=>∃ a,x = .gone a
def FR (σ:List E) (nb:Nat) (s:S) (fr:List (Nat×SV)):Prop:=∀ d v,s.fget d=some v→v ≠ .dead∧∃ sv,lk fr d=some sv∧VR σ nb v sv
structure HR (σ:List E) (H:T O) (M:Mem):Prop where
 has:∀ a o,H.get a=some o→∃ e,σ[a]? = some e∧OR σ e o M
 inj:∀ a b oa ob ea eb,H.get a=some oa→H.get b=some ob→σ[a]? = some ea→σ[b]? = some eb→ea.nil=false→eb.nil=false→ea.addr=eb.addr→a=b
structure SR (σ:List E) (s:S) (t:St):Prop where
 n:s.n=σ.length
 fr:FR σ t.bx.length s t.fr
 bx:All2 (BR σ t.bx.length) s.bx t.bx
 h:HR σ s.H t.M
def S.rd (s:S) (a:Nat):Prop:=match s.g with|none=>True|some l=>mem a l=true
structure QR (σ:List E) (nb:Nat) (s:S) (t:St):Prop where
 fr:FR σ nb s t.fr
 bx:All2 (BR σ nb) s.bx t.bx
 h:∀ a o,s.rd a→s.H.get a=some o→∃ e,σ[a]? = some e∧OR σ e o t.M
theorem SR.q {σ:List E} {s:S} {t:St} (h:SR σ s t):QR σ t.bx.length s t:=⟨h.fr,h.bx,fun a o _ ha=>h.h.has a o ha⟩
theorem C.val_mono {σ:List E} (τ:List E) {c:C} {v:Value} (h:c.val σ=some v):c.val (σ++τ)=some v:=by
 have key:∀ {a:Nat} {e:E},σ[a]? = some e→(σ++τ)[a]? = some e:=fun {a e} he=>by
  rw[List.getElem?_append_left (List.getElem?_eq_some_iff.1 he).1];exact he
 cases c with
 | p a o=>simp only[C.val,Option.map_eq_some_iff] at h ⊢; obtain⟨e,h1,h2⟩:=h;exact⟨e,key h1,h2⟩
 | l a o n c=>simp only[C.val,Option.map_eq_some_iff] at h ⊢; obtain⟨e,h1,h2⟩:=h;exact⟨e,key h1,h2⟩
 | m a=>simp only[C.val,Option.map_eq_some_iff] at h ⊢; obtain⟨e,h1,h2⟩:=h;exact⟨e,key h1,h2⟩
 | g a o d n=>simp only[C.val,Option.bind_eq_some_iff] at h ⊢; obtain⟨e,h1,h2⟩:=h;exact⟨e,key h1,h2⟩
 | fm g a o=>simp only[C.val,Option.map_eq_some_iff] at h ⊢; obtain⟨e,h1,h2⟩:=h;exact⟨e,key h1,h2⟩
 | h a o d k z w=>simp only[C.val,Option.bind_eq_some_iff] at h ⊢; obtain⟨e,h1,h2⟩:=h;exact⟨e,key h1,h2⟩
 | _=>exact h
theorem CR.mono {σ:List E} (τ:List E) {c:C} {v:Value} (h:CR σ c v):CR (σ++τ) c v:=C.val_mono τ h
theorem SCR.mono {σ:List E} {nb nb':Nat} (τ:List E) (hn:nb≤nb') {c:C} {x:SC} (h:SCR σ nb c x):SCR (σ++τ) nb' c x:=by
 cases c with
 | b j o=>exact⟨Nat.lt_of_lt_of_le h.1 hn,h.2⟩
 | _=>obtain⟨v,h1,h2⟩:=h;exact⟨v,C.val_mono τ h1,h2⟩
theorem WR.mono {σ:List E} (τ:List E) {w:W} {v:Value} (h:WR σ w v):WR (σ++τ) w v:=by
 cases w with
 | c x=>exact CR.mono τ h
 | ag l=>obtain⟨vs,h1,h2⟩:=h;exact⟨vs,h1.imp fun _ _=>CR.mono τ,h2⟩
 | fn g l=>obtain⟨vs,h1,h2⟩:=h;exact⟨vs,h1.imp fun _ _=>CR.mono τ,h2⟩
theorem VR.mono {σ:List E} {nb nb':Nat} (τ:List E) (hn:nb≤nb') {v:V} {sv:SV} (h:VR σ nb v sv):VR (σ++τ) nb' v sv:=by
 cases v with
 | c x=>exact h.imp (fun ⟨sc,h1,h2⟩=>⟨sc,h1.mono τ hn,h2⟩) id
 | ag l=>obtain⟨cs,h1,h2⟩:=h;exact⟨cs,h1.imp fun _ _=>SCR.mono τ hn,h2⟩
 | fn g l=>exact h.imp (fun ⟨cs,h1,h2⟩=>⟨cs,h1.imp fun _ _=>SCR.mono τ hn,h2⟩) (fun ⟨vs,h1,h2⟩=>⟨vs,h1.imp fun _ _=>CR.mono τ,h2⟩)
 | tp l=>obtain⟨vs,h1,h2⟩:=h;exact⟨vs,h1.imp fun _ _=>WR.mono τ,h2⟩
 | sl j n=>exact⟨Nat.lt_of_lt_of_le h.1 hn,h.2⟩
 | dead=>exact h
theorem zoT {σ:List E} (τ:List E) {a:Nat} {e:E} (he:σ[a]? = some e):(σ++τ)[a]? = some e:=by
 rw[List.getElem?_append_left (List.getElem?_eq_some_iff.1 he).1];exact he
theorem EnR.mono {σ:List E} (τ:List E) {e:En} {m:MapEntry} (h:EnR σ e m):EnR (σ++τ) e m:=⟨h.1.mono τ,h.2.1.mono τ,h.2.2⟩
theorem OR.mono {σ:List E} (τ:List E) {e:E} {o:O} {M:Mem} (h:OR σ e o M):OR (σ++τ) e o M:=by
 cases o with
 | row T l=>obtain⟨h0,vs,h1,h2⟩:=h;exact⟨h0,vs,h1.imp fun _ _=>CR.mono τ,h2⟩
 | ro T l=>obtain⟨h0,vs,h1,h2⟩:=h;exact⟨h0,vs,h1.imp fun _ _=>CR.mono τ,h2⟩
 | gr T z l=>obtain⟨vs,h1,h2⟩:=h;exact⟨vs,h1.imp fun _ _=>CR.mono τ,h2⟩
 | mp es c=>obtain⟨h0,ms,h1,h2⟩:=h;exact⟨h0,ms,h1.imp fun _ _=>EnR.mono τ,h2⟩
 | it m a s t=>
  obtain⟨h0,x,h1,h2⟩:=h;refine⟨h0,x,?_,h2⟩;cases m with
  | none=>exact h1
  | some a=>obtain⟨e,h3,h4⟩:=h1;exact⟨e,zoT τ h3,h4⟩
 | si l p=>exact h
theorem BR.mono {σ:List E} {nb nb':Nat} (τ:List E) (hn:nb≤nb') {b:B} {x:BE} (h:BR σ nb b x):BR (σ++τ) nb' b x:=by
 cases b with
 | live T l=>obtain⟨cs,h1,h2⟩:=h;exact⟨cs,h1.imp fun _ _=>SCR.mono τ hn,h2⟩
 | gone a=>obtain⟨e,h1,h2⟩:=h;exact⟨e,zoT τ h1,h2⟩
 | dark=>exact h
theorem FR.mono {σ:List E} {nb nb':Nat} (τ:List E) (hn:nb≤nb') {s:S} {fr:List (Nat×SV)} (h:FR σ nb s fr):FR (σ++τ) nb' s fr:=fun d v hd=>by
 obtain⟨h0,sv,h1,h2⟩:=h d v hd;exact⟨h0,sv,h1,h2.mono τ hn⟩
theorem CR.fn {σ:List E} {c:C} {v v':Value} (h:CR σ c v) (h':CR σ c v'):v=v':=by unfold CR at h h';rw[h] at h';exact Option.some.inj h'
theorem CR.sc {σ:List E} {nb:Nat} {c:C} {v:Value} (h:CR σ c v):SCR σ nb c (.v v):=by
 cases c with
 | b j o=>cases h
 | _=>exact⟨v,h,rfl⟩
theorem CR.one {σ:List E} {c:C} {v:Value} (h:CR σ c v):v.oneCell'=true:=by
 unfold CR at h
 cases c<;>simp only[C.val,Option.map_eq_some_iff,Option.bind_eq_some_iff,Option.some.injEq,reduceCtorEq] at h<;>first
  | (subst h;rfl)
  | (obtain⟨e, -, rfl⟩:=h;rfl)
  | (obtain⟨e, -, h⟩:=h;split at h<;>split at h<;>first|(cases h;rfl)|cases h)
  | (obtain⟨e, -, h⟩:=h;split at h<;>first|(cases h;rfl)|cases h)
theorem zwP {σ:List E} {nb:Nat} {c:C} {v:Value} (h:CR σ c v):VR σ nb (.c c) (zf0 v):=by
 have h1:=h.one;cases v with
 | bool b=>
  right;refine⟨b,?_,rfl⟩;unfold CR at h
  cases c<;>simp only[C.val,Option.map_eq_some_iff,Option.bind_eq_some_iff,Option.some.injEq,reduceCtorEq,and_false,exists_false] at h<;>first
   | (cases h;rfl)
   | (obtain⟨e, -, h⟩:=h;split at h<;>split at h<;>cases h)
   | (obtain⟨e, -, h⟩:=h;split at h<;>cases h)
 | agg cs=>cases h1
 | tuple cs=>cases h1
 | _=>exact .inl ⟨_,h.sc,rfl⟩
theorem zxj {σ:List E} {nb:Nat} {w:W} {v:Value} (h:WR σ w v):VR σ nb (V.ofW w) (zf0 v):=by
 cases w with
 | c x=>exact zwP h
 | ag l=>
  obtain⟨vs,h1,rfl⟩:=h;exact⟨vs.map .v,h1.map fun _ _ h=>CR.sc h,by simp[zf0]⟩
 | fn g l=>
  obtain⟨vs,h1,rfl⟩:=h;exact .inr ⟨vs,h1,rfl⟩
theorem zTY {σ:List E} {nb:Nat} {v:V} {x:Value} (h:OVR σ v x):VR σ nb v (zf0 x):=by
 cases v with
 | c c=>exact zwP h
 | ag l=>exact zxj (w := .ag l) h
 | fn g l=>exact zxj (w := .fn g l) h
 | tp l=>obtain⟨vs,h1,rfl⟩:=h;exact⟨vs,h1,rfl⟩
 | sl j n=>exact h.elim
 | dead=>exact h.elim
theorem zRp (s:ByteArray):zad (s.toList.map UInt8.toNat)=s:=by
 unfold zad
 have:(s.toList.map UInt8.toNat).map UInt8.ofNat=s.toList:=by
  rw[List.map_map]
  conv=>rhs;rw[←List.map_id s.toList]
  apply List.map_congr_left;intro a _;simp
 rw[this,ByteArray.toList_eq]
theorem C.ofV_s {v:Value} {c:C} (h:C.ofV v=some c) (σ:List E):CR σ c v:=by
 unfold C.ofV at h
 split at h<;>first
  | (cases h;rfl)
  | (cases h;simp only[CR,C.val,zRp])
  | cases h
theorem zrB {y:Out} (σ:List E):∀ {vs:List Value} {K:List C→R},zwL vs K=some y→∃ l,All2 (CR σ) l vs∧K l=some y
 | [],K,h=>⟨[],trivial,h⟩
 | v::vs,K,h=>by
  obtain⟨c,h1,h2⟩:=zjg (K:=fun c=>zwL vs fun r=>K (c::r)) h;obtain⟨l,h3,h4⟩:=zrB σ (vs:=vs) (K:=fun r=>K (c::r)) h2;exact⟨c::l,⟨C.ofV_s h1 σ,h3⟩,h4⟩
theorem ofV_s {v:Value} {K:V→R} {y:Out} (h:V.ofV v K=some y) (σ:List E) (nb:Nat):∃ x,(∃ w,(x = .c w∧CR σ w v∨∃ l cs,x = .ag l∧v = .agg cs∧All2 (CR σ) l cs.toList))∧VR σ nb x (zF3 v)∧K x=some y:=by
 unfold V.ofV at h;split at h
 ·rename_i cs;obtain⟨l,h1,h2⟩:=zrB σ h;exact⟨.ag l,⟨.ni,.inr ⟨l,cs,rfl,rfl,h1⟩⟩,⟨cs.toList.map .v,h1.map fun _ _ h=>CR.sc h,rfl⟩,h2⟩
 ·rename_i hv;obtain⟨c,h1,h2⟩:=zjg h;have h3:=C.ofV_s h1 σ
  refine⟨.c c,⟨c,.inl ⟨rfl,h3⟩⟩,.inl ⟨.v v,h3.sc,?_⟩,h2⟩;cases v<;>first|rfl|exact absurd rfl (hv _)
section
variable {σ:List E} {s:S} {t:St} {y:Out} {nb:Nat}
theorem zZ {x:Operand} {K:V→R} (h:ev s x K=some y) (hf:FR σ nb s t.fr) {k:SV→Prop} (hk:∀ v sv,v ≠ .dead→VR σ nb v sv→K v=some y→k sv):Vm.ev t x k:=by
 cases x with
 | tmp d=>
  obtain⟨v,h1,h2⟩:=zjg (K:=K) h;obtain⟨h0,sv,h3,h4⟩:=hf d v h1;show evO (lk t.fr d) k
  rw[h3];have h5:=hk v sv h0 h4 h2
  cases sv with
  | dead=>
   exfalso;cases v with
   | c x=>rcases h4 with ⟨_,_,h⟩|⟨_,_,h⟩<;>cases h
   | ag l=>obtain⟨_,_,h⟩:=h4;cases h
   | fn g l=>rcases h4 with ⟨_,_,h⟩|⟨_,_,h⟩<;>cases h
   | tp l=>obtain⟨_,_,h⟩:=h4;cases h
   | sl j n=>cases h4.2
   | dead=>exact h0 rfl
  | _=>exact h5
 | const v=>
  obtain⟨x,⟨w,hx⟩,h1,h2⟩:=ofV_s (K:=K) h σ nb;refine hk x _ ?_ h1 h2;rintro rfl;rcases hx with ⟨h,_⟩|⟨_,_,h,_⟩<;>cases h
 | func f=>exact hk (.c (.f f)) _ (by simp) (.inl ⟨.v (.func (.func f) #[] #[]),CR.sc (c := .f f) rfl,rfl⟩) h
 | global g=>cases h
end
end Go.Vm.Rn
