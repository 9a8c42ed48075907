/- Part of this proof;laid by program. -/
import Derived.Test.YtpnhjkiligohnaaGreatDoorJ11
import Derived.Test.YtpnhjkiligohnaaGreatDoorJ12
import Derived.Test.YtpnhjkiligohnaaGreatDoorJ13
import Derived.Test.YtpnhjkiligohnaaGreatDoorJ14
set_option linter.unusedVariables false
set_option linter.unusedSimpArgs false
namespace Go.Proofs.YtpnhjkiligohnaaGreatDoor
open Go.Vm Go.Vm.Rn
set_option maxRecDepth 20000
def tab:T FC := .n (.n (.n (.n (.n (.n (.n (.n (.n (.e) (some ⟨8,zk1,zk2⟩) (.e)) (none) (.n (.e) (some ⟨12,znw,znx⟩) (.e))) (some ⟨10,zGR,zGS⟩) (.n (.n (.e) (some ⟨9,zCn,zCo⟩) (.e)) (some ⟨105,zJV,zJW⟩) (.e))) (some ⟨1,zFf,zFg⟩) (.n (.n (.n (.e) (some ⟨9,zde,zdf⟩) (.e)) (some ⟨12,zdY,zdZ⟩) (.e)) (some ⟨91,zgp,zgq⟩) (.n (.n (.e) (some ⟨11,zjV,zjW⟩) (.e)) (some ⟨19,zbR,zbS⟩) (.e)))) (some ⟨3,zz0,zz1⟩) (.n (.n (.n (.n (.e) (some ⟨5,zqL,zqM⟩) (.e)) (some ⟨4,zmo,zmp⟩) (.e)) (some ⟨6,zyn,zyo⟩) (.n (.n (.e) (some ⟨7,zdJ,zdK⟩) (.e)) (some ⟨7,zfO,zfP⟩) (.e))) (some ⟨13,zGL,zGM⟩) (.n (.n (.n (.e) (some ⟨10,zax,zay⟩) (.e)) (some ⟨8,znZ,zn0⟩) (.e)) (some ⟨3,zkR,zkS⟩) (.n (.n (.e) (some ⟨10,zaI,zaJ⟩) (.e)) (some ⟨9,zsP,zsQ⟩) (.e))))) (some ⟨18,zjo,zjp⟩) (.n (.n (.n (.n (.n (.e) (some ⟨11,zjE,zjF⟩) (.e)) (some ⟨4,znX,znY⟩) (.n (.e) (some ⟨9,zn8,zn9⟩) (.e))) (some ⟨13,zhO,zhP⟩) (.n (.n (.e) (some ⟨6,zsl,zsm⟩) (.e)) (some ⟨3,zc8,zc9⟩) (.e))) (some ⟨6,zhC,zhD⟩) (.n (.n (.n (.e) (some ⟨10,zan,zao⟩) (.e)) (some ⟨26,zsb,zsc⟩) (.e)) (some ⟨6,zeI,zeJ⟩) (.n (.n (.e) (some ⟨12,zl1,zl2⟩) (.e)) (some ⟨5,zb9,zca⟩) (.e)))) (some ⟨65,zmc,zmd⟩) (.n (.n (.n (.n (.e) (some ⟨11,zit,ziu⟩) (.e)) (some ⟨13,zie,zif⟩) (.e)) (some ⟨3,zo8,zo9⟩) (.n (.n (.e) (some ⟨11,zpW,zpX⟩) (.e)) (some ⟨9,zpa,zpb⟩) (.e))) (some ⟨12,zhE,zhF⟩) (.n (.n (.n (.e) (some ⟨3,zCj,zCk⟩) (.e)) (none) (.e)) (some ⟨15,zyB,zyC⟩) (.n (.n (.e) (some ⟨12,zd6,zd7⟩) (.e)) (some ⟨12,zqJ,zqK⟩) (.e)))))) (some ⟨6,zth,zti⟩) (.n (.n (.n (.n (.n (.n (.e) (some ⟨2,zbg,zbh⟩) (.e)) (some ⟨3,zcG,zcH⟩) (.n (.e) (some ⟨12,zny,znz⟩) (.e))) (some ⟨10,zIp,zIq⟩) (.n (.n (.e) (some ⟨6,zk7,zk8⟩) (.e)) (some ⟨18,zeY,zeZ⟩) (.e))) (some ⟨10,zFh,zFi⟩) (.n (.n (.n (.e) (some ⟨9,zfW,zfX⟩) (.e)) (some ⟨6,zto,ztp⟩) (.e)) (some ⟨6,zhY,zhZ⟩) (.n (.n (.e) (some ⟨5,zAt,zAu⟩) (.e)) (some ⟨5,zn1,zn2⟩) (.e)))) (some ⟨5,zx1,zx2⟩) (.n (.n (.n (.n (.e) (some ⟨11,zoP,zoQ⟩) (.e)) (some ⟨8,zjy,zjz⟩) (.e)) (some ⟨6,zu2,zu3⟩) (.n (.n (.e) (some ⟨10,zoR,zoS⟩) (.e)) (some ⟨52,zgL,zgM⟩) (.e))) (some ⟨2,zBX,zBY⟩) (.n (.n (.n (.e) (some ⟨10,zjS,zjT⟩) (.e)) (some ⟨5,zwq,zwr⟩) (.e)) (some ⟨9,zAb,zAc⟩) (.n (.n (.e) (some ⟨10,zlf,zlg⟩) (.e)) (some ⟨3,zpv,zpw⟩) (.e))))) (some ⟨133,zBT,zBU⟩) (.n (.n (.n (.n (.n (.e) (some ⟨1,zsS,zsT⟩) (.e)) (some ⟨14,zic,zid⟩) (.e)) (some ⟨66,zeC,zeD⟩) (.n (.n (.e) (some ⟨5,ziD,ziE⟩) (.e)) (some ⟨10,zqH,zqI⟩) (.e))) (some ⟨5,zkL,zkM⟩) (.n (.n (.n (.e) (some ⟨10,ziz,ziA⟩) (.e)) (some ⟨46,zeW,zeX⟩) (.e)) (some ⟨12,zeK,zeL⟩) (.n (.n (.e) (some ⟨3,zFF,zFG⟩) (.e)) (some ⟨1,zbT,zbU⟩) (.e)))) (some ⟨13,zDv,zDw⟩) (.n (.n (.n (.n (.e) (some ⟨3,zyT,zyU⟩) (.e)) (some ⟨10,zkX,zkY⟩) (.e)) (some ⟨17,zkN,zkO⟩) (.n (.n (.e) (some ⟨50,zlE,zlF⟩) (.e)) (some ⟨6,zsL,zsM⟩) (.e))) (some ⟨10,zhI,zhJ⟩) (.n (.n (.n (.e) (some ⟨11,ziB,ziC⟩) (.e)) (some ⟨7,zwt,zwu⟩) (.e)) (some ⟨13,zh8,zh9⟩) (.n (.n (.e) (some ⟨7,zj0,zj1⟩) (.e)) (some ⟨10,zFz,zFA⟩) (.e))))))) (none) (.n (.n (.n (.n (.n (.n (.n (.e) (some ⟨11,zir,zis⟩) (.e)) (some ⟨3,zmk,zml⟩) (.n (.e) (some ⟨9,zDX,zDY⟩) (.e))) (some ⟨5,zJP,zJQ⟩) (.n (.n (.e) (some ⟨4,zcp,zcq⟩) (.e)) (some ⟨12,zqF,zqG⟩) (.e))) (some ⟨5,zx5,zx6⟩) (.n (.n (.n (.e) (some ⟨6,ziv,ziw⟩) (.e)) (some ⟨4,ztm,ztn⟩) (.e)) (some ⟨3,zhW,zhX⟩) (.n (.n (.e) (some ⟨10,zJ6,zJ7⟩) (.e)) (some ⟨5,zFw,zFx⟩) (.e)))) (some ⟨14,zhA,zhB⟩) (.n (.n (.n (.n (.e) (some ⟨7,zwC,zwD⟩) (.e)) (some ⟨4,zkT,zkU⟩) (.e)) (some ⟨5,zyr,zys⟩) (.n (.n (.e) (some ⟨4,zcM,zcN⟩) (.e)) (some ⟨1,zgH,zgI⟩) (.e))) (some ⟨6,zFl,zFm⟩) (.n (.n (.n (.e) (some ⟨13,zjf,zjg⟩) (.e)) (some ⟨5,zuw,zux⟩) (.e)) (some ⟨21,zdv,zdw⟩) (.n (.n (.e) (some ⟨13,zkr,zks⟩) (.e)) (some ⟨21,zbb,zbc⟩) (.e))))) (some ⟨12,zDl,zDm⟩) (.n (.n (.n (.n (.n (.e) (some ⟨4,zdH,zdI⟩) (.e)) (some ⟨2,zgv,zgw⟩) (.n (.e) (some ⟨12,zow,zox⟩) (.e))) (some ⟨3,zhQ,zhR⟩) (.n (.n (.e) (some ⟨7,zn6,zn7⟩) (.e)) (some ⟨6,zB9,zCa⟩) (.e))) (some ⟨3,zyc,zyd⟩) (.n (.n (.n (.e) (some ⟨13,zhd,zhe⟩) (.e)) (some ⟨5,zeS,zeT⟩) (.e)) (some ⟨3,zcj,zck⟩) (.n (.n (.e) (some ⟨13,znq,znr⟩) (.e)) (some ⟨3,zcK,zcL⟩) (.e)))) (some ⟨5,zz2,zz3⟩) (.n (.n (.n (.n (.e) (some ⟨11,zly,zlz⟩) (.e)) (some ⟨42,zr9,zsa⟩) (.e)) (some ⟨4,zqo,zqp⟩) (.n (.n (.e) (some ⟨11,zno,znp⟩) (.e)) (some ⟨5,zda,zdb⟩) (.e))) (some ⟨4,zqi,zqj⟩) (.n (.n (.n (.e) (some ⟨41,zG6,zG7⟩) (.e)) (some ⟨3,zqD,zqE⟩) (.e)) (some ⟨16,zgt,zgu⟩) (.n (.n (.e) (some ⟨10,zpY,zpZ⟩) (.e)) (some ⟨7,zG1,zG2⟩) (.e)))))) (some ⟨9,zwa,zwb⟩) (.n (.n (.n (.n (.n (.n (.e) (some ⟨5,zJ0,zJ1⟩) (.e)) (some ⟨37,zcl,zcm⟩) (.n (.e) (some ⟨13,zos,zot⟩) (.e))) (some ⟨7,zr5,zr6⟩) (.n (.n (.e) (some ⟨10,zbw,zbx⟩) (.e)) (some ⟨1,zdF,zdG⟩) (.e))) (some ⟨79,zwf,zwg⟩) (.n (.n (.n (.e) (some ⟨10,zwE,zwF⟩) (.e)) (some ⟨3,zu9,zva⟩) (.e)) (some ⟨16,zeG,zeH⟩) (.n (.n (.e) (some ⟨9,zg9,zha⟩) (.e)) (some ⟨5,zd0,zd1⟩) (.e)))) (some ⟨5,zgn,zgo⟩) (.n (.n (.n (.n (.e) (some ⟨50,znk,znl⟩) (.e)) (some ⟨4,zkV,zkW⟩) (.e)) (some ⟨30,zeE,zeF⟩) (.n (.n (.e) (some ⟨3,zsV,zsW⟩) (.e)) (some ⟨4,zgN,zgO⟩) (.e))) (some ⟨5,zGP,zGQ⟩) (.n (.n (.n (.e) (some ⟨13,ziV,ziW⟩) (.e)) (none) (.e)) (some ⟨10,zwj,zwk⟩) (.n (.n (.e) (some ⟨13,zjY,zjZ⟩) (.e)) (some ⟨8,zgP,zgQ⟩) (.e))))) (some ⟨3,zDp,zDq⟩) (.n (.n (.n (.n (.n (.e) (some ⟨3,zfQ,zfR⟩) (.e)) (some ⟨4,zjw,zjx⟩) (.e)) (some ⟨6,zfC,zfD⟩) (.n (.n (.e) (some ⟨12,zqQ,zqR⟩) (.e)) (some ⟨3,zsd,zse⟩) (.e))) (some ⟨6,zFj,zFk⟩) (.n (.n (.n (.e) (some ⟨13,zg7,zg8⟩) (.e)) (some ⟨12,zgB,zgC⟩) (.e)) (some ⟨5,zh4,zh5⟩) (.n (.e) (some ⟨5,zdc,zdd⟩) (.e)))) (some ⟨9,zFd,zFe⟩) (.n (.n (.n (.n (.e) (some ⟨3,zfU,zfV⟩) (.e)) (some ⟨10,zyI,zyJ⟩) (.e)) (some ⟨15,zqq,zqr⟩) (.n (.n (.e) (some ⟨11,zgg,zgh⟩) (.e)) (some ⟨6,zFu,zFv⟩) (.e))) (some ⟨7,zhM,zhN⟩) (.n (.n (.n (.e) (some ⟨4,zAo,zAp⟩) (.e)) (some ⟨9,zim,zin⟩) (.e)) (none) (.n (.n (.e) (some ⟨3,zwI,zwJ⟩) (.e)) (some ⟨13,zkZ,zk0⟩) (.e)))))))) (none) (.n (.n (.n (.n (.n (.n (.n (.n (.e) (some ⟨13,zmw,zmx⟩) (.e)) (some ⟨7,zmi,zmj⟩) (.n (.e) (some ⟨6,zCs,zCt⟩) (.e))) (none) (.n (.n (.e) (some ⟨4,zAq,zAr⟩) (.e)) (some ⟨96,zGV,zGW⟩) (.e))) (some ⟨26,zGH,zGI⟩) (.n (.n (.n (.e) (some ⟨19,zbn,zbo⟩) (.e)) (some ⟨1,zdx,zdy⟩) (.e)) (some ⟨4,zdt,zdu⟩) (.n (.n (.e) (some ⟨12,zmY,zmZ⟩) (.e)) (some ⟨3,zjC,zjD⟩) (.e)))) (some ⟨3,zxY,zxZ⟩) (.n (.n (.n (.n (.e) (some ⟨5,zfS,zfT⟩) (.e)) (some ⟨2,zeM,zeN⟩) (.e)) (some ⟨34,zyp,zyq⟩) (.n (.n (.e) (some ⟨3,zmA,zmB⟩) (.e)) (some ⟨5,zgF,zgG⟩) (.e))) (some ⟨3,zDA,zDB⟩) (.n (.n (.n (.e) (some ⟨13,zlZ,zl0⟩) (.e)) (some ⟨2,zal,zam⟩) (.e)) (some ⟨9,zh6,zh7⟩) (.n (.n (.e) (some ⟨13,zns,znt⟩) (.e)) (some ⟨21,zaS,zaT⟩) (.e))))) (some ⟨6,zGB,zGC⟩) (.n (.n (.n (.n (.n (.e) (some ⟨3,zpi,zpj⟩) (.e)) (some ⟨5,zqw,zqx⟩) (.n (.e) (some ⟨10,zou,zov⟩) (.e))) (some ⟨58,zfA,zfB⟩) (.n (.n (.e) (some ⟨3,zjI,zjJ⟩) (.e)) (some ⟨25,zjA,zjB⟩) (.e))) (some ⟨5,zDx,zDy⟩) (.n (.n (.n (.e) (some ⟨13,zkj,zkk⟩) (.e)) (some ⟨6,zik,zil⟩) (.e)) (some ⟨4,zkP,zkQ⟩) (.n (.n (.e) (some ⟨9,ziX,ziY⟩) (.e)) (some ⟨8,ze0,ze1⟩) (.e)))) (some ⟨6,zx3,zx4⟩) (.n (.n (.n (.n (.e) (some ⟨5,zDR,zDS⟩) (.e)) (some ⟨4,zig,zih⟩) (.e)) (some ⟨5,zqm,zqn⟩) (.n (.n (.e) (some ⟨8,zaG,zaH⟩) (.e)) (some ⟨58,zpc,zpd⟩) (.e))) (some ⟨4,zqg,zqh⟩) (.n (.n (.n (.e) (some ⟨5,zqN,zqO⟩) (.e)) (none) (.e)) (some ⟨5,zu5,zu6⟩) (.n (.n (.e) (some ⟨9,zAv,zAw⟩) (.e)) (some ⟨25,zsh,zsi⟩) (.e)))))) (some ⟨6,ztj,ztk⟩) (.n (.n (.n (.n (.n (.n (.e) (some ⟨5,zuC,zuD⟩) (.e)) (some ⟨52,zc4,zc5⟩) (.n (.e) (some ⟨9,zj2,zj3⟩) (.e))) (some ⟨7,zo6,zo7⟩) (.n (.n (.e) (some ⟨6,zmy,zmz⟩) (.e)) (some ⟨13,zdD,zdE⟩) (.e))) (some ⟨6,zx9,zya⟩) (.n (.n (.n (.e) (some ⟨7,zix,ziy⟩) (.e)) (some ⟨4,zii,zij⟩) (.e)) (some ⟨3,zgr,zgs⟩) (.n (.n (.e) (some ⟨12,zkp,zkq⟩) (.e)) (some ⟨5,zpg,zph⟩) (.e)))) (some ⟨7,zwc,zwd⟩) (.n (.n (.n (.n (.e) (some ⟨11,zlX,zlY⟩) (.e)) (some ⟨5,zgz,zgA⟩) (.e)) (some ⟨6,zBZ,zB0⟩) (.n (.n (.e) (some ⟨3,zrO,zrP⟩) (.e)) (some ⟨5,zyN,zyO⟩) (.e))) (some ⟨10,zGN,zGO⟩) (.n (.n (.n (.e) (some ⟨13,zfY,zfZ⟩) (.e)) (some ⟨12,zrr,zrs⟩) (.e)) (some ⟨7,zAd,zAe⟩) (.n (.n (.e) (some ⟨13,zgi,zgj⟩) (.e)) (some ⟨3,zpx,zpy⟩) (.e))))) (some ⟨10,zDn,zDo⟩) (.n (.n (.n (.n (.n (.e) (some ⟨77,zd2,zd3⟩) (.e)) (some ⟨66,zgx,zgy⟩) (.e)) (some ⟨63,zhU,zhV⟩) (.n (.n (.e) (some ⟨21,zbp,zbq⟩) (.e)) (some ⟨17,zms,zmt⟩) (.e))) (some ⟨3,zme,zmf⟩) (.n (.n (.n (.e) (some ⟨13,zeu,zev⟩) (.e)) (some ⟨11,zcn,zco⟩) (.e)) (some ⟨10,zh2,zh3⟩) (.n (.n (.e) (some ⟨3,zwG,zwH⟩) (.e)) (some ⟨5,zCb,zCc⟩) (.e)))) (some ⟨9,zz4,zz5⟩) (.n (.n (.n (.n (.e) (some ⟨9,zCh,zCi⟩) (.e)) (some ⟨5,zb5,zb6⟩) (.e)) (some ⟨4,zr7,zr8⟩) (.n (.n (.e) (some ⟨8,zld,zle⟩) (.e)) (some ⟨5,zsN,zsO⟩) (.e))) (some ⟨44,zhK,zhL⟩) (.n (.n (.n (.e) (some ⟨16,zf0,zf1⟩) (.e)) (some ⟨31,zcI,zcJ⟩) (.e)) (none) (.n (.n (.e) (some ⟨11,zoq,zor⟩) (.e)) (some ⟨21,zIB,zIC⟩) (.e))))))) (none) (.n (.n (.n (.n (.n (.n (.n (.e) (some ⟨4,zk3,zk4⟩) (.e)) (some ⟨3,zia,zib⟩) (.n (.e) (some ⟨2,zrQ,zrR⟩) (.e))) (some ⟨17,znT,znU⟩) (.n (.n (.e) (some ⟨6,zn3,zn4⟩) (.e)) (some ⟨17,zFs,zFt⟩) (.e))) (some ⟨3,zx7,zx8⟩) (.n (.n (.n (.e) (some ⟨89,zJ3,zJ4⟩) (.e)) (some ⟨1,zAh,zAi⟩) (.e)) (some ⟨28,zjs,zjt⟩) (.n (.n (.e) (some ⟨13,ziF,ziG⟩) (.e)) (some ⟨7,zpe,zpf⟩) (.e)))) (some ⟨5,zDs,zDt⟩) (.n (.n (.n (.n (.e) (some ⟨8,za2,za3⟩) (.e)) (some ⟨41,zqy,zqz⟩) (.e)) (some ⟨5,zyt,zyu⟩) (.n (.n (.e) (some ⟨5,zlb,zlc⟩) (.e)) (some ⟨1,zgJ,zgK⟩) (.e))) (some ⟨5,zDC,zDD⟩) (.n (.n (.n (.e) (some ⟨56,zkl,zkm⟩) (.e)) (some ⟨2,zaQ,zaR⟩) (.e)) (some ⟨11,zfE,zfF⟩) (.n (.n (.e) (some ⟨56,zlI,zlJ⟩) (.e)) (some ⟨7,zyQ,zyR⟩) (.e))))) (some ⟨1,zFb,zFc⟩) (.n (.n (.n (.n (.n (.e) (some ⟨5,zjG,zjH⟩) (.e)) (some ⟨3,zfI,zfJ⟩) (.e)) (some ⟨5,zhS,zhT⟩) (.n (.n (.e) (some ⟨5,zk9,zla⟩) (.e)) (some ⟨3,zmq,zmr⟩) (.e))) (some ⟨4,zjq,zjr⟩) (.n (.n (.n (.e) (some ⟨56,ziS,ziT⟩) (.e)) (some ⟨41,zeU,zeV⟩) (.e)) (some ⟨24,zh0,zh1⟩) (.n (.n (.e) (some ⟨18,zG8,zG9⟩) (.e)) (some ⟨6,ze2,ze3⟩) (.e)))) (some ⟨6,zGD,zGE⟩) (.n (.n (.n (.n (.e) (some ⟨12,zoo,zop⟩) (.e)) (some ⟨11,zeO,zeP⟩) (.e)) (some ⟨25,znV,znW⟩) (.n (.n (.e) (some ⟨11,zkn,zko⟩) (.e)) (some ⟨5,zb7,zb8⟩) (.e))) (some ⟨7,zhG,zhH⟩) (.n (.n (.n (.e) (some ⟨13,zCl,zCm⟩) (.e)) (some ⟨14,zdB,zdC⟩) (.e)) (some ⟨29,zfG,zfH⟩) (.n (.n (.e) (some ⟨10,znu,znv⟩) (.e)) (some ⟨5,zG3,zG4⟩) (.e)))))) (some ⟨7,zuj,zuk⟩) (.n (.n (.n (.n (.n (.n (.e) (some ⟨17,zsj,zsk⟩) (.e)) (some ⟨4,zc6,zc7⟩) (.n (.e) (some ⟨7,zFH,zFI⟩) (.e))) (some ⟨71,zqk,zql⟩) (.n (.e) (some ⟨14,zfK,zfL⟩) (.e))) (some ⟨126,zqe,zqf⟩) (.n (.n (.n (.e) (some ⟨7,zDT,zDU⟩) (.e)) (some ⟨3,zdz,zdA⟩) (.e)) (some ⟨11,zmg,zmh⟩) (.n (.n (.e) (some ⟨13,zlG,zlH⟩) (.e)) (some ⟨4,zio,ziq⟩) (.e)))) (some ⟨10,zkJ,zkK⟩) (.n (.n (.n (.n (.e) (some ⟨8,zmW,zmX⟩) (.e)) (some ⟨2,zDJ,zDK⟩) (.e)) (none) (.n (.n (.e) (some ⟨7,zlC,zlD⟩) (.e)) (some ⟨7,zsf,zsg⟩) (.e))) (some ⟨5,znR,znS⟩) (.n (.n (.n (.e) (some ⟨14,zlA,zlB⟩) (.e)) (some ⟨3,zgD,zgE⟩) (.e)) (some ⟨3,zB4,zB5⟩) (.n (.n (.e) (some ⟨14,zm0,zm1⟩) (.e)) (some ⟨3,ze4,ze5⟩) (.e))))) (some ⟨25,zma,zmb⟩) (.n (.n (.n (.n (.n (.e) (some ⟨4,zk5,zk6⟩) (.e)) (some ⟨23,zmm,zmn⟩) (.e)) (some ⟨6,zz7,zz8⟩) (.n (.n (.e) (some ⟨7,ze6,ze7⟩) (.e)) (some ⟨4,zfM,zfN⟩) (.e))) (some ⟨11,zGJ,zGK⟩) (.n (.n (.n (.e) (some ⟨14,zjQ,zjR⟩) (.e)) (some ⟨7,zqB,zqC⟩) (.e)) (some ⟨12,zju,zjv⟩) (.n (.n (.e) (some ⟨2,zrw,zrx⟩) (.e)) (some ⟨6,ztr,zts⟩) (.e)))) (some ⟨54,zGF,zGG⟩) (.n (.n (.n (.n (.e) (some ⟨6,zd4,zd5⟩) (.e)) (some ⟨30,zeQ,zeR⟩) (.e)) (some ⟨1,zqs,zqt⟩) (.n (.n (.e) (some ⟨5,zyZ,zy0⟩) (.e)) (some ⟨8,zmu,zmv⟩) (.e))) (some ⟨3,zcE,zcF⟩) (.n (.n (.n (.e) (some ⟨6,zFB,zFC⟩) (.e)) (some ⟨4,zDL,zDM⟩) (.e)) (none) (.n (.n (.e) (some ⟨12,zlK,zlL⟩) (.e)) (some ⟨9,zgR,zgS⟩) (.e))))))))
end Go.Proofs.YtpnhjkiligohnaaGreatDoor
namespace Go.Vm.Rn
open Go.Vm
def All2 {α β:Type} (Q:α→β→Prop):List α→List β→Prop
 | [],[]=>True
 | a::l,b::r=>Q a b∧All2 Q l r
 | _,_=>False
namespace All2
variable {α β γ:Type} {Q Q':α→β→Prop}
theorem len:∀ {l:List α} {r:List β},All2 Q l r→l.length=r.length
 | [],[],_=>rfl
 | _::_,_::_,h=>congrArg (· + 1) (len h.2)
 | [],_::_,h=>h.elim
 | _::_,[],h=>h.elim
theorem imp (hq:∀ a b,Q a b→Q' a b):∀ {l:List α} {r:List β},All2 Q l r→All2 Q' l r
 | [],[],_=>trivial
 | _::_,_::_,h=>⟨hq _ _ h.1,imp hq h.2⟩
 | [],_::_,h=>h.elim
 | _::_,[],h=>h.elim
theorem drop:∀ (n:Nat) {l:List α} {r:List β},All2 Q l r→All2 Q (l.drop n) (r.drop n)
 | 0,_,_,h=>h
 | _+1,[],[],_=>trivial
 | n+1,_::_,_::_,h=>drop n h.2
 | _+1,[],_::_,h=>h.elim
 | _+1,_::_,[],h=>h.elim
theorem take:∀ (n:Nat) {l:List α} {r:List β},All2 Q l r→All2 Q (l.take n) (r.take n)
 | 0,_,_,_=>by simp[All2]
 | _+1,[],[],_=>trivial
 | n+1,_::_,_::_,h=>⟨h.1,take n h.2⟩
 | _+1,[],_::_,h=>h.elim
 | _+1,_::_,[],h=>h.elim
theorem append:∀ {l l':List α} {r r':List β},All2 Q l r→All2 Q l' r'→All2 Q (l++l') (r++r')
 | [],_,[],_,_,h=>h
 | _::_,_,_::_,_,h,h'=>⟨h.1,append h.2 h'⟩
 | [],_,_::_,_,h,_=>h.elim
 | _::_,_,[],_,h,_=>h.elim
theorem at_:∀ {l:List α} {r:List β},All2 Q l r→∀ {k:Nat} {a:α},l[k]? = some a→∃ b,r[k]? = some b∧Q a b
 | _::_,_::_,h,0,a,ha=>⟨_,rfl,by simp at ha;subst ha;exact h.1⟩
 | _::_,_::_,h,k+1,a,ha=>by simpa using at_ h.2 (k:=k) (a:=a) (by simpa using ha)
 | [],[],_,_,_,ha=>by simp at ha
 | [],_::_,h,_,_,_=>h.elim
 | _::_,[],h,_,_,_=>h.elim
theorem set:∀ {l:List α} {r:List β},All2 Q l r→∀ {k:Nat} {a:α} {b:β},Q a b→All2 Q (l.set k a) (r.set k b)
 | [],[],_,_,_,_,_=>trivial
 | _::_,_::_,h,0,_,_,hq=>⟨hq,h.2⟩
 | _::_,_::_,h,_+1,_,_,hq=>⟨h.1,set h.2 hq⟩
 | [],_::_,h,_,_,_,_=>h.elim
 | _::_,[],h,_,_,_,_=>h.elim
theorem map {f:β→γ} {Q'':α→γ→Prop} (hf:∀ a b,Q a b→Q'' a (f b)):∀ {l:List α} {r:List β},All2 Q l r→All2 Q'' l (r.map f)
 | [],[],_=>trivial
 | _::_,_::_,h=>⟨hf _ _ h.1,map hf h.2⟩
 | [],_::_,h=>h.elim
 | _::_,[],h=>h.elim
theorem fn (hq:∀ a b b',Q a b→Q a b'→b=b'):∀ {l:List α} {r r':List β},All2 Q l r→All2 Q l r'→r=r'
 | [],[],[],_,_=>rfl
 | _::_,_::_,_::_,h,h'=>by rw[hq _ _ _ h.1 h'.1,fn hq h.2 h'.2]
 | [],_::_,_,h,_=>h.elim
 | [],[],_::_,_,h=>h.elim
 | _::_,[],_,h,_=>h.elim
 | _::_,_::_,[],_,h=>h.elim
end All2
theorem zx {b:Bool} {t:R} {y:Out} (h:cB b t fail=some y):b=true∧t=some y:=by cases b<;>simp_all [cB,fail]
theorem zji {α:Type} {x:Option α} {K:α→R} {y:Out} (h:oV x K=some y):∃ v,x=some v∧K v=some y:=by cases x<;>simp_all [oV,fail]
theorem fN_eq (k:Nat→R) (n:Nat):fN k n=k n:=by cases n<;>rfl
theorem zQl (k:Int→R) (n:Int):fI k n=k n:=by cases n<;>simp only[fI,fN_eq]
theorem zsY {b:Bool} {K:V→R}:kB b K=K (.c (.t b)):=by cases b<;>rfl
theorem zb4 {α:Type} (l:List α) (K:Nat→R):zew l K=K l.length:=by
 unfold zew;rw[fN_eq];congr 1
 induction l with
 | nil=>rfl
 | cons a r ih=>simp only[List.length_cons,←ih]
theorem znc {α:Type}:∀ (l r:List α) (K:List α→R),appK l r K=K (l++r)
 | [],_,_=>rfl
 | a::l,r,K=>znc l r fun r'=>K (a::r')
theorem zxo {α:Type} (l:List α):∀ (n:Nat) (K:List α→R),zAx l n K=K (List.replicate n l).flatten
 | 0,_=>rfl
 | n+1,K=>by
  have h:zAx l (n+1) K=zAx l n fun r=>appK l r K:=rfl
  rw[h,zxo l n,znc];rfl
theorem zD3 {α:Type} {y:Out}:∀ {n:Nat} {l:List α} {K:List α→R},zJ8 n l K=some y→n≤l.length∧K (l.drop n)=some y
 | 0,_,_,h=>⟨Nat.zero_le _,h⟩
 | _+1,[],_,h=>by cases h
 | n+1,_::l,K,h=>by
  obtain⟨h1,h2⟩:=zD3 (n:=n) (l:=l) (K:=K) h;exact⟨Nat.succ_le_succ h1,h2⟩
theorem ztw {α:Type} {y:Out}:∀ {n:Nat} {l:List α} {K:List α→R},zqU n l K=some y→n≤l.length∧K (l.take n)=some y
 | 0,_,_,h=>⟨Nat.zero_le _,h⟩
 | _+1,[],_,h=>by cases h
 | n+1,a::l,K,h=>by
  obtain⟨h1,h2⟩:=ztw (n:=n) (l:=l) (K:=fun r=>K (a::r)) h;exact⟨Nat.succ_le_succ h1,h2⟩
theorem zI8 {α:Type} {y:Out}:∀ {vs l:List α} {K:List α→R},zQb vs l K=some y→vs.length≤l.length∧K (vs++l.drop vs.length)=some y
 | [],_,_,h=>⟨Nat.zero_le _,h⟩
 | _::_,[],_,h=>by cases h
 | v::vs,a::l,K,h=>by
  obtain⟨h1,h2⟩:=zI8 (vs:=vs) (l:=l) (K:=fun r=>K (v::r)) h;exact⟨Nat.succ_le_succ h1,h2⟩
theorem zwO {α:Type} {y:Out}:∀ {o:Nat} {l vs:List α} {K:List α→R},zDZ o l vs K=some y→o+vs.length≤l.length∧K (splice l o vs)=some y
 | 0,l,vs,K,h=>by
  obtain⟨h1,h2⟩:=zI8 (vs:=vs) (l:=l) (K:=K) h;exact⟨by omega,by simpa[splice] using h2⟩
 | _+1,[],_,_,h=>by cases h
 | o+1,a::l,vs,K,h=>by
  obtain⟨h1,h2⟩:=zwO (o:=o) (l:=l) (vs:=vs) (K:=fun r=>K (a::r)) h;refine⟨by simp only[List.length_cons];omega,?_⟩;have e:splice (a::l) (o+1) vs=a::splice l o vs:=by simp[splice,Nat.add_right_comm o 1]
  rw[e];exact h2
theorem ztx {α:Type} {y:Out}:∀ {l:List α} {k:Nat} {K:α→R},zwK l k K=some y→∃ a,l[k]? = some a∧K a=some y
 | [],_,_,h=>by cases h
 | a::_,0,_,h=>⟨a,rfl,h⟩
 | _::l,k+1,K,h=>by simpa using ztx (l:=l) (k:=k) (K:=K) h
theorem zHo {α:Type} {y:Out}:∀ {l:List α} {k:Nat} {x:α} {K:List α→R},setK l k x K=some y→k<l.length∧K (l.set k x)=some y
 | [],_,_,_,h=>by cases h
 | _::l,0,_,_,h=>⟨by simp,h⟩
 | a::l,k+1,x,K,h=>by
  obtain⟨h1,h2⟩:=zHo (l:=l) (k:=k) (x:=x) (K:=fun r=>K (a::r)) h;exact⟨by simp only[List.length_cons];omega,h2⟩
theorem zMN {α:Type} {y:Out}:∀ {l:List α} {k:Nat} {K:List α→R},zOc l k K=some y→k<l.length∧K (l.eraseIdx k)=some y
 | [],_,_,h=>by cases h
 | _::l,0,_,h=>⟨by simp,h⟩
 | a::l,k+1,K,h=>by
  obtain⟨h1,h2⟩:=zMN (l:=l) (k:=k) (K:=fun r=>K (a::r)) h;exact⟨by simp only[List.length_cons];omega,h2⟩
theorem zty {cs:List C} {o n:Nat} {K:List C→R} {y:Out} (h:takeC cs o n K=some y):o+n≤cs.length∧K ((cs.drop o).take n)=some y:=by
 obtain⟨h1,h2⟩:=zD3 h;obtain⟨h3,h4⟩:=ztw h2;rw[List.length_drop] at h3;exact⟨by omega,h4⟩
namespace T
variable {α:Type}
theorem get_1 (l r:T α) (v:Option α) (m:Nat):(T.n l v r).get (m+1)=if Nat.beq (m % 2) 1 then r.get (m / 2) else l.get (m / 2):=by
 show (Bool.rec (l.get (m / 2)) (r.get (m / 2)) (Nat.beq (m % 2) 1):Option α)=_;cases Nat.beq (m % 2) 1<;>rfl
noncomputable def put (t:T α) (k:Nat) (x:Option α):T α:=t.set k x id
theorem set_put {ρ:Type}:∀ (t:T α) (k:Nat) (x:Option α) (K:T α→ρ),t.set k x K=K (t.put k x)
 | .e,_,_,_=>rfl
 | .n _ _ _,0,_,_=>rfl
 | .n l v r,m+1,x,K=>by
  unfold put;show (Bool.rec (l.set (m / 2) x fun l'=>K (.n l' v r)) (r.set (m / 2) x fun r'=>K (.n l v r')) (Nat.beq (m % 2) 1):ρ)=K (Bool.rec (motive:=fun _=>T α) (l.set (m / 2) x fun l'=>id (.n l' v r)) (r.set (m / 2) x fun r'=>id (.n l v r')) (Nat.beq (m % 2) 1))
  cases Nat.beq (m % 2) 1
  ·show l.set (m / 2) x _=K (l.set (m / 2) x _);rw[set_put l,set_put l];rfl
  ·show r.set (m / 2) x _=K (r.set (m / 2) x _);rw[set_put r,set_put r];rfl
theorem zQm (l r:T α) (v:Option α) (m:Nat) (x:Option α):(T.n l v r).put (m+1) x=if Nat.beq (m % 2) 1 then .n l v (r.put (m / 2) x) else .n (l.put (m / 2) x) v r:=by
 unfold put;show (Bool.rec (l.set (m / 2) x fun l'=>id (.n l' v r)) (r.set (m / 2) x fun r'=>id (.n l v r')) (Nat.beq (m % 2) 1):T α)=_
 cases Nat.beq (m % 2) 1
 ·show l.set (m / 2) x _=_;rw[set_put l];rfl
 ·show r.set (m / 2) x _=_;rw[set_put r];rfl
theorem zD4:∀ {f k j:Nat} {x:Option α} {y:α},(T.one f k x).get j=some y→j=k∧x=some y
 | 0,_,_,_,_,h=>by cases h
 | _+1,0,0,x,y,h=>⟨rfl,h⟩
 | _+1,0,j+1,x,y,h=>by
  have e:∀ f,(T.one (f+1) 0 x:T α) = .n .e x .e:=fun _=>rfl
  rw[e,get_1] at h;split at h<;>cases h
 | f+1,m+1,j,x,y,h=>by
  have e:(T.one (f+1) (m+1) x:T α)=Bool.rec (.n (T.one f (m / 2) x) none .e) (.n .e none (T.one f (m / 2) x)) (Nat.beq (m % 2) 1):=rfl;rw[e] at h;cases hm:Nat.beq (m % 2) 1 with
  | true=>
   rw[hm] at h;have hm':m % 2=1:=Nat.eq_of_beq_eq_true hm
   cases j with
   | zero=>cases h
   | succ j=>
    replace h:(T.n .e none (T.one f (m / 2) x):T α).get (j+1)=some y:=h;rw[get_1] at h;split at h
    ·rename_i hj;have hj':j % 2=1:=Nat.eq_of_beq_eq_true hj
     obtain⟨h1,h2⟩:=zD4 h;exact⟨by omega,h2⟩
    ·cases h
  | false=>
   rw[hm] at h;have hm':m % 2≠1:=fun e=>by rw[e] at hm;cases hm
   cases j with
   | zero=>cases h
   | succ j=>
    replace h:(T.n (T.one f (m / 2) x) none .e:T α).get (j+1)=some y:=h;rw[get_1] at h;split at h
    ·cases h
    ·rename_i hj;have hj':j % 2≠1:=fun e=>by rw[e] at hj;exact hj rfl
     obtain⟨h1,h2⟩:=zD4 h;exact⟨by omega,h2⟩
theorem get_put:∀ {t:T α} {k j:Nat} {x:Option α} {y:α},(t.put k x).get j=some y→(j=k∧x=some y)∨(j≠k∧t.get j=some y)
 | .e,k,j,x,y,h => .inl (zD4 (f:=40) (show (T.one 40 k x).get j=some y from h))
 | .n _ _ _,0,0,x,y,h => .inl ⟨rfl,h⟩
 | .n l v r,0,j+1,x,y,h=>by
  have e:(T.n l v r).put 0 x = .n l x r:=rfl;rw[e,get_1] at h;exact .inr ⟨by omega,by rw[get_1];exact h⟩
 | .n l v r,m+1,0,x,y,h=>by
  rw[zQm] at h;refine .inr ⟨by omega,?_⟩;split at h<;>exact h
 | .n l v r,m+1,j+1,x,y,h=>by
  rw[zQm] at h;rw[get_1];cases hm:Nat.beq (m % 2) 1<;>cases hj:Nat.beq (j % 2) 1<;>simp only[hm,Bool.false_eq_true,if_false,if_true] at h<;>rw[get_1,hj] at h<;>simp only[Bool.false_eq_true,if_false,if_true] at h ⊢
  ·have hm':m % 2≠1:=fun e=>by rw[e] at hm;cases hm
   have hj':j % 2≠1:=fun e=>by rw[e] at hj;cases hj
   rcases get_put h with ⟨h1,h2⟩|⟨h1,h2⟩
   ·exact .inl ⟨by omega,h2⟩
   ·exact .inr ⟨by omega,h2⟩
  ·have hm':m % 2≠1:=fun e=>by rw[e] at hm;cases hm
   have hj':j % 2=1:=Nat.eq_of_beq_eq_true hj;exact .inr ⟨by omega,h⟩
  ·have hj':j % 2≠1:=fun e=>by rw[e] at hj;cases hj
   have hm':m % 2=1:=Nat.eq_of_beq_eq_true hm;exact .inr ⟨by omega,h⟩
  ·have hm':m % 2=1:=Nat.eq_of_beq_eq_true hm;have hj':j % 2=1:=Nat.eq_of_beq_eq_true hj
   rcases get_put h with ⟨h1,h2⟩|⟨h1,h2⟩
   ·exact .inl ⟨by omega,h2⟩
   ·exact .inr ⟨by omega,h2⟩
end T
structure E where
 addr:Nat
 cap:Nat
 nil:Bool
 sp:List Value
def zaf (l:List Nat):ByteArray:=⟨(l.map UInt8.ofNat).toArray⟩
def C.val (σ:List E):C→Option Value
 | .n q x=>some (.int q x)
 | .t x=>some (.bool x)
 | .s x=>some (.string (zaf x))
 | .p a o=>(σ[a]?).map fun e => .pointer (some ⟨e.addr,o,none⟩)
 | .np=>some (.pointer none)
 | .l a o x y=>(σ[a]?).map fun e => .slice (some ⟨e.addr,o,none⟩) x y
 | .g a o d x=>(σ[a]?).bind fun e=>if e.nil=true then (if x=0∧o=0∧d=0 then some (.slice none 0 0) else none) else (if d+x≤e.cap then some (.slice (some ⟨e.addr,o,none⟩) x (e.cap - d)) else none)
 | .nl=>some (.slice none 0 0)
 | .m a=>(σ[a]?).map fun e => .map (some e.addr)
 | .nm=>some (.map none)
 | .b _ _=>none
 | .f x=>some (.func (.func x) #[] #[])
 | .fm x a o=>(σ[a]?).map fun e => .func (.func x) #[.pointer (some ⟨e.addr,o,none⟩)] #[]
 | .h a o d k z w=>(σ[a]?).bind fun e=>if e.nil=false∧d+k≤e.cap then some (.slice (zat (some ⟨e.addr,o,none⟩) k (e.cap - d) z) 0 (if w then 0 else e.cap - d - k)) else none
 | .ni=>some .nilIface
 | .nf=>some .nilFunc
 | .xx a d lo hi=>(σ[a]?).bind fun e=>match e.sp with|[.int .i64 u]=>if lo≤u+d∧u+d≤hi then some (.int .i64 (u+d)) else none|_=>none
def CR (σ:List E) (c:C) (v:Value):Prop:=c.val σ=some v
def SCR (σ:List E) (nb:Nat) (c:C) (x:SC):Prop:=match c with | .b j o=>j<nb∧x = .bx j o|c=>∃ v,c.val σ=some v∧x = .v v
def WR (σ:List E) (w:W) (v:Value):Prop:=match w with | .c x=>CR σ x v | .ag l=>∃ vs,All2 (CR σ) l vs∧v = .agg vs.toArray | .fn g l=>∃ vs,All2 (CR σ) l vs∧v = .func (.func g) #[] vs.toArray
def VR (σ:List E) (nb:Nat) (v:V) (sv:SV):Prop:=
 match v with
 | .c x=>(∃ sc,SCR σ nb x sc∧sv = .c sc)∨(∃ b,x = .t b∧sv = .sb b)
 | .ag l=>∃ cs,All2 (SCR σ nb) l cs∧sv = .ag cs
 | .fn g l=>(∃ cs,All2 (SCR σ nb) l cs∧sv = .fn g cs)∨(∃ vs,All2 (CR σ) l vs∧sv = .c (.v (.func (.func g) #[] vs.toArray)))
 | .tp l=>∃ vs,All2 (WR σ) l vs∧sv = .c (.v (.tuple vs.toArray))
 | .sl j n=>j<nb∧sv = .sl j n
 | .dead=>sv = .dead
def OVR (σ:List E) (v:V) (x:Value):Prop:=match v with | .c c=>CR σ c x | .ag l=>WR σ (.ag l) x | .fn g l=>WR σ (.fn g l) x | .tp l=>∃ vs,All2 (WR σ) l vs∧x = .tuple vs.toArray|_=>False
def EnR (σ:List E) (e:En) (m:MapEntry):Prop:=WR σ e.key m.key∧WR σ e.val m.val∧m.born=e.born
def mR (σ:List E) (m:Option Nat) (x:Option Nat):Prop:=match m with|none=>x=none|some a=>∃ e,σ[a]? = some e∧x=some e.addr
def OR (σ:List E) (e:E) (o:O) (M:Mem):Prop:=
 match o with
 | .row T l=>e.nil=false∧∃ vs,All2 (CR σ) l vs∧M e.addr=some (.cells vs.toArray T (0,0))
 | .ro T l=>e.nil=false∧∃ vs,All2 (CR σ) l vs∧M e.addr=some (.cells vs.toArray T (vs.length,vs.length+1))
 | .gr T z l=>∃ vs,All2 (CR σ) l vs∧((e.nil=true∧l=[]∧e.cap=0)∨(e.nil=false∧M e.addr=some (.cells (vs++e.sp).toArray T (0,0))∧(vs++e.sp).length=e.cap*z))
 | .mp es c=>e.nil=false∧∃ ms,All2 (EnR σ) es ms∧M e.addr=some (.map ms.toArray c)
 | .it m a s t=>e.nil=false∧∃ x,mR σ m x∧M e.addr=some (.mapIter x a s.toArray t)
 | .si l p=>e.nil=false∧M e.addr=some (.stringIter (zaf l) p)
def BR (σ:List E) (nb:Nat) (b:B) (x:BE):Prop:=match b with | .live T l=>∃ cs,All2 (SCR σ nb) l cs∧x = .live T cs | .gone a=>∃ e,σ[a]? = some e∧x = .gone e.addr | .dark=>∃ a,x = .gone a
def FR (σ:List E) (nb:Nat) (s:S) (fr:List (Nat×SV)):Prop:=∀ d v,s.fget d=some v→v ≠ .dead∧∃ sv,lk fr d=some sv∧VR σ nb v sv
structure HR (σ:List E) (H:T O) (M:Mem):Prop where
 has:∀ a o,H.get a=some o→∃ e,σ[a]? = some e∧OR σ e o M
 inj:∀ a b oa ob ea eb,H.get a=some oa→H.get b=some ob→σ[a]? = some ea→σ[b]? = some eb→ea.nil=false→eb.nil=false→ea.addr=eb.addr→a=b
structure SR (σ:List E) (s:S) (t:St):Prop where
 n:s.n=σ.length
 fr:FR σ t.bx.length s t.fr
 bx:All2 (BR σ t.bx.length) s.bx t.bx
 h:HR σ s.H t.M
def S.rd (s:S) (a:Nat):Prop:=match s.g with|none=>True|some l=>mem a l=true
structure QR (σ:List E) (nb:Nat) (s:S) (t:St):Prop where
 fr:FR σ nb s t.fr
 bx:All2 (BR σ nb) s.bx t.bx
 h:∀ a o,s.rd a→s.H.get a=some o→∃ e,σ[a]? = some e∧OR σ e o t.M
theorem SR.q {σ:List E} {s:S} {t:St} (h:SR σ s t):QR σ t.bx.length s t:=⟨h.fr,h.bx,fun a o _ ha=>h.h.has a o ha⟩
theorem C.val_mono {σ:List E} (τ:List E) {c:C} {v:Value} (h:c.val σ=some v):c.val (σ++τ)=some v:=by
 have key:∀ {a:Nat} {e:E},σ[a]? = some e→(σ++τ)[a]? = some e:=fun {a e} he=>by
  rw[List.getElem?_append_left (List.getElem?_eq_some_iff.1 he).1];exact he
 cases c with
 | p a o=>simp only[C.val,Option.map_eq_some_iff] at h ⊢; obtain⟨e,h1,h2⟩:=h;exact⟨e,key h1,h2⟩
 | l a o n c=>simp only[C.val,Option.map_eq_some_iff] at h ⊢; obtain⟨e,h1,h2⟩:=h;exact⟨e,key h1,h2⟩
 | m a=>simp only[C.val,Option.map_eq_some_iff] at h ⊢; obtain⟨e,h1,h2⟩:=h;exact⟨e,key h1,h2⟩
 | g a o d n=>simp only[C.val,Option.bind_eq_some_iff] at h ⊢; obtain⟨e,h1,h2⟩:=h;exact⟨e,key h1,h2⟩
 | fm g a o=>simp only[C.val,Option.map_eq_some_iff] at h ⊢; obtain⟨e,h1,h2⟩:=h;exact⟨e,key h1,h2⟩
 | h a o d k z w=>simp only[C.val,Option.bind_eq_some_iff] at h ⊢; obtain⟨e,h1,h2⟩:=h;exact⟨e,key h1,h2⟩
 | xx a d lo hi=>simp only[C.val,Option.bind_eq_some_iff] at h ⊢; obtain⟨e,h1,h2⟩:=h;exact⟨e,key h1,h2⟩
 | _=>exact h
theorem CR.mono {σ:List E} (τ:List E) {c:C} {v:Value} (h:CR σ c v):CR (σ++τ) c v:=C.val_mono τ h
theorem SCR.mono {σ:List E} {nb nb':Nat} (τ:List E) (hn:nb≤nb') {c:C} {x:SC} (h:SCR σ nb c x):SCR (σ++τ) nb' c x:=by
 cases c with
 | b j o=>exact⟨Nat.lt_of_lt_of_le h.1 hn,h.2⟩
 | _=>obtain⟨v,h1,h2⟩:=h;exact⟨v,C.val_mono τ h1,h2⟩
theorem WR.mono {σ:List E} (τ:List E) {w:W} {v:Value} (h:WR σ w v):WR (σ++τ) w v:=by
 cases w with
 | c x=>exact CR.mono τ h
 | ag l=>obtain⟨vs,h1,h2⟩:=h;exact⟨vs,h1.imp fun _ _=>CR.mono τ,h2⟩
 | fn g l=>obtain⟨vs,h1,h2⟩:=h;exact⟨vs,h1.imp fun _ _=>CR.mono τ,h2⟩
theorem VR.mono {σ:List E} {nb nb':Nat} (τ:List E) (hn:nb≤nb') {v:V} {sv:SV} (h:VR σ nb v sv):VR (σ++τ) nb' v sv:=by
 cases v with
 | c x=>exact h.imp (fun ⟨sc,h1,h2⟩=>⟨sc,h1.mono τ hn,h2⟩) id
 | ag l=>obtain⟨cs,h1,h2⟩:=h;exact⟨cs,h1.imp fun _ _=>SCR.mono τ hn,h2⟩
 | fn g l=>exact h.imp (fun ⟨cs,h1,h2⟩=>⟨cs,h1.imp fun _ _=>SCR.mono τ hn,h2⟩) (fun ⟨vs,h1,h2⟩=>⟨vs,h1.imp fun _ _=>CR.mono τ,h2⟩)
 | tp l=>obtain⟨vs,h1,h2⟩:=h;exact⟨vs,h1.imp fun _ _=>WR.mono τ,h2⟩
 | sl j n=>exact⟨Nat.lt_of_lt_of_le h.1 hn,h.2⟩
 | dead=>exact h
theorem zoV {σ:List E} (τ:List E) {a:Nat} {e:E} (he:σ[a]? = some e):(σ++τ)[a]? = some e:=by
 rw[List.getElem?_append_left (List.getElem?_eq_some_iff.1 he).1];exact he
theorem EnR.mono {σ:List E} (τ:List E) {e:En} {m:MapEntry} (h:EnR σ e m):EnR (σ++τ) e m:=⟨h.1.mono τ,h.2.1.mono τ,h.2.2⟩
theorem OR.mono {σ:List E} (τ:List E) {e:E} {o:O} {M:Mem} (h:OR σ e o M):OR (σ++τ) e o M:=by
 cases o with
 | row T l=>obtain⟨h0,vs,h1,h2⟩:=h;exact⟨h0,vs,h1.imp fun _ _=>CR.mono τ,h2⟩
 | ro T l=>obtain⟨h0,vs,h1,h2⟩:=h;exact⟨h0,vs,h1.imp fun _ _=>CR.mono τ,h2⟩
 | gr T z l=>obtain⟨vs,h1,h2⟩:=h;exact⟨vs,h1.imp fun _ _=>CR.mono τ,h2⟩
 | mp es c=>obtain⟨h0,ms,h1,h2⟩:=h;exact⟨h0,ms,h1.imp fun _ _=>EnR.mono τ,h2⟩
 | it m a s t=>
  obtain⟨h0,x,h1,h2⟩:=h;refine⟨h0,x,?_,h2⟩;cases m with
  | none=>exact h1
  | some a=>obtain⟨e,h3,h4⟩:=h1;exact⟨e,zoV τ h3,h4⟩
 | si l p=>exact h
theorem BR.mono {σ:List E} {nb nb':Nat} (τ:List E) (hn:nb≤nb') {b:B} {x:BE} (h:BR σ nb b x):BR (σ++τ) nb' b x:=by
 cases b with
 | live T l=>obtain⟨cs,h1,h2⟩:=h;exact⟨cs,h1.imp fun _ _=>SCR.mono τ hn,h2⟩
 | gone a=>obtain⟨e,h1,h2⟩:=h;exact⟨e,zoV τ h1,h2⟩
 | dark=>exact h
theorem FR.mono {σ:List E} {nb nb':Nat} (τ:List E) (hn:nb≤nb') {s:S} {fr:List (Nat×SV)} (h:FR σ nb s fr):FR (σ++τ) nb' s fr:=fun d v hd=>by
 obtain⟨h0,sv,h1,h2⟩:=h d v hd;exact⟨h0,sv,h1,h2.mono τ hn⟩
theorem CR.fn {σ:List E} {c:C} {v v':Value} (h:CR σ c v) (h':CR σ c v'):v=v':=by unfold CR at h h';rw[h] at h';exact Option.some.inj h'
theorem CR.sc {σ:List E} {nb:Nat} {c:C} {v:Value} (h:CR σ c v):SCR σ nb c (.v v):=by
 cases c with
 | b j o=>cases h
 | _=>exact⟨v,h,rfl⟩
theorem C.val_xx {σ:List E} {a:Nat} {d lo hi:Int} {v:Value} (h:(C.xx a d lo hi).val σ=some v):∃ e n,σ[a]? = some e∧e.sp=[.int .i64 n]∧lo≤n+d∧n+d≤hi∧v = .int .i64 (n+d):=by
 simp only[C.val,Option.bind_eq_some_iff] at h;obtain⟨e,h1,h2⟩:=h;split at h2
 ·rename_i n hn;split at h2
  ·rename_i hb;cases h2;exact⟨e,n,h1,hn,hb.1,hb.2,rfl⟩
  ·cases h2
 ·cases h2
theorem CR.one {σ:List E} {c:C} {v:Value} (h:CR σ c v):v.oneCell'=true:=by
 unfold CR at h;by_cases hx:∃ a d lo hi,c = .xx a d lo hi
 ·obtain⟨a,d,lo,hi,rfl⟩:=hx;obtain⟨e,n, -, -, -, -, rfl⟩:=C.val_xx h;rfl
 cases c<;>simp only[C.val,Option.map_eq_some_iff,Option.bind_eq_some_iff,Option.some.injEq,reduceCtorEq] at h<;>first
  | exact(hx ⟨_,_,_,_,rfl⟩).elim
  | (subst h;rfl)
  | (obtain⟨e, -, rfl⟩:=h;rfl)
  | (obtain⟨e, -, h⟩:=h;split at h<;>split at h<;>first|(cases h;rfl)|cases h)
  | (obtain⟨e, -, h⟩:=h;split at h<;>first|(cases h;rfl)|cases h)
theorem zwP {σ:List E} {nb:Nat} {c:C} {v:Value} (h:CR σ c v):VR σ nb (.c c) (zf4 v):=by
 have h1:=h.one;cases v with
 | bool b=>
  right;refine⟨b,?_,rfl⟩;unfold CR at h;by_cases hx:∃ a d lo hi,c = .xx a d lo hi
  ·obtain⟨a,d,lo,hi,rfl⟩:=hx;obtain⟨e,n, -, -, -, -, h⟩:=C.val_xx h;cases h
  cases c<;>simp only[C.val,Option.map_eq_some_iff,Option.bind_eq_some_iff,Option.some.injEq,reduceCtorEq,and_false,exists_false] at h<;>first
   | exact(hx ⟨_,_,_,_,rfl⟩).elim
   | (cases h;rfl)
   | (obtain⟨e, -, h⟩:=h;split at h<;>split at h<;>cases h)
   | (obtain⟨e, -, h⟩:=h;split at h<;>cases h)
 | agg cs=>cases h1
 | tuple cs=>cases h1
 | _=>exact .inl ⟨_,h.sc,rfl⟩
theorem zxp {σ:List E} {nb:Nat} {w:W} {v:Value} (h:WR σ w v):VR σ nb (V.ofW w) (zf4 v):=by
 cases w with
 | c x=>exact zwP h
 | ag l=>
  obtain⟨vs,h1,rfl⟩:=h;exact⟨vs.map .v,h1.map fun _ _ h=>CR.sc h,by simp[zf4]⟩
 | fn g l=>
  obtain⟨vs,h1,rfl⟩:=h;exact .inr ⟨vs,h1,rfl⟩
theorem zTP {σ:List E} {nb:Nat} {v:V} {x:Value} (h:OVR σ v x):VR σ nb v (zf4 x):=by
 cases v with
 | c c=>exact zwP h
 | ag l=>exact zxp (w := .ag l) h
 | fn g l=>exact zxp (w := .fn g l) h
 | tp l=>obtain⟨vs,h1,rfl⟩:=h;exact⟨vs,h1,rfl⟩
 | sl j n=>exact h.elim
 | dead=>exact h.elim
theorem zRk (s:ByteArray):zaf (s.toList.map UInt8.toNat)=s:=by
 unfold zaf
 have:(s.toList.map UInt8.toNat).map UInt8.ofNat=s.toList:=by
  rw[List.map_map]
  conv=>rhs;rw[←List.map_id s.toList]
  apply List.map_congr_left;intro a _;simp
 rw[this,ByteArray.toList_eq]
theorem C.ofV_s {v:Value} {c:C} (h:C.ofV v=some c) (σ:List E):CR σ c v:=by
 unfold C.ofV at h
 split at h<;>first
  | (cases h;rfl)
  | (cases h;simp only[CR,C.val,zRk])
  | cases h
theorem zry {y:Out} (σ:List E):∀ {vs:List Value} {K:List C→R},zwL vs K=some y→∃ l,All2 (CR σ) l vs∧K l=some y
 | [],K,h=>⟨[],trivial,h⟩
 | v::vs,K,h=>by
  obtain⟨c,h1,h2⟩:=zji (K:=fun c=>zwL vs fun r=>K (c::r)) h;obtain⟨l,h3,h4⟩:=zry σ (vs:=vs) (K:=fun r=>K (c::r)) h2;exact⟨c::l,⟨C.ofV_s h1 σ,h3⟩,h4⟩
theorem ofV_s {v:Value} {K:V→R} {y:Out} (h:V.ofV v K=some y) (σ:List E) (nb:Nat):∃ x,(∃ w,(x = .c w∧CR σ w v∨∃ l cs,x = .ag l∧v = .agg cs∧All2 (CR σ) l cs.toList))∧VR σ nb x (zF0 v)∧K x=some y:=by
 unfold V.ofV at h;split at h
 ·rename_i cs;obtain⟨l,h1,h2⟩:=zry σ h;exact⟨.ag l,⟨.ni,.inr ⟨l,cs,rfl,rfl,h1⟩⟩,⟨cs.toList.map .v,h1.map fun _ _ h=>CR.sc h,rfl⟩,h2⟩
 ·rename_i hv;obtain⟨c,h1,h2⟩:=zji h;have h3:=C.ofV_s h1 σ
  refine⟨.c c,⟨c,.inl ⟨rfl,h3⟩⟩,.inl ⟨.v v,h3.sc,?_⟩,h2⟩;cases v<;>first|rfl|exact absurd rfl (hv _)
section
variable {σ:List E} {s:S} {t:St} {y:Out} {nb:Nat}
theorem z7 {x:Operand} {K:V→R} (h:ev s x K=some y) (hf:FR σ nb s t.fr) {k:SV→Prop} (hk:∀ v sv,v ≠ .dead→VR σ nb v sv→K v=some y→k sv):Vm.ev t x k:=by
 cases x with
 | tmp d=>
  obtain⟨v,h1,h2⟩:=zji (K:=K) h;obtain⟨h0,sv,h3,h4⟩:=hf d v h1;show evO (lk t.fr d) k
  rw[h3];have h5:=hk v sv h0 h4 h2
  cases sv with
  | dead=>
   exfalso;cases v with
   | c x=>rcases h4 with ⟨_,_,h⟩|⟨_,_,h⟩<;>cases h
   | ag l=>obtain⟨_,_,h⟩:=h4;cases h
   | fn g l=>rcases h4 with ⟨_,_,h⟩|⟨_,_,h⟩<;>cases h
   | tp l=>obtain⟨_,_,h⟩:=h4;cases h
   | sl j n=>cases h4.2
   | dead=>exact h0 rfl
  | _=>exact h5
 | const v=>
  obtain⟨x,⟨w,hx⟩,h1,h2⟩:=ofV_s (K:=K) h σ nb;refine hk x _ ?_ h1 h2;rintro rfl;rcases hx with ⟨h,_⟩|⟨_,_,h,_⟩<;>cases h
 | func f=>exact hk (.c (.f f)) _ (by simp) (.inl ⟨.v (.func (.func f) #[] #[]),CR.sc (c := .f f) rfl,rfl⟩) h
 | global g=>cases h
end
end Go.Vm.Rn
