/- Part of this proof;laid by program. -/
import Derived.Test.YtpnhjkiligohnaaGreatDoorJ15
import Derived.Test.YtpnhjkiligohnaaGreatDoorJ19
import Derived.Test.YtpnhjkiligohnaaGreatDoorJ9
import Derived.Sort.Walk0
import Derived.Shelf.Sort.Plain
import Derived.Shelf.Slices.In.SortNone
set_option linter.unusedVariables false
set_option linter.unusedSimpArgs false
namespace Go.Proofs.YtpnhjkiligohnaaGreatDoor
open Go Go.Vm
set_option maxRecDepth 20000
def zB:Rn.T Rn.FC := .n (.n (.n (.n (.n (.n (.n (.n (.n (.e) (some ⟨8,zk0,zk1⟩) (.e)) none (.e)) none (.e)) none (.n (.n (.n (.e) (some ⟨9,zda,zdb⟩) (.e)) (some ⟨12,zdZ,zd0⟩) (.e)) (some ⟨91,zgn,zgo⟩) (.n (.e) (some ⟨19,zbR,zbS⟩) (.e)))) none (.n (.n (.n (.n (.e) (some ⟨5,zqO,zqP⟩) (.e)) (some ⟨4,zmq,zmr⟩) (.e)) none (.n (.n (.e) (some ⟨7,zdJ,zdK⟩) (.e)) (some ⟨7,zfM,zfN⟩) (.e))) none (.n (.n (.n (.e) (some ⟨10,zav,zaw⟩) (.e)) (some ⟨8,zn2,zn3⟩) (.e)) (some ⟨3,zkQ,zkR⟩) (.n (.n (.e) (some ⟨10,zaG,zaH⟩) (.e)) none (.e))))) (some ⟨18,zjm,zjn⟩) (.n (.n (.n (.n (.n (.e) (some ⟨11,zjC,zjD⟩) (.e)) (some ⟨4,zn0,zn1⟩) (.e)) (some ⟨13,zhN,zhO⟩) (.n (.n (.e) (some ⟨6,zso,zsp⟩) (.e)) (some ⟨3,zc4,zc5⟩) (.e))) (some ⟨6,zhB,zhC⟩) (.n (.n (.n (.e) (some ⟨10,zan,zao⟩) (.e)) (some ⟨26,zse,zsf⟩) (.e)) (some ⟨6,zeH,zeI⟩) (.n (.e) (some ⟨5,zb8,zb9⟩) (.e)))) (some ⟨65,zme,zmf⟩) (.n (.n (.n (.e) (some ⟨13,zid,zie⟩) (.e)) (some ⟨3,zo8,zo9⟩) (.n (.e) (some ⟨9,zpa,zpb⟩) (.e))) (some ⟨12,zhD,zhE⟩) (.n (.e) none (.n (.n (.e) (some ⟨12,zd7,zd8⟩) (.e)) (some ⟨12,zqM,zqN⟩) (.e)))))) none (.n (.n (.n (.n (.n (.n (.e) (some ⟨2,zbh,zbi⟩) (.e)) (some ⟨3,zcD,zcE⟩) (.e)) none (.n (.n (.e) (some ⟨6,zk6,zk7⟩) (.e)) (some ⟨18,zeX,zeY⟩) (.e))) none (.n (.n (.n (.e) (some ⟨9,zfU,zfV⟩) (.e)) none (.e)) (some ⟨6,zhX,zhY⟩) (.n (.e) (some ⟨5,zn4,zn5⟩) (.e)))) none (.n (.n (.n (.e) (some ⟨8,zjw,zjx⟩) (.e)) none (.n (.e) (some ⟨52,zgJ,zgK⟩) (.e))) none (.e))) none (.n (.n (.n (.n (.e) (some ⟨14,zib,zic⟩) (.e)) (some ⟨66,zeB,zeC⟩) (.n (.n (.e) (some ⟨5,ziC,ziD⟩) (.e)) (some ⟨10,zqK,zqL⟩) (.e))) (some ⟨5,zkK,zkL⟩) (.n (.n (.e) (some ⟨46,zeV,zeW⟩) (.e)) (some ⟨12,zeJ,zeK⟩) (.n (.e) (some ⟨1,zbT,zbU⟩) (.e)))) none (.n (.n (.n (.e) (some ⟨10,zkW,zkX⟩) (.e)) (some ⟨17,zkM,zkN⟩) (.e)) (some ⟨10,zhH,zhI⟩) (.n (.n (.n (.e) (some ⟨11,ziA,ziB⟩) (.e)) none (.e)) (some ⟨13,zh7,zh8⟩) (.e)))))) none (.n (.n (.n (.n (.n (.n (.n (.e) (some ⟨11,ziq,zir⟩) (.e)) (some ⟨3,zmm,zmn⟩) (.e)) none (.n (.n (.e) (some ⟨4,zco,zcp⟩) (.e)) (some ⟨12,zqI,zqJ⟩) (.e))) none (.n (.n (.n (.e) (some ⟨6,ziu,ziv⟩) (.e)) none (.e)) (some ⟨3,zhV,zhW⟩) (.e))) (some ⟨14,zhz,zhA⟩) (.n (.n (.n (.e) (some ⟨4,zkS,zkT⟩) (.e)) none (.n (.n (.e) (some ⟨4,zcJ,zcK⟩) (.e)) (some ⟨1,zgF,zgG⟩) (.e))) none (.n (.e) (some ⟨21,zdv,zdw⟩) (.n (.e) (some ⟨21,zbb,zbc⟩) (.e))))) none (.n (.n (.n (.n (.n (.e) (some ⟨4,zdH,zdI⟩) (.e)) (some ⟨2,zgt,zgu⟩) (.e)) (some ⟨3,zhP,zhQ⟩) (.n (.n (.e) (some ⟨7,zn9,zoa⟩) (.e)) none (.e))) none (.n (.n (.e) (some ⟨5,zeR,zeS⟩) (.e)) (some ⟨3,zci,zcj⟩) (.n (.e) (some ⟨3,zcH,zcI⟩) (.e)))) none (.n (.n (.n (.e) (some ⟨42,zsc,zsd⟩) (.e)) (some ⟨4,zqr,zqs⟩) (.n (.e) (some ⟨5,zc6,zc7⟩) (.e))) (some ⟨4,zql,zqm⟩) (.n (.e) (some ⟨16,zgr,zgs⟩) (.e))))) none (.n (.n (.n (.n (.n (.e) (some ⟨37,zck,zcl⟩) (.e)) (some ⟨7,zr8,zr9⟩) (.n (.n (.e) (some ⟨10,zbx,zby⟩) (.e)) (some ⟨1,zdF,zdG⟩) (.e))) none (.n (.e) (some ⟨16,zeF,zeG⟩) (.n (.e) (some ⟨5,zd1,zd2⟩) (.e)))) (some ⟨5,zgl,zgm⟩) (.n (.n (.n (.e) (some ⟨4,zkU,zkV⟩) (.e)) (some ⟨30,zeD,zeE⟩) (.n (.e) (some ⟨4,zgL,zgM⟩) (.e))) none (.n (.e) none (.n (.e) (some ⟨8,zgN,zgO⟩) (.e))))) none (.n (.n (.n (.n (.n (.e) (some ⟨3,zfO,zfP⟩) (.e)) (some ⟨4,zju,zjv⟩) (.e)) (some ⟨6,zfA,zfB⟩) (.n (.n (.e) (some ⟨12,zqT,zqU⟩) (.e)) (some ⟨3,zsg,zsh⟩) (.e))) none (.n (.n (.e) (some ⟨12,zgz,zgA⟩) (.e)) (some ⟨5,zh3,zh4⟩) (.n (.e) (some ⟨5,zc8,zc9⟩) (.e)))) none (.n (.n (.n (.n (.e) (some ⟨3,zfS,zfT⟩) (.e)) none (.e)) (some ⟨15,zqt,zqu⟩) (.e)) (some ⟨7,zhL,zhM⟩) (.n (.n (.e) (some ⟨9,zil,zim⟩) (.e)) none (.n (.e) (some ⟨13,zkY,zkZ⟩) (.e)))))))) none (.n (.n (.n (.n (.n (.n (.n (.n (.e) (some ⟨13,zmy,zmz⟩) (.e)) (some ⟨7,zmk,zml⟩) (.e)) none (.e)) none (.n (.n (.n (.e) (some ⟨19,zbn,zbo⟩) (.e)) (some ⟨1,zdx,zdy⟩) (.e)) (some ⟨4,zdt,zdu⟩) (.n (.e) (some ⟨3,zjA,zjB⟩) (.e)))) none (.n (.n (.n (.n (.e) (some ⟨5,zfQ,zfR⟩) (.e)) (some ⟨2,zeL,zeM⟩) (.e)) none (.n (.n (.e) (some ⟨3,zmC,zmD⟩) (.e)) (some ⟨5,zgD,zgE⟩) (.e))) none (.n (.n (.e) (some ⟨2,zal,zam⟩) (.e)) (some ⟨9,zh5,zh6⟩) (.n (.e) (some ⟨21,zaP,zaQ⟩) (.e))))) none (.n (.n (.n (.n (.n (.e) (some ⟨3,zpi,zpj⟩) (.e)) (some ⟨5,zqz,zqA⟩) (.e)) (some ⟨58,zfy,zfz⟩) (.n (.n (.e) (some ⟨3,zjG,zjH⟩) (.e)) (some ⟨25,zjy,zjz⟩) (.e))) none (.n (.n (.e) (some ⟨6,zij,zik⟩) (.e)) (some ⟨4,zkO,zkP⟩) (.n (.e) (some ⟨8,zeZ,ze0⟩) (.e)))) none (.n (.n (.n (.e) (some ⟨4,zif,zig⟩) (.e)) (some ⟨5,zqp,zqq⟩) (.n (.n (.e) (some ⟨8,zaE,zaF⟩) (.e)) (some ⟨58,zpc,zpd⟩) (.e))) (some ⟨4,zqj,zqk⟩) (.n (.n (.n (.e) (some ⟨5,zqQ,zqR⟩) (.e)) none (.e)) none (.n (.e) (some ⟨25,zsk,zsl⟩) (.e)))))) none (.n (.n (.n (.n (.n (.e) (some ⟨52,zc0,zc1⟩) (.e)) (some ⟨7,zo6,zo7⟩) (.n (.n (.e) (some ⟨6,zmA,zmB⟩) (.e)) (some ⟨13,zdD,zdE⟩) (.e))) none (.n (.n (.n (.e) (some ⟨7,ziw,zix⟩) (.e)) (some ⟨4,zih,zii⟩) (.e)) (some ⟨3,zgp,zgq⟩) (.n (.e) (some ⟨5,zpg,zph⟩) (.e)))) none (.n (.n (.n (.e) (some ⟨5,zgx,zgy⟩) (.e)) none (.e)) none (.e))) none (.n (.n (.n (.n (.n (.e) (some ⟨77,zd3,zd4⟩) (.e)) (some ⟨66,zgv,zgw⟩) (.e)) (some ⟨63,zhT,zhU⟩) (.n (.n (.e) (some ⟨21,zbp,zbq⟩) (.e)) (some ⟨17,zmu,zmv⟩) (.e))) (some ⟨3,zmg,zmh⟩) (.n (.n (.e) (some ⟨11,zcm,zcn⟩) (.e)) (some ⟨10,zh1,zh2⟩) (.e))) none (.n (.n (.n (.e) (some ⟨5,zb4,zb5⟩) (.e)) (some ⟨4,zsa,zsb⟩) (.e)) (some ⟨44,zhJ,zhK⟩) (.n (.n (.n (.e) (some ⟨16,zfY,zfZ⟩) (.e)) (some ⟨31,zcF,zcG⟩) (.e)) none (.e)))))) none (.n (.n (.n (.n (.n (.n (.n (.e) (some ⟨4,zk2,zk3⟩) (.e)) (some ⟨3,zh9,zia⟩) (.e)) (some ⟨17,znW,znX⟩) (.n (.n (.e) (some ⟨6,zn6,zn7⟩) (.e)) none (.e))) none (.n (.e) (some ⟨28,zjq,zjr⟩) (.n (.n (.e) (some ⟨13,ziE,ziF⟩) (.e)) (some ⟨7,zpe,zpf⟩) (.e)))) none (.n (.n (.n (.n (.e) (some ⟨8,za3,za4⟩) (.e)) (some ⟨41,zqB,zqC⟩) (.e)) none (.n (.n (.e) (some ⟨5,zla,zlb⟩) (.e)) (some ⟨1,zgH,zgI⟩) (.e))) none (.n (.n (.e) (some ⟨2,zaN,zaO⟩) (.e)) (some ⟨11,zfC,zfD⟩) (.e)))) none (.n (.n (.n (.n (.n (.e) (some ⟨5,zjE,zjF⟩) (.e)) (some ⟨3,zfG,zfH⟩) (.e)) (some ⟨5,zhR,zhS⟩) (.n (.n (.e) (some ⟨5,zk8,zk9⟩) (.e)) (some ⟨3,zms,zmt⟩) (.e))) (some ⟨4,zjo,zjp⟩) (.n (.n (.e) (some ⟨41,zeT,zeU⟩) (.e)) (some ⟨24,zhZ,zh0⟩) (.n (.e) (some ⟨6,ze1,ze2⟩) (.e)))) none (.n (.n (.n (.e) (some ⟨11,zeN,zeO⟩) (.e)) (some ⟨25,znY,znZ⟩) (.n (.e) (some ⟨5,zb6,zb7⟩) (.e))) (some ⟨7,zhF,zhG⟩) (.n (.n (.e) (some ⟨14,zdB,zdC⟩) (.e)) (some ⟨29,zfE,zfF⟩) (.e))))) none (.n (.n (.n (.n (.n (.n (.e) (some ⟨17,zsm,zsn⟩) (.e)) (some ⟨4,zc2,zc3⟩) (.e)) (some ⟨71,zqn,zqo⟩) (.n (.e) (some ⟨14,zfI,zfJ⟩) (.e))) (some ⟨126,zqh,zqi⟩) (.n (.n (.e) (some ⟨3,zdz,zdA⟩) (.e)) (some ⟨11,zmi,zmj⟩) (.n (.e) (some ⟨4,zin,zio⟩) (.e)))) (some ⟨10,zkI,zkJ⟩) (.n (.n (.e) none (.n (.e) (some ⟨7,zsi,zsj⟩) (.e))) (some ⟨5,znU,znV⟩) (.n (.n (.e) (some ⟨3,zgB,zgC⟩) (.e)) none (.n (.e) (some ⟨3,ze3,ze4⟩) (.e))))) (some ⟨25,zmc,zmd⟩) (.n (.n (.n (.n (.n (.e) (some ⟨4,zk4,zk5⟩) (.e)) (some ⟨23,zmo,zmp⟩) (.e)) none (.n (.n (.e) (some ⟨7,ze5,ze6⟩) (.e)) (some ⟨4,zfK,zfL⟩) (.e))) none (.n (.e) (some ⟨12,zjs,zjt⟩) (.e))) none (.n (.n (.n (.n (.e) (some ⟨6,zd5,zd6⟩) (.e)) (some ⟨30,zeP,zeQ⟩) (.e)) (some ⟨1,zqv,zqw⟩) (.n (.e) (some ⟨8,zmw,zmx⟩) (.e))) (some ⟨3,zcB,zcC⟩) (.n (.e) none (.n (.e) (some ⟨9,zgP,zgQ⟩) (.e))))))))
theorem zAw:Rn.Worth Tryz.prog F.zmH ⟨44,zhJ,zhK⟩:=fun hn h=>zyc (Nat.le_trans hn (by decide)) h
theorem zCw:Rn.Worth Tryz.prog F.za1 ⟨18,zjm,zjn⟩:=fun hn h=>zzQ (Nat.le_trans hn (by decide)) h
theorem zFN:Rn.Worth Tryz.prog F.zfh ⟨25,zmc,zmd⟩:=fun hn h=>zDp (Nat.le_trans hn (by decide)) h
theorem zAx:Rn.Worth Tryz.prog F.zcO ⟨14,zhz,zhA⟩:=fun hn h=>zxV (Nat.le_trans hn (by decide)) h
theorem zyX:Rn.Worth Tryz.prog F.zln ⟨5,zgl,zgm⟩:=fun hn h=>zwe (Nat.le_trans hn (by decide)) h
theorem zD9:Rn.Worth Tryz.prog F.zcP ⟨10,zkI,zkJ⟩:=fun hn h=>zBP (Nat.le_trans hn (by decide)) h
theorem zFO:Rn.Worth Tryz.prog F.zpO ⟨65,zme,zmf⟩:=fun hn h=>zDs (Nat.le_trans hn (by decide)) h
theorem zKT:Rn.Worth Tryz.prog F.zt5 ⟨126,zqh,zqi⟩:=fun hn h=>zIB (Nat.le_trans hn (by decide)) h
theorem zAy:Rn.Worth Tryz.prog F.zmG ⟨6,zhB,zhC⟩:=fun hn h=>zx6 (Nat.le_trans hn (by decide)) h
theorem zCx:Rn.Worth Tryz.prog F.zce ⟨4,zjo,zjp⟩:=fun hn h=>zzX (Nat.le_trans hn (by decide)) h
theorem zEa:Rn.Worth Tryz.prog F.zcQ ⟨5,zkK,zkL⟩:=fun hn h=>zBQ (Nat.le_trans hn (by decide)) h
theorem zFP:Rn.Worth Tryz.prog F.zdL ⟨3,zmg,zmh⟩:=fun hn h=>zDx (Nat.le_trans hn (by decide)) h
theorem zHV:Rn.Worth Tryz.prog F.znL ⟨5,znU,znV⟩:=fun hn h=>zFp (Nat.le_trans hn (by decide)) h
theorem zAz:Rn.Worth Tryz.prog F.zeh ⟨12,zhD,zhE⟩:=fun hn h=>zx9 (Nat.le_trans hn (by decide)) h
theorem zKU:Rn.Worth Tryz.prog F.zt6 ⟨4,zqj,zqk⟩:=fun hn h=>zIC (Nat.le_trans hn (by decide)) h
theorem zKV:Rn.Worth Tryz.prog F.zt7 ⟨4,zql,zqm⟩:=fun hn h=>zID (Nat.le_trans hn (by decide)) h
theorem zAA:Rn.Worth Tryz.prog F.zho ⟨7,zhF,zhG⟩:=fun hn h=>zya (Nat.le_trans hn (by decide)) h
theorem zAB:Rn.Worth Tryz.prog F.zk ⟨10,zhH,zhI⟩:=fun hn h=>zyb (Nat.le_trans hn (by decide)) h
theorem zAC:Rn.Worth Tryz.prog F.zmI ⟨7,zhL,zhM⟩:=fun hn h=>zyd (Nat.le_trans hn (by decide)) h
theorem zrV:Rn.Worth Tryz.prog F.zcA ⟨3,zcB,zcC⟩:=fun hn h=>zrr (Nat.le_trans hn (by decide)) h
theorem zHW:Rn.Worth Tryz.prog F.zgW ⟨17,znW,znX⟩:=fun hn h=>zFq (Nat.le_trans hn (by decide)) h
theorem zIW:Rn.Worth Tryz.prog F.zlQ ⟨7,zo6,zo7⟩:=fun hn h=>zG9 (Nat.le_trans hn (by decide)) h
theorem zNs:Rn.Worth Tryz.prog F.zfr ⟨7,zr8,zr9⟩:=fun hn h=>zJ4 (Nat.le_trans hn (by decide)) h
theorem zKW:Rn.Worth Tryz.prog F.zt8 ⟨71,zqn,zqo⟩:=fun hn h=>zIG (Nat.le_trans hn (by decide)) h
theorem zAD:Rn.Worth Tryz.prog F.zhp ⟨13,zhN,zhO⟩:=fun hn h=>zye (Nat.le_trans hn (by decide)) h
theorem zwX:Rn.Worth Tryz.prog F.za8 ⟨58,zfy,zfz⟩:=fun hn h=>zu3 (Nat.le_trans hn (by decide)) h
theorem zAE:Rn.Worth Tryz.prog F.zmJ ⟨3,zhP,zhQ⟩:=fun hn h=>zyf (Nat.le_trans hn (by decide)) h
theorem zAF:Rn.Worth Tryz.prog F.zmK ⟨5,zhR,zhS⟩:=fun hn h=>zyg (Nat.le_trans hn (by decide)) h
theorem zvm:Rn.Worth Tryz.prog F.zi3 ⟨66,zeB,zeC⟩:=fun hn h=>zun (Nat.le_trans hn (by decide)) h
theorem zAG:Rn.Worth Tryz.prog F.zl ⟨63,zhT,zhU⟩:=fun hn h=>zyh (Nat.le_trans hn (by decide)) h
theorem zwY:Rn.Worth Tryz.prog F.zj5 ⟨6,zfA,zfB⟩:=fun hn h=>zu4 (Nat.le_trans hn (by decide)) h
theorem zvn:Rn.Worth Tryz.prog F.zex ⟨30,zeD,zeE⟩:=fun hn h=>zuo (Nat.le_trans hn (by decide)) h
theorem zIX:Rn.Worth Tryz.prog F.za2 ⟨3,zo8,zo9⟩:=fun hn h=>zHa (Nat.le_trans hn (by decide)) h
theorem zKX:Rn.Worth Tryz.prog F.zdW ⟨5,zqp,zqq⟩:=fun hn h=>zIH (Nat.le_trans hn (by decide)) h
theorem zKY:Rn.Worth Tryz.prog F.zqe ⟨4,zqr,zqs⟩:=fun hn h=>zII (Nat.le_trans hn (by decide)) h
theorem zHX:Rn.Worth Tryz.prog F.zrj ⟨25,znY,znZ⟩:=fun hn h=>zFr (Nat.le_trans hn (by decide)) h
theorem zEb:Rn.Worth Tryz.prog F.zoD ⟨17,zkM,zkN⟩:=fun hn h=>zBV (Nat.le_trans hn (by decide)) h
theorem zNt:Rn.Worth Tryz.prog F.zvS ⟨4,zsa,zsb⟩:=fun hn h=>zJ5 (Nat.le_trans hn (by decide)) h
theorem zKZ:Rn.Worth Tryz.prog F.zt9 ⟨15,zqt,zqu⟩:=fun hn h=>zIJ (Nat.le_trans hn (by decide)) h
theorem zK0:Rn.Worth Tryz.prog F.zua ⟨1,zqv,zqw⟩:=fun hn h=>zIK (Nat.le_trans hn (by decide)) h
theorem zyY:Rn.Worth Tryz.prog F.zbI ⟨91,zgn,zgo⟩:=fun hn h=>zwh (Nat.le_trans hn (by decide)) h
theorem ztI:Rn.Worth Tryz.prog F.zgX ⟨4,zdt,zdu⟩:=fun hn h=>zsI (Nat.le_trans hn (by decide)) h
theorem zAH:Rn.Worth Tryz.prog F.zmL ⟨3,zhV,zhW⟩:=fun hn h=>zyq (Nat.le_trans hn (by decide)) h
theorem zCy:Rn.Worth Tryz.prog F.znM ⟨28,zjq,zjr⟩:=fun hn h=>zz0 (Nat.le_trans hn (by decide)) h
theorem zAI:Rn.Worth Tryz.prog F.zmM ⟨6,zhX,zhY⟩:=fun hn h=>zyr (Nat.le_trans hn (by decide)) h
theorem zyZ:Rn.Worth Tryz.prog F.zbJ ⟨3,zgp,zgq⟩:=fun hn h=>zwi (Nat.le_trans hn (by decide)) h
theorem zvo:Rn.Worth Tryz.prog F.zi4 ⟨16,zeF,zeG⟩:=fun hn h=>zup (Nat.le_trans hn (by decide)) h
theorem zFQ:Rn.Worth Tryz.prog F.zpP ⟨11,zmi,zmj⟩:=fun hn h=>zDC (Nat.le_trans hn (by decide)) h
theorem zvp:Rn.Worth Tryz.prog F.zi5 ⟨6,zeH,zeI⟩:=fun hn h=>zuq (Nat.le_trans hn (by decide)) h
theorem zEc:Rn.Worth Tryz.prog F.zoE ⟨4,zkO,zkP⟩:=fun hn h=>zBW (Nat.le_trans hn (by decide)) h
theorem zrD:Rn.Worth Tryz.prog F.zat ⟨3,zci,zcj⟩:=fun hn h=>zqx (Nat.le_trans hn (by decide)) h
theorem zAJ:Rn.Worth Tryz.prog F.zmN ⟨24,zhZ,zh0⟩:=fun hn h=>zys (Nat.le_trans hn (by decide)) h
theorem zvq:Rn.Worth Tryz.prog F.zi6 ⟨12,zeJ,zeK⟩:=fun hn h=>zur (Nat.le_trans hn (by decide)) h
theorem zAK:Rn.Worth Tryz.prog F.zcR ⟨10,zh1,zh2⟩:=fun hn h=>zyt (Nat.le_trans hn (by decide)) h
theorem zAL:Rn.Worth Tryz.prog F.zmO ⟨5,zh3,zh4⟩:=fun hn h=>zyu (Nat.le_trans hn (by decide)) h
theorem zCz:Rn.Worth Tryz.prog F.znN ⟨12,zjs,zjt⟩:=fun hn h=>zz1 (Nat.le_trans hn (by decide)) h
theorem zEd:Rn.Worth Tryz.prog F.zkC ⟨3,zkQ,zkR⟩:=fun hn h=>zBX (Nat.le_trans hn (by decide)) h
theorem zAM:Rn.Worth Tryz.prog F.zei ⟨9,zh5,zh6⟩:=fun hn h=>zyv (Nat.le_trans hn (by decide)) h
theorem ztJ:Rn.Worth Tryz.prog F.zgY ⟨21,zdv,zdw⟩:=fun hn h=>zsJ (Nat.le_trans hn (by decide)) h
theorem zwZ:Rn.Worth Tryz.prog F.zj6 ⟨11,zfC,zfD⟩:=fun hn h=>zu7 (Nat.le_trans hn (by decide)) h
theorem zy0:Rn.Worth Tryz.prog F.zcs ⟨16,zgr,zgs⟩:=fun hn h=>zwl (Nat.le_trans hn (by decide)) h
theorem zw0:Rn.Worth Tryz.prog F.zdg ⟨29,zfE,zfF⟩:=fun hn h=>zva (Nat.le_trans hn (by decide)) h
theorem zAN:Rn.Worth Tryz.prog F.zej ⟨13,zh7,zh8⟩:=fun hn h=>zyy (Nat.le_trans hn (by decide)) h
theorem zFR:Rn.Worth Tryz.prog F.zfi ⟨7,zmk,zml⟩:=fun hn h=>zDD (Nat.le_trans hn (by decide)) h
theorem zFS:Rn.Worth Tryz.prog F.zfj ⟨3,zmm,zmn⟩:=fun hn h=>zDE (Nat.le_trans hn (by decide)) h
theorem zAO:Rn.Worth Tryz.prog F.zcS ⟨3,zh9,zia⟩:=fun hn h=>zyz (Nat.le_trans hn (by decide)) h
theorem zrW:Rn.Worth Tryz.prog F.zfd ⟨3,zcD,zcE⟩:=fun hn h=>zrs (Nat.le_trans hn (by decide)) h
theorem zs3:Rn.Worth Tryz.prog F.zf1 ⟨52,zc0,zc1⟩:=fun hn h=>zrL (Nat.le_trans hn (by decide)) h
theorem zrE:Rn.Worth Tryz.prog F.zek ⟨37,zck,zcl⟩:=fun hn h=>zqy (Nat.le_trans hn (by decide)) h
theorem zs4:Rn.Worth Tryz.prog F.zf2 ⟨4,zc2,zc3⟩:=fun hn h=>zrM (Nat.le_trans hn (by decide)) h
theorem zHY:Rn.Worth Tryz.prog F.zrl ⟨4,zn0,zn1⟩:=fun hn h=>zFs (Nat.le_trans hn (by decide)) h
theorem zK1:Rn.Worth Tryz.prog F.zub ⟨5,zqz,zqA⟩:=fun hn h=>zIL (Nat.le_trans hn (by decide)) h
theorem zy1:Rn.Worth Tryz.prog F.zdR ⟨2,zgt,zgu⟩:=fun hn h=>zwm (Nat.le_trans hn (by decide)) h
theorem zw1:Rn.Worth Tryz.prog F.zfs ⟨3,zfG,zfH⟩:=fun hn h=>zvb (Nat.le_trans hn (by decide)) h
theorem zAP:Rn.Worth Tryz.prog F.zmP ⟨14,zib,zic⟩:=fun hn h=>zyA (Nat.le_trans hn (by decide)) h
theorem zy2:Rn.Worth Tryz.prog F.zlo ⟨66,zgv,zgw⟩:=fun hn h=>zwn (Nat.le_trans hn (by decide)) h
theorem zCA:Rn.Worth Tryz.prog F.znO ⟨4,zju,zjv⟩:=fun hn h=>zz6 (Nat.le_trans hn (by decide)) h
theorem zFT:Rn.Worth Tryz.prog F.zpQ ⟨23,zmo,zmp⟩:=fun hn h=>zDF (Nat.le_trans hn (by decide)) h
theorem zFU:Rn.Worth Tryz.prog F.zpR ⟨4,zmq,zmr⟩:=fun hn h=>zDG (Nat.le_trans hn (by decide)) h
theorem zvr:Rn.Worth Tryz.prog F.zi7 ⟨2,zeL,zeM⟩:=fun hn h=>zus (Nat.le_trans hn (by decide)) h
theorem zEe:Rn.Worth Tryz.prog F.zoF ⟨4,zkS,zkT⟩:=fun hn h=>zB0 (Nat.le_trans hn (by decide)) h
theorem zK2:Rn.Worth Tryz.prog F.zcf ⟨41,zqB,zqC⟩:=fun hn h=>zIM (Nat.le_trans hn (by decide)) h
theorem zCB:Rn.Worth Tryz.prog F.zft ⟨8,zjw,zjx⟩:=fun hn h=>zz7 (Nat.le_trans hn (by decide)) h
theorem zy3:Rn.Worth Tryz.prog F.zlp ⟨5,zgx,zgy⟩:=fun hn h=>zwo (Nat.le_trans hn (by decide)) h
theorem zEf:Rn.Worth Tryz.prog F.zoG ⟨4,zkU,zkV⟩:=fun hn h=>zB1 (Nat.le_trans hn (by decide)) h
theorem zAQ:Rn.Worth Tryz.prog F.zmQ ⟨13,zid,zie⟩:=fun hn h=>zyB (Nat.le_trans hn (by decide)) h
theorem zAR:Rn.Worth Tryz.prog F.zba ⟨4,zif,zig⟩:=fun hn h=>zyC (Nat.le_trans hn (by decide)) h
theorem zNu:Rn.Worth Tryz.prog F.zvU ⟨42,zsc,zsd⟩:=fun hn h=>zJ6 (Nat.le_trans hn (by decide)) h
theorem zvs:Rn.Worth Tryz.prog F.zi8 ⟨11,zeN,zeO⟩:=fun hn h=>zut (Nat.le_trans hn (by decide)) h
theorem zEg:Rn.Worth Tryz.prog F.zoH ⟨10,zkW,zkX⟩:=fun hn h=>zB2 (Nat.le_trans hn (by decide)) h
theorem zqY:Rn.Worth Tryz.prog F.zdX ⟨5,zb4,zb5⟩:=fun hn h=>zpX (Nat.le_trans hn (by decide)) h
theorem zvt:Rn.Worth Tryz.prog F.zi9 ⟨30,zeP,zeQ⟩:=fun hn h=>zuu (Nat.le_trans hn (by decide)) h
theorem zuO:Rn.Worth Tryz.prog F.zhq ⟨12,zdZ,zd0⟩:=fun hn h=>ztq (Nat.le_trans hn (by decide)) h
theorem ztK:Rn.Worth Tryz.prog F.zdq ⟨1,zdx,zdy⟩:=fun hn h=>zsK (Nat.le_trans hn (by decide)) h
theorem zAS:Rn.Worth Tryz.prog F.zel ⟨4,zih,zii⟩:=fun hn h=>zyF (Nat.le_trans hn (by decide)) h
theorem ztL:Rn.Worth Tryz.prog F.zb0 ⟨3,zdz,zdA⟩:=fun hn h=>zsL (Nat.le_trans hn (by decide)) h
theorem zNv:Rn.Worth Tryz.prog F.zvV ⟨26,zse,zsf⟩:=fun hn h=>zJ7 (Nat.le_trans hn (by decide)) h
theorem zAT:Rn.Worth Tryz.prog F.zmR ⟨6,zij,zik⟩:=fun hn h=>zyG (Nat.le_trans hn (by decide)) h
theorem zvu:Rn.Worth Tryz.prog F.zey ⟨5,zeR,zeS⟩:=fun hn h=>zuv (Nat.le_trans hn (by decide)) h
theorem zvv:Rn.Worth Tryz.prog F.zez ⟨41,zeT,zeU⟩:=fun hn h=>zuw (Nat.le_trans hn (by decide)) h
theorem zvw:Rn.Worth Tryz.prog F.zeA ⟨46,zeV,zeW⟩:=fun hn h=>zux (Nat.le_trans hn (by decide)) h
theorem zrF:Rn.Worth Tryz.prog F.zem ⟨11,zcm,zcn⟩:=fun hn h=>zqD (Nat.le_trans hn (by decide)) h
theorem zy4:Rn.Worth Tryz.prog F.zct ⟨12,zgz,zgA⟩:=fun hn h=>zwp (Nat.le_trans hn (by decide)) h
theorem zHZ:Rn.Worth Tryz.prog F.zrn ⟨8,zn2,zn3⟩:=fun hn h=>zFt (Nat.le_trans hn (by decide)) h
theorem zhe:Rn.Worth Tryz.prog F.za6 ⟨2,zal,zam⟩:=fun hn h=>zg4 (Nat.le_trans hn (by decide)) h
theorem zli:Rn.Worth Tryz.prog F.zbD ⟨2,zaN,zaO⟩:=fun hn h=>zkf (Nat.le_trans hn (by decide)) h
theorem zy5:Rn.Worth Tryz.prog F.zlq ⟨3,zgB,zgC⟩:=fun hn h=>zws (Nat.le_trans hn (by decide)) h
theorem ztM:Rn.Worth Tryz.prog F.zdr ⟨14,zdB,zdC⟩:=fun hn h=>zsM (Nat.le_trans hn (by decide)) h
theorem zrX:Rn.Worth Tryz.prog F.zfe ⟨31,zcF,zcG⟩:=fun hn h=>zrv (Nat.le_trans hn (by decide)) h
theorem zAU:Rn.Worth Tryz.prog F.zeo ⟨9,zil,zim⟩:=fun hn h=>zyH (Nat.le_trans hn (by decide)) h
theorem zK3:Rn.Worth Tryz.prog F.zud ⟨12,zqI,zqJ⟩:=fun hn h=>zIN (Nat.le_trans hn (by decide)) h
theorem zvx:Rn.Worth Tryz.prog F.zcM ⟨18,zeX,zeY⟩:=fun hn h=>zuA (Nat.le_trans hn (by decide)) h
theorem ztN:Rn.Worth Tryz.prog F.zaY ⟨13,zdD,zdE⟩:=fun hn h=>zsN (Nat.le_trans hn (by decide)) h
theorem ztO:Rn.Worth Tryz.prog F.zds ⟨1,zdF,zdG⟩:=fun hn h=>zsO (Nat.le_trans hn (by decide)) h
theorem zw2:Rn.Worth Tryz.prog F.zj7 ⟨14,zfI,zfJ⟩:=fun hn h=>zve (Nat.le_trans hn (by decide)) h
theorem zs5:Rn.Worth Tryz.prog F.zf3 ⟨3,zc4,zc5⟩:=fun hn h=>zrN (Nat.le_trans hn (by decide)) h
theorem zCC:Rn.Worth Tryz.prog F.znP ⟨25,zjy,zjz⟩:=fun hn h=>zAa (Nat.le_trans hn (by decide)) h
theorem zFV:Rn.Worth Tryz.prog F.zfk ⟨3,zms,zmt⟩:=fun hn h=>zDL (Nat.le_trans hn (by decide)) h
theorem zK4:Rn.Worth Tryz.prog F.zcg ⟨10,zqK,zqL⟩:=fun hn h=>zIO (Nat.le_trans hn (by decide)) h
theorem zFW:Rn.Worth Tryz.prog F.zpS ⟨17,zmu,zmv⟩:=fun hn h=>zDM (Nat.le_trans hn (by decide)) h
theorem zNw:Rn.Worth Tryz.prog F.zvY ⟨3,zsg,zsh⟩:=fun hn h=>zKa (Nat.le_trans hn (by decide)) h
theorem zw3:Rn.Worth Tryz.prog F.zj8 ⟨4,zfK,zfL⟩:=fun hn h=>zvf (Nat.le_trans hn (by decide)) h
theorem zw4:Rn.Worth Tryz.prog F.zj9 ⟨7,zfM,zfN⟩:=fun hn h=>zvg (Nat.le_trans hn (by decide)) h
theorem zy6:Rn.Worth Tryz.prog F.zlr ⟨5,zgD,zgE⟩:=fun hn h=>zwv (Nat.le_trans hn (by decide)) h
theorem zy7:Rn.Worth Tryz.prog F.zdS ⟨1,zgF,zgG⟩:=fun hn h=>zww (Nat.le_trans hn (by decide)) h
theorem zy8:Rn.Worth Tryz.prog F.zgi ⟨1,zgH,zgI⟩:=fun hn h=>zwx (Nat.le_trans hn (by decide)) h
theorem zy9:Rn.Worth Tryz.prog F.zls ⟨52,zgJ,zgK⟩:=fun hn h=>zwy (Nat.le_trans hn (by decide)) h
theorem zza:Rn.Worth Tryz.prog F.zlt ⟨4,zgL,zgM⟩:=fun hn h=>zwz (Nat.le_trans hn (by decide)) h
theorem zNx:Rn.Worth Tryz.prog F.zpp ⟨7,zsi,zsj⟩:=fun hn h=>zKb (Nat.le_trans hn (by decide)) h
theorem zIY:Rn.Worth Tryz.prog F.zlR ⟨9,zpa,zpb⟩:=fun hn h=>zHd (Nat.le_trans hn (by decide)) h
theorem zIZ:Rn.Worth Tryz.prog F.zo4 ⟨58,zpc,zpd⟩:=fun hn h=>zHe (Nat.le_trans hn (by decide)) h
theorem zs6:Rn.Worth Tryz.prog F.zf4 ⟨5,zc6,zc7⟩:=fun hn h=>zrO (Nat.le_trans hn (by decide)) h
theorem zqZ:Rn.Worth Tryz.prog F.zdY ⟨5,zb6,zb7⟩:=fun hn h=>zpY (Nat.le_trans hn (by decide)) h
theorem zFX:Rn.Worth Tryz.prog F.ziK ⟨8,zmw,zmx⟩:=fun hn h=>zDN (Nat.le_trans hn (by decide)) h
theorem zpG:Rn.Worth Tryz.prog F.za9 ⟨19,zbR,zbS⟩:=fun hn h=>zoL (Nat.le_trans hn (by decide)) h
theorem zCD:Rn.Worth Tryz.prog F.zbQ ⟨3,zjA,zjB⟩:=fun hn h=>zAb (Nat.le_trans hn (by decide)) h
theorem zI0:Rn.Worth Tryz.prog F.zo5 ⟨7,zpe,zpf⟩:=fun hn h=>zHf (Nat.le_trans hn (by decide)) h
theorem zH0:Rn.Worth Tryz.prog F.zep ⟨5,zn4,zn5⟩:=fun hn h=>zFA (Nat.le_trans hn (by decide)) h
theorem zI1:Rn.Worth Tryz.prog F.zlT ⟨5,zpg,zph⟩:=fun hn h=>zHg (Nat.le_trans hn (by decide)) h
theorem zuP:Rn.Worth Tryz.prog F.zhr ⟨5,zd1,zd2⟩:=fun hn h=>ztv (Nat.le_trans hn (by decide)) h
theorem zAV:Rn.Worth Tryz.prog F.zeq ⟨4,zin,zio⟩:=fun hn h=>zyK (Nat.le_trans hn (by decide)) h
theorem zq0:Rn.Worth Tryz.prog F.zbm ⟨5,zb8,zb9⟩:=fun hn h=>zpZ (Nat.le_trans hn (by decide)) h
theorem zvy:Rn.Worth Tryz.prog F.zcN ⟨8,zeZ,ze0⟩:=fun hn h=>zuB (Nat.le_trans hn (by decide)) h
theorem zrY:Rn.Worth Tryz.prog F.zbF ⟨3,zcH,zcI⟩:=fun hn h=>zrw (Nat.le_trans hn (by decide)) h
theorem zvz:Rn.Worth Tryz.prog F.zja ⟨6,ze1,ze2⟩:=fun hn h=>zuC (Nat.le_trans hn (by decide)) h
theorem zpH:Rn.Worth Tryz.prog F.zdi ⟨1,zbT,zbU⟩:=fun hn h=>zoM (Nat.le_trans hn (by decide)) h
theorem zs7:Rn.Worth Tryz.prog F.zaL ⟨5,zc8,zc9⟩:=fun hn h=>zrP (Nat.le_trans hn (by decide)) h
theorem zlj:Rn.Worth Tryz.prog F.zak ⟨21,zaP,zaQ⟩:=fun hn h=>zkg (Nat.le_trans hn (by decide)) h
theorem zm4:Rn.Worth Tryz.prog F.zau ⟨21,zbb,zbc⟩:=fun hn h=>zlX (Nat.le_trans hn (by decide)) h
theorem zzb:Rn.Worth Tryz.prog F.zbK ⟨8,zgN,zgO⟩:=fun hn h=>zwA (Nat.le_trans hn (by decide)) h
theorem zvA:Rn.Worth Tryz.prog F.zbj ⟨3,ze3,ze4⟩:=fun hn h=>zuD (Nat.le_trans hn (by decide)) h
theorem zK5:Rn.Worth Tryz.prog F.zbY ⟨12,zqM,zqN⟩:=fun hn h=>zIP (Nat.le_trans hn (by decide)) h
theorem zNy:Rn.Worth Tryz.prog F.zna ⟨25,zsk,zsl⟩:=fun hn h=>zKc (Nat.le_trans hn (by decide)) h
theorem zEh:Rn.Worth Tryz.prog F.zoI ⟨13,zkY,zkZ⟩:=fun hn h=>zB7 (Nat.le_trans hn (by decide)) h
theorem zzc:Rn.Worth Tryz.prog F.zgj ⟨9,zgP,zgQ⟩:=fun hn h=>zwB (Nat.le_trans hn (by decide)) h
theorem zEi:Rn.Worth Tryz.prog F.zoJ ⟨8,zk0,zk1⟩:=fun hn h=>zB8 (Nat.le_trans hn (by decide)) h
theorem zFY:Rn.Worth Tryz.prog F.zpT ⟨13,zmy,zmz⟩:=fun hn h=>zDO (Nat.le_trans hn (by decide)) h
theorem zAW:Rn.Worth Tryz.prog F.zmS ⟨11,ziq,zir⟩:=fun hn h=>zyN (Nat.le_trans hn (by decide)) h
theorem zEj:Rn.Worth Tryz.prog F.zkD ⟨4,zk2,zk3⟩:=fun hn h=>zB9 (Nat.le_trans hn (by decide)) h
theorem znB:Rn.Worth Tryz.prog F.zca ⟨2,zbh,zbi⟩:=fun hn h=>zmX (Nat.le_trans hn (by decide)) h
theorem zNz:Rn.Worth Tryz.prog F.zr5 ⟨17,zsm,zsn⟩:=fun hn h=>zKf (Nat.le_trans hn (by decide)) h
theorem zCE:Rn.Worth Tryz.prog F.znQ ⟨11,zjC,zjD⟩:=fun hn h=>zAc (Nat.le_trans hn (by decide)) h
theorem zI2:Rn.Worth Tryz.prog F.zsF ⟨3,zpi,zpj⟩:=fun hn h=>zHl (Nat.le_trans hn (by decide)) h
theorem ztP:Rn.Worth Tryz.prog F.zg0 ⟨4,zdH,zdI⟩:=fun hn h=>zsV (Nat.le_trans hn (by decide)) h
theorem zCF:Rn.Worth Tryz.prog F.zjj ⟨5,zjE,zjF⟩:=fun hn h=>zAd (Nat.le_trans hn (by decide)) h
theorem zuQ:Rn.Worth Tryz.prog F.zhs ⟨77,zd3,zd4⟩:=fun hn h=>zty (Nat.le_trans hn (by decide)) h
theorem zw5:Rn.Worth Tryz.prog F.zfu ⟨3,zfO,zfP⟩:=fun hn h=>zvh (Nat.le_trans hn (by decide)) h
theorem zEk:Rn.Worth Tryz.prog F.zed ⟨4,zk4,zk5⟩:=fun hn h=>zCa (Nat.le_trans hn (by decide)) h
theorem zK6:Rn.Worth Tryz.prog F.zuf ⟨5,zqO,zqP⟩:=fun hn h=>zIS (Nat.le_trans hn (by decide)) h
theorem zw6:Rn.Worth Tryz.prog F.zka ⟨5,zfQ,zfR⟩:=fun hn h=>zvi (Nat.le_trans hn (by decide)) h
theorem zl5:Rn.Worth Tryz.prog F.zbV ⟨8,za3,za4⟩:=fun hn h=>zly (Nat.le_trans hn (by decide)) h
theorem zsr:Rn.Worth Tryz.prog F.zY ⟨3,zfS,zfT⟩:=fun hn h=>zAe (Nat.le_trans hn (by decide)) h
theorem zuR:Rn.Worth Tryz.prog F.zhu ⟨6,zd5,zd6⟩:=fun hn h=>ztz (Nat.le_trans hn (by decide)) h
theorem zs8:Rn.Worth Tryz.prog F.zf5 ⟨9,zda,zdb⟩:=fun hn h=>zrQ (Nat.le_trans hn (by decide)) h
theorem zof:Rn.Worth Tryz.prog F.zaB ⟨19,zbn,zbo⟩:=fun hn h=>znn (Nat.le_trans hn (by decide)) h
theorem zAX:Rn.Worth Tryz.prog F.zer ⟨6,ziu,ziv⟩:=fun hn h=>zyQ (Nat.le_trans hn (by decide)) h
theorem zw7:Rn.Worth Tryz.prog F.zfv ⟨9,zfU,zfV⟩:=fun hn h=>zvj (Nat.le_trans hn (by decide)) h
theorem zAY:Rn.Worth Tryz.prog F.zhv ⟨7,ziw,zix⟩:=fun hn h=>zyR (Nat.le_trans hn (by decide)) h
theorem zhf:Rn.Worth Tryz.prog F.za7 ⟨10,zan,zao⟩:=fun hn h=>zg5 (Nat.le_trans hn (by decide)) h
theorem zjh:Rn.Worth Tryz.prog F.zbk ⟨10,zav,zaw⟩:=fun hn h=>ziR (Nat.le_trans hn (by decide)) h
theorem zK7:Rn.Worth Tryz.prog F.zqg ⟨5,zqQ,zqR⟩:=fun hn h=>zIT (Nat.le_trans hn (by decide)) h
theorem zAZ:Rn.Worth Tryz.prog F.zet ⟨11,ziA,ziB⟩:=fun hn h=>zyS (Nat.le_trans hn (by decide)) h
theorem zw8:Rn.Worth Tryz.prog F.zdj ⟨16,zfY,zfZ⟩:=fun hn h=>zvk (Nat.le_trans hn (by decide)) h
theorem zrG:Rn.Worth Tryz.prog F.zaZ ⟨4,zco,zcp⟩:=fun hn h=>zqS (Nat.le_trans hn (by decide)) h
theorem zH1:Rn.Worth Tryz.prog F.znR ⟨6,zn6,zn7⟩:=fun hn h=>zFF (Nat.le_trans hn (by decide)) h
theorem zEl:Rn.Worth Tryz.prog F.zkE ⟨6,zk6,zk7⟩:=fun hn h=>zCj (Nat.le_trans hn (by decide)) h
theorem zFZ:Rn.Worth Tryz.prog F.ziN ⟨6,zmA,zmB⟩:=fun hn h=>zDT (Nat.le_trans hn (by decide)) h
theorem zow:Rn.Worth Tryz.prog F.zcv ⟨10,zbx,zby⟩:=fun hn h=>zn8 (Nat.le_trans hn (by decide)) h
theorem zNA:Rn.Worth Tryz.prog F.zr7 ⟨6,zso,zsp⟩:=fun hn h=>zKi (Nat.le_trans hn (by decide)) h
theorem zCG:Rn.Worth Tryz.prog F.zfx ⟨3,zjG,zjH⟩:=fun hn h=>zAj (Nat.le_trans hn (by decide)) h
theorem zH2:Rn.Worth Tryz.prog F.zro ⟨7,zn9,zoa⟩:=fun hn h=>zFG (Nat.le_trans hn (by decide)) h
theorem zEm:Rn.Worth Tryz.prog F.zcT ⟨5,zk8,zk9⟩:=fun hn h=>zCk (Nat.le_trans hn (by decide)) h
theorem zA0:Rn.Worth Tryz.prog F.zhx ⟨5,ziC,ziD⟩:=fun hn h=>zyT (Nat.le_trans hn (by decide)) h
theorem zog:Rn.Worth Tryz.prog F.zaC ⟨21,zbp,zbq⟩:=fun hn h=>zno (Nat.le_trans hn (by decide)) h
theorem zK8:Rn.Worth Tryz.prog F.zug ⟨12,zqT,zqU⟩:=fun hn h=>zIU (Nat.le_trans hn (by decide)) h
theorem zvB:Rn.Worth Tryz.prog F.zjc ⟨7,ze5,ze6⟩:=fun hn h=>zuG (Nat.le_trans hn (by decide)) h
theorem ztQ:Rn.Worth Tryz.prog F.zg2 ⟨7,zdJ,zdK⟩:=fun hn h=>zsY (Nat.le_trans hn (by decide)) h
theorem zF0:Rn.Worth Tryz.prog F.zpU ⟨3,zmC,zmD⟩:=fun hn h=>zDU (Nat.le_trans hn (by decide)) h
theorem zrZ:Rn.Worth Tryz.prog F.zff ⟨4,zcJ,zcK⟩:=fun hn h=>zrx (Nat.le_trans hn (by decide)) h
theorem zEn:Rn.Worth Tryz.prog F.zkF ⟨5,zla,zlb⟩:=fun hn h=>zCl (Nat.le_trans hn (by decide)) h
theorem zks:Rn.Worth Tryz.prog F.zbA ⟨8,zaE,zaF⟩:=fun hn h=>zjS (Nat.le_trans hn (by decide)) h
theorem zA1:Rn.Worth Tryz.prog F.zmV ⟨13,ziE,ziF⟩:=fun hn h=>zyW (Nat.le_trans hn (by decide)) h
theorem zkt:Rn.Worth Tryz.prog F.zbB ⟨10,zaG,zaH⟩:=fun hn h=>zjV (Nat.le_trans hn (by decide)) h
theorem zuS:Rn.Worth Tryz.prog F.zhy ⟨12,zd7,zd8⟩:=fun hn h=>ztA (Nat.le_trans hn (by decide)) h
theorem zJz:Rn.T.All (Rn.Worth Tryz.prog) zB := .no (.no (.no (.at zCw (.no (.no (.no (.no (.at zEi (.nil) (.nil)) (.nil)) (.nil)) (.at zyY (.at zuO (.at zs8 (.nil) (.nil)) (.nil)) (.at zpG (.nil) (.nil)))) (.no (.no (.at zFU (.at zK6 (.nil) (.nil)) (.nil)) (.at zw4 (.at ztQ (.nil) (.nil)) (.nil))) (.at zEd (.at zHZ (.at zjh (.nil) (.nil)) (.nil)) (.no (.at zkt (.nil) (.nil)) (.nil))))) (.at zFO (.at zAy (.at zAD (.at zHY (.at zCE (.nil) (.nil)) (.nil)) (.at zs5 (.at zNA (.nil) (.nil)) (.nil))) (.at zvp (.at zNv (.at zhf (.nil) (.nil)) (.nil)) (.at zq0 (.nil) (.nil)))) (.at zAz (.at zIX (.at zAQ (.nil) (.nil)) (.at zIY (.nil) (.nil))) (.no (.nil) (.at zK5 (.at zuS (.nil) (.nil)) (.nil)))))) (.no (.no (.no (.no (.at zrW (.at znB (.nil) (.nil)) (.nil)) (.at zvx (.at zEl (.nil) (.nil)) (.nil))) (.at zAI (.no (.at zw7 (.nil) (.nil)) (.nil)) (.at zH0 (.nil) (.nil)))) (.no (.no (.at zCB (.nil) (.nil)) (.at zy9 (.nil) (.nil))) (.nil))) (.no (.at zEa (.at zvm (.at zAP (.nil) (.nil)) (.at zK4 (.at zA0 (.nil) (.nil)) (.nil))) (.at zvq (.at zvw (.nil) (.nil)) (.at zpH (.nil) (.nil)))) (.at zAB (.at zEb (.at zEg (.nil) (.nil)) (.nil)) (.at zAN (.no (.at zAZ (.nil) (.nil)) (.nil)) (.nil)))))) (.no (.no (.at zAx (.no (.no (.at zFS (.at zAW (.nil) (.nil)) (.nil)) (.at zK3 (.at zrG (.nil) (.nil)) (.nil))) (.at zAH (.no (.at zAX (.nil) (.nil)) (.nil)) (.nil))) (.no (.no (.at zEe (.nil) (.nil)) (.at zy7 (.at zrZ (.nil) (.nil)) (.nil))) (.at ztJ (.nil) (.at zm4 (.nil) (.nil))))) (.no (.no (.at zAE (.at zy1 (.at ztP (.nil) (.nil)) (.nil)) (.no (.at zH2 (.nil) (.nil)) (.nil))) (.at zrD (.at zvu (.nil) (.nil)) (.at zrY (.nil) (.nil)))) (.at zKV (.at zKY (.at zNu (.nil) (.nil)) (.at zs6 (.nil) (.nil))) (.at zy0 (.nil) (.nil))))) (.no (.at zyX (.no (.at zNs (.at zrE (.nil) (.nil)) (.at ztO (.at zow (.nil) (.nil)) (.nil))) (.at zvo (.nil) (.at zuP (.nil) (.nil)))) (.no (.at zvn (.at zEf (.nil) (.nil)) (.at zza (.nil) (.nil))) (.no (.nil) (.at zzb (.nil) (.nil))))) (.no (.no (.at zwY (.at zCA (.at zw5 (.nil) (.nil)) (.nil)) (.at zNw (.at zK8 (.nil) (.nil)) (.nil))) (.at zAL (.at zy4 (.nil) (.nil)) (.at zs7 (.nil) (.nil)))) (.at zAC (.at zKZ (.no (.at zsr (.nil) (.nil)) (.nil)) (.nil)) (.no (.at zAU (.nil) (.nil)) (.at zEh (.nil) (.nil)))))))) (.no (.no (.no (.no (.no (.no (.at zFR (.at zFY (.nil) (.nil)) (.nil)) (.nil)) (.at ztI (.at ztK (.at zof (.nil) (.nil)) (.nil)) (.at zCD (.nil) (.nil)))) (.no (.no (.at zvr (.at zw6 (.nil) (.nil)) (.nil)) (.at zy6 (.at zF0 (.nil) (.nil)) (.nil))) (.at zAM (.at zhe (.nil) (.nil)) (.at zlj (.nil) (.nil))))) (.no (.no (.at zwX (.at zK1 (.at zI2 (.nil) (.nil)) (.nil)) (.at zCC (.at zCG (.nil) (.nil)) (.nil))) (.at zEc (.at zAT (.nil) (.nil)) (.at zvy (.nil) (.nil)))) (.at zKU (.at zKX (.at zAR (.nil) (.nil)) (.at zIZ (.at zks (.nil) (.nil)) (.nil))) (.no (.no (.at zK7 (.nil) (.nil)) (.nil)) (.at zNy (.nil) (.nil)))))) (.no (.no (.no (.at zIW (.at zs3 (.nil) (.nil)) (.at ztN (.at zFZ (.nil) (.nil)) (.nil))) (.at zyZ (.at zAS (.at zAY (.nil) (.nil)) (.nil)) (.at zI1 (.nil) (.nil)))) (.no (.no (.at zy3 (.nil) (.nil)) (.nil)) (.nil))) (.no (.at zFP (.at zAG (.at zy2 (.at zuQ (.nil) (.nil)) (.nil)) (.at zFW (.at zog (.nil) (.nil)) (.nil))) (.at zAK (.at zrF (.nil) (.nil)) (.nil))) (.at zAw (.at zNt (.at zqY (.nil) (.nil)) (.nil)) (.no (.at zrX (.at zw8 (.nil) (.nil)) (.nil)) (.nil)))))) (.no (.no (.no (.no (.at zHW (.at zAO (.at zEj (.nil) (.nil)) (.nil)) (.no (.at zH1 (.nil) (.nil)) (.nil))) (.at zCy (.nil) (.at zI0 (.at zA1 (.nil) (.nil)) (.nil)))) (.no (.no (.at zK2 (.at zl5 (.nil) (.nil)) (.nil)) (.at zy8 (.at zEn (.nil) (.nil)) (.nil))) (.at zwZ (.at zli (.nil) (.nil)) (.nil)))) (.no (.at zCx (.at zAF (.at zw1 (.at zCF (.nil) (.nil)) (.nil)) (.at zFV (.at zEm (.nil) (.nil)) (.nil))) (.at zAJ (.at zvv (.nil) (.nil)) (.at zvz (.nil) (.nil)))) (.at zAA (.at zHX (.at zvs (.nil) (.nil)) (.at zqZ (.nil) (.nil))) (.at zw0 (.at ztM (.nil) (.nil)) (.nil))))) (.at zFN (.at zD9 (.at zKT (.at zKW (.at zs4 (.at zNz (.nil) (.nil)) (.nil)) (.at zw2 (.nil) (.nil))) (.at zFQ (.at ztL (.nil) (.nil)) (.at zAV (.nil) (.nil)))) (.at zHV (.no (.nil) (.at zNx (.nil) (.nil))) (.no (.at zy5 (.nil) (.nil)) (.at zvA (.nil) (.nil))))) (.no (.no (.no (.at zFT (.at zEk (.nil) (.nil)) (.nil)) (.at zw3 (.at zvB (.nil) (.nil)) (.nil))) (.at zCz (.nil) (.nil))) (.at zrV (.at zK0 (.at zvt (.at zuR (.nil) (.nil)) (.nil)) (.at zFX (.nil) (.nil))) (.no (.nil) (.at zzc (.nil) (.nil))))))))
end Go.Proofs.YtpnhjkiligohnaaGreatDoor
namespace Go.Proofs.YtpnhjkiligohnaaGreatDoor
open Go Go.Vm
def bl (b:ByteArray):List UInt8:=b.data.toList
def zUe (a b:ByteArray):Bool:=Op.bytesLess a.toList b.toList
structure FileR where
 name:ByteArray
 safe:ByteArray
 tail:ByteArray
def FileR.all (f:FileR):ByteArray:=f.safe++f.tail
structure zCH where
 limit:Int
 l:List FileR
 left:Int
 down:Bool
def zJA (L:List FileR):Prop:=L.Pairwise fun x y=>zUe x.name y.name=true
def zUf (L:List FileR) (n:ByteArray):Option FileR:=L.find? fun f=>decide (f.name=n)
def zUg (L:List FileR):Nat:=(L.map fun f=>f.safe.size+f.tail.size).sum
structure zVg (D:zCH):Prop where
 sort:zJA D.l
 len:D.l.length≤64
 used:zUg D.l≤1048576
 limit:0≤D.limit∧D.limit≤1048576
 left : -1≤D.left∧D.left≤9223372036854775807
end Go.Proofs.YtpnhjkiligohnaaGreatDoor
namespace Go.Proofs.YtpnhjkiligohnaaGreatDoor
open Go Go.Vm
attribute [local irreducible] Brn Ob Grow CallsM inR zbf zaW Mem.row Mem.cells Mem.setCells Mem.upd Go.Vm.Own zbO zcz zcc zbE New SrcOk zap NewSl Mem.textAt Mem.mapAt Mem.iterAt zaV kfind Wr zch Elems
set_option maxRecDepth 10000
@[reducible] def zUN (k:ByteArray):Value := .string k
structure FX where
 f:Nat
 a:Option Addr
 c:Nat
 p:List UInt8
 safe:Nat
@[reducible] def fxV (x:FX):Value:=ptr x.f
structure zUO (M:Mem) (x:FX):Prop where
 self:M.has x.f T.zIu [.slice x.a x.p.length x.c,.int .i64 x.safe]
 row:Wr M T.zF 1 x.a x.p.length x.c (x.p.map zi)
def FX.own (x:FX):Nat→Prop:=fun y=>y=x.f∨blk x.a y
def zTk (x y:FX):Prop:=∀ z,x.own z→¬y.own z
abbrev FsT:=List (ByteArray×FX)
structure DAt (M:Mem) (p b:Nat) (D:zCH) (es:FsT):Prop where
 self:M.has p T.zIt [.int .i64 D.limit,.map (some b),.int .i64 D.left,.bool D.down]
 map:MapAt zUN fxV M b es
 ents:∀ q∈es,zUO M q.2
 apart:es.Pairwise fun x y=>zTk x.2 y.2
def zK9 (p b:Nat) (es:FsT):Nat→Prop:=fun y=>y=p∨y=b∨∃ q∈es,q.2.own y
variable {M:Mem} {p b:Nat} {D:zCH} {es:FsT}
def cont (f:FileR):List UInt8×Nat:=(bl f.all,f.safe.size)
structure zUP (es:FsT) (L:List FileR):Prop where
 sort:zJA L
 nodup:(es.map (·.1)).Nodup
 same:∀ n,(zaS es n).map (fun x=>(x.p,x.safe))=(zUf L n).map cont
end Go.Proofs.YtpnhjkiligohnaaGreatDoor
