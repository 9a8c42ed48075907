/- Part of this proof;laid by program. -/
import Derived.Test.YtpnhjkiligohnaaGreatDoorJ15
import Derived.Test.YtpnhjkiligohnaaGreatDoorJ19
import Derived.Test.YtpnhjkiligohnaaGreatDoorJ9
import Derived.Sort.Walk0
import Derived.Shelf.Sort.Plain
import Derived.Shelf.Slices.In.SortNone
set_option linter.unusedVariables false
set_option linter.unusedSimpArgs false
namespace Go.Proofs.YtpnhjkiligohnaaGreatDoor
open Go Go.Vm
set_option maxRecDepth 20000
def zB:Rn.T Rn.FC := .n (.n (.n (.n (.n (.n (.n (.n (.n (.e) (some ⟨8,zk2,zk3⟩) (.e)) none (.e)) none (.e)) none (.n (.n (.n (.e) (some ⟨9,zda,zdb⟩) (.e)) (some ⟨12,zdZ,zd0⟩) (.e)) (some ⟨91,zgn,zgo⟩) (.n (.e) (some ⟨19,zbR,zbS⟩) (.e)))) none (.n (.n (.n (.n (.e) (some ⟨5,zqP,zqQ⟩) (.e)) (some ⟨4,zms,zmt⟩) (.e)) none (.n (.n (.e) (some ⟨7,zdJ,zdK⟩) (.e)) (some ⟨7,zfM,zfN⟩) (.e))) none (.n (.n (.n (.e) (some ⟨10,zav,zaw⟩) (.e)) (some ⟨8,zn3,zn4⟩) (.e)) (some ⟨3,zkS,zkT⟩) (.n (.n (.e) (some ⟨10,zaG,zaH⟩) (.e)) none (.e))))) (some ⟨18,zjo,zjp⟩) (.n (.n (.n (.n (.n (.e) (some ⟨11,zjE,zjF⟩) (.e)) (some ⟨4,zn1,zn2⟩) (.e)) (some ⟨13,zhO,zhP⟩) (.n (.n (.e) (some ⟨6,zsp,zsq⟩) (.e)) (some ⟨3,zc4,zc5⟩) (.e))) (some ⟨6,zhC,zhD⟩) (.n (.n (.n (.e) (some ⟨10,zan,zao⟩) (.e)) (some ⟨26,zsf,zsg⟩) (.e)) (some ⟨6,zeH,zeI⟩) (.n (.e) (some ⟨5,zb8,zb9⟩) (.e)))) (some ⟨65,zmg,zmh⟩) (.n (.n (.n (.e) (some ⟨13,zie,zif⟩) (.e)) (some ⟨3,zo9,zpa⟩) (.n (.e) (some ⟨9,zpb,zpc⟩) (.e))) (some ⟨12,zhE,zhF⟩) (.n (.e) none (.n (.n (.e) (some ⟨12,zd7,zd8⟩) (.e)) (some ⟨12,zqN,zqO⟩) (.e)))))) none (.n (.n (.n (.n (.n (.n (.e) (some ⟨2,zbh,zbi⟩) (.e)) (some ⟨3,zcD,zcE⟩) (.e)) none (.n (.n (.e) (some ⟨6,zk8,zk9⟩) (.e)) (some ⟨18,zeX,zeY⟩) (.e))) none (.n (.n (.n (.e) (some ⟨9,zfU,zfV⟩) (.e)) none (.e)) (some ⟨6,zhY,zhZ⟩) (.n (.e) (some ⟨5,zn5,zn6⟩) (.e)))) none (.n (.n (.n (.e) (some ⟨8,zjy,zjz⟩) (.e)) none (.n (.e) (some ⟨52,zgJ,zgK⟩) (.e))) none (.e))) none (.n (.n (.n (.n (.e) (some ⟨14,zic,zid⟩) (.e)) (some ⟨66,zeB,zeC⟩) (.n (.n (.e) (some ⟨5,ziD,ziE⟩) (.e)) (some ⟨10,zqL,zqM⟩) (.e))) (some ⟨5,zkM,zkN⟩) (.n (.n (.e) (some ⟨46,zeV,zeW⟩) (.e)) (some ⟨12,zeJ,zeK⟩) (.n (.e) (some ⟨1,zbT,zbU⟩) (.e)))) none (.n (.n (.n (.e) (some ⟨10,zkY,zkZ⟩) (.e)) (some ⟨17,zkO,zkP⟩) (.e)) (some ⟨10,zhI,zhJ⟩) (.n (.n (.n (.e) (some ⟨11,ziB,ziC⟩) (.e)) none (.e)) (some ⟨13,zh8,zh9⟩) (.e)))))) none (.n (.n (.n (.n (.n (.n (.n (.e) (some ⟨11,zir,zis⟩) (.e)) (some ⟨3,zmo,zmp⟩) (.e)) none (.n (.n (.e) (some ⟨4,zco,zcp⟩) (.e)) (some ⟨12,zqJ,zqK⟩) (.e))) none (.n (.n (.n (.e) (some ⟨6,ziv,ziw⟩) (.e)) none (.e)) (some ⟨3,zhW,zhX⟩) (.e))) (some ⟨14,zhA,zhB⟩) (.n (.n (.n (.e) (some ⟨4,zkU,zkV⟩) (.e)) none (.n (.n (.e) (some ⟨4,zcJ,zcK⟩) (.e)) (some ⟨1,zgF,zgG⟩) (.e))) none (.n (.e) (some ⟨21,zdv,zdw⟩) (.n (.e) (some ⟨21,zbb,zbc⟩) (.e))))) none (.n (.n (.n (.n (.n (.e) (some ⟨4,zdH,zdI⟩) (.e)) (some ⟨2,zgt,zgu⟩) (.e)) (some ⟨3,zhQ,zhR⟩) (.n (.n (.e) (some ⟨7,zoa,zob⟩) (.e)) none (.e))) none (.n (.n (.e) (some ⟨5,zeR,zeS⟩) (.e)) (some ⟨3,zci,zcj⟩) (.n (.e) (some ⟨3,zcH,zcI⟩) (.e)))) none (.n (.n (.n (.e) (some ⟨42,zsd,zse⟩) (.e)) (some ⟨4,zqs,zqt⟩) (.n (.e) (some ⟨5,zc6,zc7⟩) (.e))) (some ⟨4,zqm,zqn⟩) (.n (.e) (some ⟨16,zgr,zgs⟩) (.e))))) none (.n (.n (.n (.n (.n (.e) (some ⟨37,zck,zcl⟩) (.e)) (some ⟨7,zr9,zsa⟩) (.n (.n (.e) (some ⟨10,zbx,zby⟩) (.e)) (some ⟨1,zdF,zdG⟩) (.e))) none (.n (.e) (some ⟨16,zeF,zeG⟩) (.n (.e) (some ⟨5,zd1,zd2⟩) (.e)))) (some ⟨5,zgl,zgm⟩) (.n (.n (.n (.e) (some ⟨4,zkW,zkX⟩) (.e)) (some ⟨30,zeD,zeE⟩) (.n (.e) (some ⟨4,zgL,zgM⟩) (.e))) none (.n (.e) none (.n (.e) (some ⟨8,zgN,zgO⟩) (.e))))) none (.n (.n (.n (.n (.n (.e) (some ⟨3,zfO,zfP⟩) (.e)) (some ⟨4,zjw,zjx⟩) (.e)) (some ⟨6,zfA,zfB⟩) (.n (.n (.e) (some ⟨12,zqU,zqV⟩) (.e)) (some ⟨3,zsh,zsi⟩) (.e))) none (.n (.n (.e) (some ⟨12,zgz,zgA⟩) (.e)) (some ⟨5,zh4,zh5⟩) (.n (.e) (some ⟨5,zc8,zc9⟩) (.e)))) none (.n (.n (.n (.n (.e) (some ⟨3,zfS,zfT⟩) (.e)) none (.e)) (some ⟨15,zqu,zqv⟩) (.e)) (some ⟨7,zhM,zhN⟩) (.n (.n (.e) (some ⟨9,zim,zin⟩) (.e)) none (.n (.e) (some ⟨13,zk0,zk1⟩) (.e)))))))) none (.n (.n (.n (.n (.n (.n (.n (.n (.e) (some ⟨13,zmA,zmB⟩) (.e)) (some ⟨7,zmm,zmn⟩) (.e)) none (.e)) none (.n (.n (.n (.e) (some ⟨19,zbn,zbo⟩) (.e)) (some ⟨1,zdx,zdy⟩) (.e)) (some ⟨4,zdt,zdu⟩) (.n (.e) (some ⟨3,zjC,zjD⟩) (.e)))) none (.n (.n (.n (.n (.e) (some ⟨5,zfQ,zfR⟩) (.e)) (some ⟨2,zeL,zeM⟩) (.e)) none (.n (.n (.e) (some ⟨3,zmE,zmF⟩) (.e)) (some ⟨5,zgD,zgE⟩) (.e))) none (.n (.n (.e) (some ⟨2,zal,zam⟩) (.e)) (some ⟨9,zh6,zh7⟩) (.n (.e) (some ⟨21,zaP,zaQ⟩) (.e))))) none (.n (.n (.n (.n (.n (.e) (some ⟨3,zpj,zpk⟩) (.e)) (some ⟨5,zqA,zqB⟩) (.e)) (some ⟨58,zfy,zfz⟩) (.n (.n (.e) (some ⟨3,zjI,zjJ⟩) (.e)) (some ⟨25,zjA,zjB⟩) (.e))) none (.n (.n (.e) (some ⟨6,zik,zil⟩) (.e)) (some ⟨4,zkQ,zkR⟩) (.n (.e) (some ⟨8,zeZ,ze0⟩) (.e)))) none (.n (.n (.n (.e) (some ⟨4,zig,zih⟩) (.e)) (some ⟨5,zqq,zqr⟩) (.n (.n (.e) (some ⟨8,zaE,zaF⟩) (.e)) (some ⟨58,zpd,zpe⟩) (.e))) (some ⟨4,zqk,zql⟩) (.n (.n (.n (.e) (some ⟨5,zqR,zqS⟩) (.e)) none (.e)) none (.n (.e) (some ⟨25,zsl,zsm⟩) (.e)))))) none (.n (.n (.n (.n (.n (.e) (some ⟨52,zc0,zc1⟩) (.e)) (some ⟨7,zo7,zo8⟩) (.n (.n (.e) (some ⟨6,zmC,zmD⟩) (.e)) (some ⟨13,zdD,zdE⟩) (.e))) none (.n (.n (.n (.e) (some ⟨7,zix,ziy⟩) (.e)) (some ⟨4,zii,zij⟩) (.e)) (some ⟨3,zgp,zgq⟩) (.n (.e) (some ⟨5,zph,zpi⟩) (.e)))) none (.n (.n (.n (.e) (some ⟨5,zgx,zgy⟩) (.e)) none (.e)) none (.e))) none (.n (.n (.n (.n (.n (.e) (some ⟨77,zd3,zd4⟩) (.e)) (some ⟨66,zgv,zgw⟩) (.e)) (some ⟨63,zhU,zhV⟩) (.n (.n (.e) (some ⟨21,zbp,zbq⟩) (.e)) (some ⟨17,zmw,zmx⟩) (.e))) (some ⟨3,zmi,zmj⟩) (.n (.n (.e) (some ⟨11,zcm,zcn⟩) (.e)) (some ⟨10,zh2,zh3⟩) (.e))) none (.n (.n (.n (.e) (some ⟨5,zb4,zb5⟩) (.e)) (some ⟨4,zsb,zsc⟩) (.e)) (some ⟨44,zhK,zhL⟩) (.n (.n (.n (.e) (some ⟨16,zfY,zfZ⟩) (.e)) (some ⟨31,zcF,zcG⟩) (.e)) none (.e)))))) none (.n (.n (.n (.n (.n (.n (.n (.e) (some ⟨4,zk4,zk5⟩) (.e)) (some ⟨3,zia,zib⟩) (.e)) (some ⟨17,znX,znY⟩) (.n (.n (.e) (some ⟨6,zn7,zn8⟩) (.e)) none (.e))) none (.n (.e) (some ⟨28,zjs,zjt⟩) (.n (.n (.e) (some ⟨13,ziF,ziG⟩) (.e)) (some ⟨7,zpf,zpg⟩) (.e)))) none (.n (.n (.n (.n (.e) (some ⟨8,za3,za4⟩) (.e)) (some ⟨41,zqC,zqD⟩) (.e)) none (.n (.n (.e) (some ⟨5,zlc,zld⟩) (.e)) (some ⟨1,zgH,zgI⟩) (.e))) none (.n (.n (.e) (some ⟨2,zaN,zaO⟩) (.e)) (some ⟨11,zfC,zfD⟩) (.e)))) none (.n (.n (.n (.n (.n (.e) (some ⟨5,zjG,zjH⟩) (.e)) (some ⟨3,zfG,zfH⟩) (.e)) (some ⟨5,zhS,zhT⟩) (.n (.n (.e) (some ⟨5,zla,zlb⟩) (.e)) (some ⟨3,zmu,zmv⟩) (.e))) (some ⟨4,zjq,zjr⟩) (.n (.n (.e) (some ⟨41,zeT,zeU⟩) (.e)) (some ⟨24,zh0,zh1⟩) (.n (.e) (some ⟨6,ze1,ze2⟩) (.e)))) none (.n (.n (.n (.e) (some ⟨11,zeN,zeO⟩) (.e)) (some ⟨25,znZ,zn0⟩) (.n (.e) (some ⟨5,zb6,zb7⟩) (.e))) (some ⟨7,zhG,zhH⟩) (.n (.n (.e) (some ⟨14,zdB,zdC⟩) (.e)) (some ⟨29,zfE,zfF⟩) (.e))))) none (.n (.n (.n (.n (.n (.n (.e) (some ⟨17,zsn,zso⟩) (.e)) (some ⟨4,zc2,zc3⟩) (.e)) (some ⟨71,zqo,zqp⟩) (.n (.e) (some ⟨14,zfI,zfJ⟩) (.e))) (some ⟨126,zqi,zqj⟩) (.n (.n (.e) (some ⟨3,zdz,zdA⟩) (.e)) (some ⟨11,zmk,zml⟩) (.n (.e) (some ⟨4,zio,ziq⟩) (.e)))) (some ⟨10,zkK,zkL⟩) (.n (.n (.e) none (.n (.e) (some ⟨7,zsj,zsk⟩) (.e))) (some ⟨5,znV,znW⟩) (.n (.n (.e) (some ⟨3,zgB,zgC⟩) (.e)) none (.n (.e) (some ⟨3,ze3,ze4⟩) (.e))))) (some ⟨25,zme,zmf⟩) (.n (.n (.n (.n (.n (.e) (some ⟨4,zk6,zk7⟩) (.e)) (some ⟨23,zmq,zmr⟩) (.e)) none (.n (.n (.e) (some ⟨7,ze5,ze6⟩) (.e)) (some ⟨4,zfK,zfL⟩) (.e))) none (.n (.e) (some ⟨12,zju,zjv⟩) (.e))) none (.n (.n (.n (.n (.e) (some ⟨6,zd5,zd6⟩) (.e)) (some ⟨30,zeP,zeQ⟩) (.e)) (some ⟨1,zqw,zqx⟩) (.n (.e) (some ⟨8,zmy,zmz⟩) (.e))) (some ⟨3,zcB,zcC⟩) (.n (.e) none (.n (.e) (some ⟨9,zgP,zgQ⟩) (.e))))))))
theorem zAx:Rn.Worth Tryz.prog F.zmJ ⟨44,zhK,zhL⟩:=fun hn h=>zyd (Nat.le_trans hn (by decide)) h
theorem zCx:Rn.Worth Tryz.prog F.za1 ⟨18,zjo,zjp⟩:=fun hn h=>zzR (Nat.le_trans hn (by decide)) h
theorem zFQ:Rn.Worth Tryz.prog F.zfh ⟨25,zme,zmf⟩:=fun hn h=>zDr (Nat.le_trans hn (by decide)) h
theorem zAy:Rn.Worth Tryz.prog F.zcO ⟨14,zhA,zhB⟩:=fun hn h=>zxW (Nat.le_trans hn (by decide)) h
theorem zyY:Rn.Worth Tryz.prog F.zlp ⟨5,zgl,zgm⟩:=fun hn h=>zwf (Nat.le_trans hn (by decide)) h
theorem zEb:Rn.Worth Tryz.prog F.zcP ⟨10,zkK,zkL⟩:=fun hn h=>zBQ (Nat.le_trans hn (by decide)) h
theorem zFR:Rn.Worth Tryz.prog F.zpP ⟨65,zmg,zmh⟩:=fun hn h=>zDu (Nat.le_trans hn (by decide)) h
theorem zKZ:Rn.Worth Tryz.prog F.zt6 ⟨126,zqi,zqj⟩:=fun hn h=>zIF (Nat.le_trans hn (by decide)) h
theorem zAz:Rn.Worth Tryz.prog F.zmI ⟨6,zhC,zhD⟩:=fun hn h=>zx7 (Nat.le_trans hn (by decide)) h
theorem zCy:Rn.Worth Tryz.prog F.zce ⟨4,zjq,zjr⟩:=fun hn h=>zzY (Nat.le_trans hn (by decide)) h
theorem zEc:Rn.Worth Tryz.prog F.zcQ ⟨5,zkM,zkN⟩:=fun hn h=>zBR (Nat.le_trans hn (by decide)) h
theorem zFS:Rn.Worth Tryz.prog F.zdL ⟨3,zmi,zmj⟩:=fun hn h=>zDz (Nat.le_trans hn (by decide)) h
theorem zHY:Rn.Worth Tryz.prog F.znM ⟨5,znV,znW⟩:=fun hn h=>zFs (Nat.le_trans hn (by decide)) h
theorem zAA:Rn.Worth Tryz.prog F.zeh ⟨12,zhE,zhF⟩:=fun hn h=>zya (Nat.le_trans hn (by decide)) h
theorem zK0:Rn.Worth Tryz.prog F.zt7 ⟨4,zqk,zql⟩:=fun hn h=>zIG (Nat.le_trans hn (by decide)) h
theorem zK1:Rn.Worth Tryz.prog F.zt8 ⟨4,zqm,zqn⟩:=fun hn h=>zIH (Nat.le_trans hn (by decide)) h
theorem zAB:Rn.Worth Tryz.prog F.zhp ⟨7,zhG,zhH⟩:=fun hn h=>zyb (Nat.le_trans hn (by decide)) h
theorem zAC:Rn.Worth Tryz.prog F.zk ⟨10,zhI,zhJ⟩:=fun hn h=>zyc (Nat.le_trans hn (by decide)) h
theorem zAD:Rn.Worth Tryz.prog F.zmK ⟨7,zhM,zhN⟩:=fun hn h=>zye (Nat.le_trans hn (by decide)) h
theorem zrW:Rn.Worth Tryz.prog F.zcA ⟨3,zcB,zcC⟩:=fun hn h=>zrs (Nat.le_trans hn (by decide)) h
theorem zHZ:Rn.Worth Tryz.prog F.zgX ⟨17,znX,znY⟩:=fun hn h=>zFt (Nat.le_trans hn (by decide)) h
theorem zI0:Rn.Worth Tryz.prog F.zlS ⟨7,zo7,zo8⟩:=fun hn h=>zHc (Nat.le_trans hn (by decide)) h
theorem zNz:Rn.Worth Tryz.prog F.zfr ⟨7,zr9,zsa⟩:=fun hn h=>zKa (Nat.le_trans hn (by decide)) h
theorem zK2:Rn.Worth Tryz.prog F.zt9 ⟨71,zqo,zqp⟩:=fun hn h=>zIK (Nat.le_trans hn (by decide)) h
theorem zAE:Rn.Worth Tryz.prog F.zhq ⟨13,zhO,zhP⟩:=fun hn h=>zyf (Nat.le_trans hn (by decide)) h
theorem zwY:Rn.Worth Tryz.prog F.za8 ⟨58,zfy,zfz⟩:=fun hn h=>zu4 (Nat.le_trans hn (by decide)) h
theorem zAF:Rn.Worth Tryz.prog F.zmL ⟨3,zhQ,zhR⟩:=fun hn h=>zyg (Nat.le_trans hn (by decide)) h
theorem zAG:Rn.Worth Tryz.prog F.zmM ⟨5,zhS,zhT⟩:=fun hn h=>zyh (Nat.le_trans hn (by decide)) h
theorem zvn:Rn.Worth Tryz.prog F.zi5 ⟨66,zeB,zeC⟩:=fun hn h=>zuo (Nat.le_trans hn (by decide)) h
theorem zAH:Rn.Worth Tryz.prog F.zl ⟨63,zhU,zhV⟩:=fun hn h=>zyi (Nat.le_trans hn (by decide)) h
theorem zwZ:Rn.Worth Tryz.prog F.zj7 ⟨6,zfA,zfB⟩:=fun hn h=>zu5 (Nat.le_trans hn (by decide)) h
theorem zvo:Rn.Worth Tryz.prog F.zex ⟨30,zeD,zeE⟩:=fun hn h=>zup (Nat.le_trans hn (by decide)) h
theorem zI1:Rn.Worth Tryz.prog F.za2 ⟨3,zo9,zpa⟩:=fun hn h=>zHd (Nat.le_trans hn (by decide)) h
theorem zK3:Rn.Worth Tryz.prog F.zdW ⟨5,zqq,zqr⟩:=fun hn h=>zIL (Nat.le_trans hn (by decide)) h
theorem zK4:Rn.Worth Tryz.prog F.zqf ⟨4,zqs,zqt⟩:=fun hn h=>zIM (Nat.le_trans hn (by decide)) h
theorem zH0:Rn.Worth Tryz.prog F.zrk ⟨25,znZ,zn0⟩:=fun hn h=>zFu (Nat.le_trans hn (by decide)) h
theorem zEd:Rn.Worth Tryz.prog F.zoD ⟨17,zkO,zkP⟩:=fun hn h=>zBW (Nat.le_trans hn (by decide)) h
theorem zNA:Rn.Worth Tryz.prog F.zvT ⟨4,zsb,zsc⟩:=fun hn h=>zKb (Nat.le_trans hn (by decide)) h
theorem zK5:Rn.Worth Tryz.prog F.zua ⟨15,zqu,zqv⟩:=fun hn h=>zIN (Nat.le_trans hn (by decide)) h
theorem zK6:Rn.Worth Tryz.prog F.zub ⟨1,zqw,zqx⟩:=fun hn h=>zIO (Nat.le_trans hn (by decide)) h
theorem zyZ:Rn.Worth Tryz.prog F.zbI ⟨91,zgn,zgo⟩:=fun hn h=>zwi (Nat.le_trans hn (by decide)) h
theorem ztJ:Rn.Worth Tryz.prog F.zgY ⟨4,zdt,zdu⟩:=fun hn h=>zsJ (Nat.le_trans hn (by decide)) h
theorem zAI:Rn.Worth Tryz.prog F.zmN ⟨3,zhW,zhX⟩:=fun hn h=>zyr (Nat.le_trans hn (by decide)) h
theorem zCz:Rn.Worth Tryz.prog F.znN ⟨28,zjs,zjt⟩:=fun hn h=>zz1 (Nat.le_trans hn (by decide)) h
theorem zAJ:Rn.Worth Tryz.prog F.zmO ⟨6,zhY,zhZ⟩:=fun hn h=>zys (Nat.le_trans hn (by decide)) h
theorem zy0:Rn.Worth Tryz.prog F.zbJ ⟨3,zgp,zgq⟩:=fun hn h=>zwj (Nat.le_trans hn (by decide)) h
theorem zvp:Rn.Worth Tryz.prog F.zi6 ⟨16,zeF,zeG⟩:=fun hn h=>zuq (Nat.le_trans hn (by decide)) h
theorem zFT:Rn.Worth Tryz.prog F.zpQ ⟨11,zmk,zml⟩:=fun hn h=>zDE (Nat.le_trans hn (by decide)) h
theorem zvq:Rn.Worth Tryz.prog F.zi7 ⟨6,zeH,zeI⟩:=fun hn h=>zur (Nat.le_trans hn (by decide)) h
theorem zEe:Rn.Worth Tryz.prog F.zoE ⟨4,zkQ,zkR⟩:=fun hn h=>zBX (Nat.le_trans hn (by decide)) h
theorem zrE:Rn.Worth Tryz.prog F.zat ⟨3,zci,zcj⟩:=fun hn h=>zqy (Nat.le_trans hn (by decide)) h
theorem zAK:Rn.Worth Tryz.prog F.zmP ⟨24,zh0,zh1⟩:=fun hn h=>zyt (Nat.le_trans hn (by decide)) h
theorem zvr:Rn.Worth Tryz.prog F.zi8 ⟨12,zeJ,zeK⟩:=fun hn h=>zus (Nat.le_trans hn (by decide)) h
theorem zAL:Rn.Worth Tryz.prog F.zcR ⟨10,zh2,zh3⟩:=fun hn h=>zyu (Nat.le_trans hn (by decide)) h
theorem zAM:Rn.Worth Tryz.prog F.zmQ ⟨5,zh4,zh5⟩:=fun hn h=>zyv (Nat.le_trans hn (by decide)) h
theorem zCA:Rn.Worth Tryz.prog F.znO ⟨12,zju,zjv⟩:=fun hn h=>zz2 (Nat.le_trans hn (by decide)) h
theorem zEf:Rn.Worth Tryz.prog F.zkE ⟨3,zkS,zkT⟩:=fun hn h=>zBY (Nat.le_trans hn (by decide)) h
theorem zAN:Rn.Worth Tryz.prog F.zei ⟨9,zh6,zh7⟩:=fun hn h=>zyw (Nat.le_trans hn (by decide)) h
theorem ztK:Rn.Worth Tryz.prog F.zgZ ⟨21,zdv,zdw⟩:=fun hn h=>zsK (Nat.le_trans hn (by decide)) h
theorem zw0:Rn.Worth Tryz.prog F.zj8 ⟨11,zfC,zfD⟩:=fun hn h=>zu8 (Nat.le_trans hn (by decide)) h
theorem zy1:Rn.Worth Tryz.prog F.zcs ⟨16,zgr,zgs⟩:=fun hn h=>zwm (Nat.le_trans hn (by decide)) h
theorem zw1:Rn.Worth Tryz.prog F.zdg ⟨29,zfE,zfF⟩:=fun hn h=>zvb (Nat.le_trans hn (by decide)) h
theorem zAO:Rn.Worth Tryz.prog F.zej ⟨13,zh8,zh9⟩:=fun hn h=>zyz (Nat.le_trans hn (by decide)) h
theorem zFU:Rn.Worth Tryz.prog F.zfi ⟨7,zmm,zmn⟩:=fun hn h=>zDF (Nat.le_trans hn (by decide)) h
theorem zFV:Rn.Worth Tryz.prog F.zfj ⟨3,zmo,zmp⟩:=fun hn h=>zDG (Nat.le_trans hn (by decide)) h
theorem zAP:Rn.Worth Tryz.prog F.zcS ⟨3,zia,zib⟩:=fun hn h=>zyA (Nat.le_trans hn (by decide)) h
theorem zrX:Rn.Worth Tryz.prog F.zfd ⟨3,zcD,zcE⟩:=fun hn h=>zrt (Nat.le_trans hn (by decide)) h
theorem zs4:Rn.Worth Tryz.prog F.zf1 ⟨52,zc0,zc1⟩:=fun hn h=>zrM (Nat.le_trans hn (by decide)) h
theorem zrF:Rn.Worth Tryz.prog F.zek ⟨37,zck,zcl⟩:=fun hn h=>zqz (Nat.le_trans hn (by decide)) h
theorem zs5:Rn.Worth Tryz.prog F.zf2 ⟨4,zc2,zc3⟩:=fun hn h=>zrN (Nat.le_trans hn (by decide)) h
theorem zH1:Rn.Worth Tryz.prog F.zrm ⟨4,zn1,zn2⟩:=fun hn h=>zFv (Nat.le_trans hn (by decide)) h
theorem zK7:Rn.Worth Tryz.prog F.zuc ⟨5,zqA,zqB⟩:=fun hn h=>zIP (Nat.le_trans hn (by decide)) h
theorem zy2:Rn.Worth Tryz.prog F.zdR ⟨2,zgt,zgu⟩:=fun hn h=>zwn (Nat.le_trans hn (by decide)) h
theorem zw2:Rn.Worth Tryz.prog F.zfs ⟨3,zfG,zfH⟩:=fun hn h=>zvc (Nat.le_trans hn (by decide)) h
theorem zAQ:Rn.Worth Tryz.prog F.zmR ⟨14,zic,zid⟩:=fun hn h=>zyB (Nat.le_trans hn (by decide)) h
theorem zy3:Rn.Worth Tryz.prog F.zlq ⟨66,zgv,zgw⟩:=fun hn h=>zwo (Nat.le_trans hn (by decide)) h
theorem zCB:Rn.Worth Tryz.prog F.znP ⟨4,zjw,zjx⟩:=fun hn h=>zz7 (Nat.le_trans hn (by decide)) h
theorem zFW:Rn.Worth Tryz.prog F.zpR ⟨23,zmq,zmr⟩:=fun hn h=>zDH (Nat.le_trans hn (by decide)) h
theorem zFX:Rn.Worth Tryz.prog F.zpS ⟨4,zms,zmt⟩:=fun hn h=>zDI (Nat.le_trans hn (by decide)) h
theorem zvs:Rn.Worth Tryz.prog F.zi9 ⟨2,zeL,zeM⟩:=fun hn h=>zut (Nat.le_trans hn (by decide)) h
theorem zEg:Rn.Worth Tryz.prog F.zoF ⟨4,zkU,zkV⟩:=fun hn h=>zB1 (Nat.le_trans hn (by decide)) h
theorem zK8:Rn.Worth Tryz.prog F.zcf ⟨41,zqC,zqD⟩:=fun hn h=>zIQ (Nat.le_trans hn (by decide)) h
theorem zCC:Rn.Worth Tryz.prog F.zft ⟨8,zjy,zjz⟩:=fun hn h=>zz8 (Nat.le_trans hn (by decide)) h
theorem zy4:Rn.Worth Tryz.prog F.zlr ⟨5,zgx,zgy⟩:=fun hn h=>zwp (Nat.le_trans hn (by decide)) h
theorem zEh:Rn.Worth Tryz.prog F.zoG ⟨4,zkW,zkX⟩:=fun hn h=>zB2 (Nat.le_trans hn (by decide)) h
theorem zAR:Rn.Worth Tryz.prog F.zmS ⟨13,zie,zif⟩:=fun hn h=>zyC (Nat.le_trans hn (by decide)) h
theorem zAS:Rn.Worth Tryz.prog F.zba ⟨4,zig,zih⟩:=fun hn h=>zyD (Nat.le_trans hn (by decide)) h
theorem zNB:Rn.Worth Tryz.prog F.zvV ⟨42,zsd,zse⟩:=fun hn h=>zKc (Nat.le_trans hn (by decide)) h
theorem zvt:Rn.Worth Tryz.prog F.zja ⟨11,zeN,zeO⟩:=fun hn h=>zuu (Nat.le_trans hn (by decide)) h
theorem zEi:Rn.Worth Tryz.prog F.zoH ⟨10,zkY,zkZ⟩:=fun hn h=>zB3 (Nat.le_trans hn (by decide)) h
theorem zqZ:Rn.Worth Tryz.prog F.zdX ⟨5,zb4,zb5⟩:=fun hn h=>zpY (Nat.le_trans hn (by decide)) h
theorem zvu:Rn.Worth Tryz.prog F.zjb ⟨30,zeP,zeQ⟩:=fun hn h=>zuv (Nat.le_trans hn (by decide)) h
theorem zuP:Rn.Worth Tryz.prog F.zhr ⟨12,zdZ,zd0⟩:=fun hn h=>ztr (Nat.le_trans hn (by decide)) h
theorem ztL:Rn.Worth Tryz.prog F.zdq ⟨1,zdx,zdy⟩:=fun hn h=>zsL (Nat.le_trans hn (by decide)) h
theorem zAT:Rn.Worth Tryz.prog F.zel ⟨4,zii,zij⟩:=fun hn h=>zyG (Nat.le_trans hn (by decide)) h
theorem ztM:Rn.Worth Tryz.prog F.zb0 ⟨3,zdz,zdA⟩:=fun hn h=>zsM (Nat.le_trans hn (by decide)) h
theorem zNC:Rn.Worth Tryz.prog F.zvW ⟨26,zsf,zsg⟩:=fun hn h=>zKd (Nat.le_trans hn (by decide)) h
theorem zAU:Rn.Worth Tryz.prog F.zmT ⟨6,zik,zil⟩:=fun hn h=>zyH (Nat.le_trans hn (by decide)) h
theorem zvv:Rn.Worth Tryz.prog F.zey ⟨5,zeR,zeS⟩:=fun hn h=>zuw (Nat.le_trans hn (by decide)) h
theorem zvw:Rn.Worth Tryz.prog F.zez ⟨41,zeT,zeU⟩:=fun hn h=>zux (Nat.le_trans hn (by decide)) h
theorem zvx:Rn.Worth Tryz.prog F.zeA ⟨46,zeV,zeW⟩:=fun hn h=>zuy (Nat.le_trans hn (by decide)) h
theorem zrG:Rn.Worth Tryz.prog F.zem ⟨11,zcm,zcn⟩:=fun hn h=>zqE (Nat.le_trans hn (by decide)) h
theorem zy5:Rn.Worth Tryz.prog F.zct ⟨12,zgz,zgA⟩:=fun hn h=>zwq (Nat.le_trans hn (by decide)) h
theorem zH2:Rn.Worth Tryz.prog F.zro ⟨8,zn3,zn4⟩:=fun hn h=>zFw (Nat.le_trans hn (by decide)) h
theorem zhf:Rn.Worth Tryz.prog F.za6 ⟨2,zal,zam⟩:=fun hn h=>zg5 (Nat.le_trans hn (by decide)) h
theorem zlk:Rn.Worth Tryz.prog F.zbD ⟨2,zaN,zaO⟩:=fun hn h=>zkh (Nat.le_trans hn (by decide)) h
theorem zy6:Rn.Worth Tryz.prog F.zls ⟨3,zgB,zgC⟩:=fun hn h=>zwt (Nat.le_trans hn (by decide)) h
theorem ztN:Rn.Worth Tryz.prog F.zdr ⟨14,zdB,zdC⟩:=fun hn h=>zsN (Nat.le_trans hn (by decide)) h
theorem zrY:Rn.Worth Tryz.prog F.zfe ⟨31,zcF,zcG⟩:=fun hn h=>zrw (Nat.le_trans hn (by decide)) h
theorem zAV:Rn.Worth Tryz.prog F.zeo ⟨9,zim,zin⟩:=fun hn h=>zyI (Nat.le_trans hn (by decide)) h
theorem zK9:Rn.Worth Tryz.prog F.zue ⟨12,zqJ,zqK⟩:=fun hn h=>zIR (Nat.le_trans hn (by decide)) h
theorem zvy:Rn.Worth Tryz.prog F.zcM ⟨18,zeX,zeY⟩:=fun hn h=>zuB (Nat.le_trans hn (by decide)) h
theorem ztO:Rn.Worth Tryz.prog F.zaY ⟨13,zdD,zdE⟩:=fun hn h=>zsO (Nat.le_trans hn (by decide)) h
theorem ztP:Rn.Worth Tryz.prog F.zds ⟨1,zdF,zdG⟩:=fun hn h=>zsP (Nat.le_trans hn (by decide)) h
theorem zw3:Rn.Worth Tryz.prog F.zj9 ⟨14,zfI,zfJ⟩:=fun hn h=>zvf (Nat.le_trans hn (by decide)) h
theorem zs6:Rn.Worth Tryz.prog F.zf3 ⟨3,zc4,zc5⟩:=fun hn h=>zrO (Nat.le_trans hn (by decide)) h
theorem zCD:Rn.Worth Tryz.prog F.znQ ⟨25,zjA,zjB⟩:=fun hn h=>zAb (Nat.le_trans hn (by decide)) h
theorem zFY:Rn.Worth Tryz.prog F.zfk ⟨3,zmu,zmv⟩:=fun hn h=>zDN (Nat.le_trans hn (by decide)) h
theorem zLa:Rn.Worth Tryz.prog F.zcg ⟨10,zqL,zqM⟩:=fun hn h=>zIS (Nat.le_trans hn (by decide)) h
theorem zFZ:Rn.Worth Tryz.prog F.zpT ⟨17,zmw,zmx⟩:=fun hn h=>zDO (Nat.le_trans hn (by decide)) h
theorem zND:Rn.Worth Tryz.prog F.zvZ ⟨3,zsh,zsi⟩:=fun hn h=>zKg (Nat.le_trans hn (by decide)) h
theorem zw4:Rn.Worth Tryz.prog F.zka ⟨4,zfK,zfL⟩:=fun hn h=>zvg (Nat.le_trans hn (by decide)) h
theorem zw5:Rn.Worth Tryz.prog F.zkb ⟨7,zfM,zfN⟩:=fun hn h=>zvh (Nat.le_trans hn (by decide)) h
theorem zy7:Rn.Worth Tryz.prog F.zlt ⟨5,zgD,zgE⟩:=fun hn h=>zww (Nat.le_trans hn (by decide)) h
theorem zy8:Rn.Worth Tryz.prog F.zdS ⟨1,zgF,zgG⟩:=fun hn h=>zwx (Nat.le_trans hn (by decide)) h
theorem zy9:Rn.Worth Tryz.prog F.zgi ⟨1,zgH,zgI⟩:=fun hn h=>zwy (Nat.le_trans hn (by decide)) h
theorem zza:Rn.Worth Tryz.prog F.zlu ⟨52,zgJ,zgK⟩:=fun hn h=>zwz (Nat.le_trans hn (by decide)) h
theorem zzb:Rn.Worth Tryz.prog F.zlv ⟨4,zgL,zgM⟩:=fun hn h=>zwA (Nat.le_trans hn (by decide)) h
theorem zNE:Rn.Worth Tryz.prog F.zpq ⟨7,zsj,zsk⟩:=fun hn h=>zKh (Nat.le_trans hn (by decide)) h
theorem zI2:Rn.Worth Tryz.prog F.zlT ⟨9,zpb,zpc⟩:=fun hn h=>zHg (Nat.le_trans hn (by decide)) h
theorem zI3:Rn.Worth Tryz.prog F.zo5 ⟨58,zpd,zpe⟩:=fun hn h=>zHh (Nat.le_trans hn (by decide)) h
theorem zs7:Rn.Worth Tryz.prog F.zf4 ⟨5,zc6,zc7⟩:=fun hn h=>zrP (Nat.le_trans hn (by decide)) h
theorem zq0:Rn.Worth Tryz.prog F.zdY ⟨5,zb6,zb7⟩:=fun hn h=>zpZ (Nat.le_trans hn (by decide)) h
theorem zF0:Rn.Worth Tryz.prog F.ziL ⟨8,zmy,zmz⟩:=fun hn h=>zDP (Nat.le_trans hn (by decide)) h
theorem zpH:Rn.Worth Tryz.prog F.za9 ⟨19,zbR,zbS⟩:=fun hn h=>zoL (Nat.le_trans hn (by decide)) h
theorem zCE:Rn.Worth Tryz.prog F.zbQ ⟨3,zjC,zjD⟩:=fun hn h=>zAc (Nat.le_trans hn (by decide)) h
theorem zI4:Rn.Worth Tryz.prog F.zo6 ⟨7,zpf,zpg⟩:=fun hn h=>zHi (Nat.le_trans hn (by decide)) h
theorem zH3:Rn.Worth Tryz.prog F.zep ⟨5,zn5,zn6⟩:=fun hn h=>zFD (Nat.le_trans hn (by decide)) h
theorem zI5:Rn.Worth Tryz.prog F.zlV ⟨5,zph,zpi⟩:=fun hn h=>zHj (Nat.le_trans hn (by decide)) h
theorem zuQ:Rn.Worth Tryz.prog F.zhs ⟨5,zd1,zd2⟩:=fun hn h=>ztw (Nat.le_trans hn (by decide)) h
theorem zAW:Rn.Worth Tryz.prog F.zeq ⟨4,zio,ziq⟩:=fun hn h=>zyL (Nat.le_trans hn (by decide)) h
theorem zq1:Rn.Worth Tryz.prog F.zbm ⟨5,zb8,zb9⟩:=fun hn h=>zp0 (Nat.le_trans hn (by decide)) h
theorem zvz:Rn.Worth Tryz.prog F.zcN ⟨8,zeZ,ze0⟩:=fun hn h=>zuC (Nat.le_trans hn (by decide)) h
theorem zrZ:Rn.Worth Tryz.prog F.zbF ⟨3,zcH,zcI⟩:=fun hn h=>zrx (Nat.le_trans hn (by decide)) h
theorem zvA:Rn.Worth Tryz.prog F.zjc ⟨6,ze1,ze2⟩:=fun hn h=>zuD (Nat.le_trans hn (by decide)) h
theorem zpI:Rn.Worth Tryz.prog F.zdi ⟨1,zbT,zbU⟩:=fun hn h=>zoM (Nat.le_trans hn (by decide)) h
theorem zs8:Rn.Worth Tryz.prog F.zaL ⟨5,zc8,zc9⟩:=fun hn h=>zrQ (Nat.le_trans hn (by decide)) h
theorem zll:Rn.Worth Tryz.prog F.zak ⟨21,zaP,zaQ⟩:=fun hn h=>zki (Nat.le_trans hn (by decide)) h
theorem zm6:Rn.Worth Tryz.prog F.zau ⟨21,zbb,zbc⟩:=fun hn h=>zlZ (Nat.le_trans hn (by decide)) h
theorem zzc:Rn.Worth Tryz.prog F.zbK ⟨8,zgN,zgO⟩:=fun hn h=>zwB (Nat.le_trans hn (by decide)) h
theorem zvB:Rn.Worth Tryz.prog F.zbj ⟨3,ze3,ze4⟩:=fun hn h=>zuE (Nat.le_trans hn (by decide)) h
theorem zLb:Rn.Worth Tryz.prog F.zbY ⟨12,zqN,zqO⟩:=fun hn h=>zIT (Nat.le_trans hn (by decide)) h
theorem zNF:Rn.Worth Tryz.prog F.znb ⟨25,zsl,zsm⟩:=fun hn h=>zKi (Nat.le_trans hn (by decide)) h
theorem zEj:Rn.Worth Tryz.prog F.zoI ⟨13,zk0,zk1⟩:=fun hn h=>zB8 (Nat.le_trans hn (by decide)) h
theorem zzd:Rn.Worth Tryz.prog F.zgj ⟨9,zgP,zgQ⟩:=fun hn h=>zwC (Nat.le_trans hn (by decide)) h
theorem zEk:Rn.Worth Tryz.prog F.zoJ ⟨8,zk2,zk3⟩:=fun hn h=>zB9 (Nat.le_trans hn (by decide)) h
theorem zF1:Rn.Worth Tryz.prog F.zpU ⟨13,zmA,zmB⟩:=fun hn h=>zDQ (Nat.le_trans hn (by decide)) h
theorem zAX:Rn.Worth Tryz.prog F.zmU ⟨11,zir,zis⟩:=fun hn h=>zyO (Nat.le_trans hn (by decide)) h
theorem zEl:Rn.Worth Tryz.prog F.zkF ⟨4,zk4,zk5⟩:=fun hn h=>zCa (Nat.le_trans hn (by decide)) h
theorem znC:Rn.Worth Tryz.prog F.zca ⟨2,zbh,zbi⟩:=fun hn h=>zmZ (Nat.le_trans hn (by decide)) h
theorem zNG:Rn.Worth Tryz.prog F.zr6 ⟨17,zsn,zso⟩:=fun hn h=>zKl (Nat.le_trans hn (by decide)) h
theorem zCF:Rn.Worth Tryz.prog F.znR ⟨11,zjE,zjF⟩:=fun hn h=>zAd (Nat.le_trans hn (by decide)) h
theorem zI6:Rn.Worth Tryz.prog F.zsG ⟨3,zpj,zpk⟩:=fun hn h=>zHo (Nat.le_trans hn (by decide)) h
theorem ztQ:Rn.Worth Tryz.prog F.zg1 ⟨4,zdH,zdI⟩:=fun hn h=>zsW (Nat.le_trans hn (by decide)) h
theorem zCG:Rn.Worth Tryz.prog F.zjl ⟨5,zjG,zjH⟩:=fun hn h=>zAe (Nat.le_trans hn (by decide)) h
theorem zuR:Rn.Worth Tryz.prog F.zht ⟨77,zd3,zd4⟩:=fun hn h=>ztz (Nat.le_trans hn (by decide)) h
theorem zw6:Rn.Worth Tryz.prog F.zfu ⟨3,zfO,zfP⟩:=fun hn h=>zvi (Nat.le_trans hn (by decide)) h
theorem zEm:Rn.Worth Tryz.prog F.zed ⟨4,zk6,zk7⟩:=fun hn h=>zCb (Nat.le_trans hn (by decide)) h
theorem zLc:Rn.Worth Tryz.prog F.zug ⟨5,zqP,zqQ⟩:=fun hn h=>zIW (Nat.le_trans hn (by decide)) h
theorem zw7:Rn.Worth Tryz.prog F.zkc ⟨5,zfQ,zfR⟩:=fun hn h=>zvj (Nat.le_trans hn (by decide)) h
theorem zl7:Rn.Worth Tryz.prog F.zbV ⟨8,za3,za4⟩:=fun hn h=>zlA (Nat.le_trans hn (by decide)) h
theorem zss:Rn.Worth Tryz.prog F.zY ⟨3,zfS,zfT⟩:=fun hn h=>zAf (Nat.le_trans hn (by decide)) h
theorem zuS:Rn.Worth Tryz.prog F.zhv ⟨6,zd5,zd6⟩:=fun hn h=>ztA (Nat.le_trans hn (by decide)) h
theorem zs9:Rn.Worth Tryz.prog F.zf5 ⟨9,zda,zdb⟩:=fun hn h=>zrR (Nat.le_trans hn (by decide)) h
theorem zog:Rn.Worth Tryz.prog F.zaB ⟨19,zbn,zbo⟩:=fun hn h=>zno (Nat.le_trans hn (by decide)) h
theorem zAY:Rn.Worth Tryz.prog F.zer ⟨6,ziv,ziw⟩:=fun hn h=>zyR (Nat.le_trans hn (by decide)) h
theorem zw8:Rn.Worth Tryz.prog F.zfv ⟨9,zfU,zfV⟩:=fun hn h=>zvk (Nat.le_trans hn (by decide)) h
theorem zAZ:Rn.Worth Tryz.prog F.zhw ⟨7,zix,ziy⟩:=fun hn h=>zyS (Nat.le_trans hn (by decide)) h
theorem zhg:Rn.Worth Tryz.prog F.za7 ⟨10,zan,zao⟩:=fun hn h=>zg6 (Nat.le_trans hn (by decide)) h
theorem zjj:Rn.Worth Tryz.prog F.zbk ⟨10,zav,zaw⟩:=fun hn h=>ziS (Nat.le_trans hn (by decide)) h
theorem zLd:Rn.Worth Tryz.prog F.zqh ⟨5,zqR,zqS⟩:=fun hn h=>zIX (Nat.le_trans hn (by decide)) h
theorem zA0:Rn.Worth Tryz.prog F.zet ⟨11,ziB,ziC⟩:=fun hn h=>zyT (Nat.le_trans hn (by decide)) h
theorem zw9:Rn.Worth Tryz.prog F.zdj ⟨16,zfY,zfZ⟩:=fun hn h=>zvl (Nat.le_trans hn (by decide)) h
theorem zrH:Rn.Worth Tryz.prog F.zaZ ⟨4,zco,zcp⟩:=fun hn h=>zqT (Nat.le_trans hn (by decide)) h
theorem zH4:Rn.Worth Tryz.prog F.znS ⟨6,zn7,zn8⟩:=fun hn h=>zFI (Nat.le_trans hn (by decide)) h
theorem zEn:Rn.Worth Tryz.prog F.zkG ⟨6,zk8,zk9⟩:=fun hn h=>zCk (Nat.le_trans hn (by decide)) h
theorem zF2:Rn.Worth Tryz.prog F.ziO ⟨6,zmC,zmD⟩:=fun hn h=>zDV (Nat.le_trans hn (by decide)) h
theorem zow:Rn.Worth Tryz.prog F.zcv ⟨10,zbx,zby⟩:=fun hn h=>zn9 (Nat.le_trans hn (by decide)) h
theorem zNH:Rn.Worth Tryz.prog F.zr8 ⟨6,zsp,zsq⟩:=fun hn h=>zKo (Nat.le_trans hn (by decide)) h
theorem zCH:Rn.Worth Tryz.prog F.zfx ⟨3,zjI,zjJ⟩:=fun hn h=>zAk (Nat.le_trans hn (by decide)) h
theorem zH5:Rn.Worth Tryz.prog F.zrp ⟨7,zoa,zob⟩:=fun hn h=>zFJ (Nat.le_trans hn (by decide)) h
theorem zEo:Rn.Worth Tryz.prog F.zcT ⟨5,zla,zlb⟩:=fun hn h=>zCl (Nat.le_trans hn (by decide)) h
theorem zA1:Rn.Worth Tryz.prog F.zhy ⟨5,ziD,ziE⟩:=fun hn h=>zyU (Nat.le_trans hn (by decide)) h
theorem zoh:Rn.Worth Tryz.prog F.zaC ⟨21,zbp,zbq⟩:=fun hn h=>znp (Nat.le_trans hn (by decide)) h
theorem zLe:Rn.Worth Tryz.prog F.zuh ⟨12,zqU,zqV⟩:=fun hn h=>zIY (Nat.le_trans hn (by decide)) h
theorem zvC:Rn.Worth Tryz.prog F.zje ⟨7,ze5,ze6⟩:=fun hn h=>zuH (Nat.le_trans hn (by decide)) h
theorem ztR:Rn.Worth Tryz.prog F.zg3 ⟨7,zdJ,zdK⟩:=fun hn h=>zsZ (Nat.le_trans hn (by decide)) h
theorem zF3:Rn.Worth Tryz.prog F.zpV ⟨3,zmE,zmF⟩:=fun hn h=>zDW (Nat.le_trans hn (by decide)) h
theorem zr0:Rn.Worth Tryz.prog F.zff ⟨4,zcJ,zcK⟩:=fun hn h=>zry (Nat.le_trans hn (by decide)) h
theorem zEp:Rn.Worth Tryz.prog F.zkH ⟨5,zlc,zld⟩:=fun hn h=>zCm (Nat.le_trans hn (by decide)) h
theorem zku:Rn.Worth Tryz.prog F.zbA ⟨8,zaE,zaF⟩:=fun hn h=>zjU (Nat.le_trans hn (by decide)) h
theorem zA2:Rn.Worth Tryz.prog F.zmX ⟨13,ziF,ziG⟩:=fun hn h=>zyX (Nat.le_trans hn (by decide)) h
theorem zkv:Rn.Worth Tryz.prog F.zbB ⟨10,zaG,zaH⟩:=fun hn h=>zjX (Nat.le_trans hn (by decide)) h
theorem zuT:Rn.Worth Tryz.prog F.zhz ⟨12,zd7,zd8⟩:=fun hn h=>ztB (Nat.le_trans hn (by decide)) h
theorem zJE:Rn.T.All (Rn.Worth Tryz.prog) zB := .no (.no (.no (.at zCx (.no (.no (.no (.no (.at zEk (.nil) (.nil)) (.nil)) (.nil)) (.at zyZ (.at zuP (.at zs9 (.nil) (.nil)) (.nil)) (.at zpH (.nil) (.nil)))) (.no (.no (.at zFX (.at zLc (.nil) (.nil)) (.nil)) (.at zw5 (.at ztR (.nil) (.nil)) (.nil))) (.at zEf (.at zH2 (.at zjj (.nil) (.nil)) (.nil)) (.no (.at zkv (.nil) (.nil)) (.nil))))) (.at zFR (.at zAz (.at zAE (.at zH1 (.at zCF (.nil) (.nil)) (.nil)) (.at zs6 (.at zNH (.nil) (.nil)) (.nil))) (.at zvq (.at zNC (.at zhg (.nil) (.nil)) (.nil)) (.at zq1 (.nil) (.nil)))) (.at zAA (.at zI1 (.at zAR (.nil) (.nil)) (.at zI2 (.nil) (.nil))) (.no (.nil) (.at zLb (.at zuT (.nil) (.nil)) (.nil)))))) (.no (.no (.no (.no (.at zrX (.at znC (.nil) (.nil)) (.nil)) (.at zvy (.at zEn (.nil) (.nil)) (.nil))) (.at zAJ (.no (.at zw8 (.nil) (.nil)) (.nil)) (.at zH3 (.nil) (.nil)))) (.no (.no (.at zCC (.nil) (.nil)) (.at zza (.nil) (.nil))) (.nil))) (.no (.at zEc (.at zvn (.at zAQ (.nil) (.nil)) (.at zLa (.at zA1 (.nil) (.nil)) (.nil))) (.at zvr (.at zvx (.nil) (.nil)) (.at zpI (.nil) (.nil)))) (.at zAC (.at zEd (.at zEi (.nil) (.nil)) (.nil)) (.at zAO (.no (.at zA0 (.nil) (.nil)) (.nil)) (.nil)))))) (.no (.no (.at zAy (.no (.no (.at zFV (.at zAX (.nil) (.nil)) (.nil)) (.at zK9 (.at zrH (.nil) (.nil)) (.nil))) (.at zAI (.no (.at zAY (.nil) (.nil)) (.nil)) (.nil))) (.no (.no (.at zEg (.nil) (.nil)) (.at zy8 (.at zr0 (.nil) (.nil)) (.nil))) (.at ztK (.nil) (.at zm6 (.nil) (.nil))))) (.no (.no (.at zAF (.at zy2 (.at ztQ (.nil) (.nil)) (.nil)) (.no (.at zH5 (.nil) (.nil)) (.nil))) (.at zrE (.at zvv (.nil) (.nil)) (.at zrZ (.nil) (.nil)))) (.at zK1 (.at zK4 (.at zNB (.nil) (.nil)) (.at zs7 (.nil) (.nil))) (.at zy1 (.nil) (.nil))))) (.no (.at zyY (.no (.at zNz (.at zrF (.nil) (.nil)) (.at ztP (.at zow (.nil) (.nil)) (.nil))) (.at zvp (.nil) (.at zuQ (.nil) (.nil)))) (.no (.at zvo (.at zEh (.nil) (.nil)) (.at zzb (.nil) (.nil))) (.no (.nil) (.at zzc (.nil) (.nil))))) (.no (.no (.at zwZ (.at zCB (.at zw6 (.nil) (.nil)) (.nil)) (.at zND (.at zLe (.nil) (.nil)) (.nil))) (.at zAM (.at zy5 (.nil) (.nil)) (.at zs8 (.nil) (.nil)))) (.at zAD (.at zK5 (.no (.at zss (.nil) (.nil)) (.nil)) (.nil)) (.no (.at zAV (.nil) (.nil)) (.at zEj (.nil) (.nil)))))))) (.no (.no (.no (.no (.no (.no (.at zFU (.at zF1 (.nil) (.nil)) (.nil)) (.nil)) (.at ztJ (.at ztL (.at zog (.nil) (.nil)) (.nil)) (.at zCE (.nil) (.nil)))) (.no (.no (.at zvs (.at zw7 (.nil) (.nil)) (.nil)) (.at zy7 (.at zF3 (.nil) (.nil)) (.nil))) (.at zAN (.at zhf (.nil) (.nil)) (.at zll (.nil) (.nil))))) (.no (.no (.at zwY (.at zK7 (.at zI6 (.nil) (.nil)) (.nil)) (.at zCD (.at zCH (.nil) (.nil)) (.nil))) (.at zEe (.at zAU (.nil) (.nil)) (.at zvz (.nil) (.nil)))) (.at zK0 (.at zK3 (.at zAS (.nil) (.nil)) (.at zI3 (.at zku (.nil) (.nil)) (.nil))) (.no (.no (.at zLd (.nil) (.nil)) (.nil)) (.at zNF (.nil) (.nil)))))) (.no (.no (.no (.at zI0 (.at zs4 (.nil) (.nil)) (.at ztO (.at zF2 (.nil) (.nil)) (.nil))) (.at zy0 (.at zAT (.at zAZ (.nil) (.nil)) (.nil)) (.at zI5 (.nil) (.nil)))) (.no (.no (.at zy4 (.nil) (.nil)) (.nil)) (.nil))) (.no (.at zFS (.at zAH (.at zy3 (.at zuR (.nil) (.nil)) (.nil)) (.at zFZ (.at zoh (.nil) (.nil)) (.nil))) (.at zAL (.at zrG (.nil) (.nil)) (.nil))) (.at zAx (.at zNA (.at zqZ (.nil) (.nil)) (.nil)) (.no (.at zrY (.at zw9 (.nil) (.nil)) (.nil)) (.nil)))))) (.no (.no (.no (.no (.at zHZ (.at zAP (.at zEl (.nil) (.nil)) (.nil)) (.no (.at zH4 (.nil) (.nil)) (.nil))) (.at zCz (.nil) (.at zI4 (.at zA2 (.nil) (.nil)) (.nil)))) (.no (.no (.at zK8 (.at zl7 (.nil) (.nil)) (.nil)) (.at zy9 (.at zEp (.nil) (.nil)) (.nil))) (.at zw0 (.at zlk (.nil) (.nil)) (.nil)))) (.no (.at zCy (.at zAG (.at zw2 (.at zCG (.nil) (.nil)) (.nil)) (.at zFY (.at zEo (.nil) (.nil)) (.nil))) (.at zAK (.at zvw (.nil) (.nil)) (.at zvA (.nil) (.nil)))) (.at zAB (.at zH0 (.at zvt (.nil) (.nil)) (.at zq0 (.nil) (.nil))) (.at zw1 (.at ztN (.nil) (.nil)) (.nil))))) (.at zFQ (.at zEb (.at zKZ (.at zK2 (.at zs5 (.at zNG (.nil) (.nil)) (.nil)) (.at zw3 (.nil) (.nil))) (.at zFT (.at ztM (.nil) (.nil)) (.at zAW (.nil) (.nil)))) (.at zHY (.no (.nil) (.at zNE (.nil) (.nil))) (.no (.at zy6 (.nil) (.nil)) (.at zvB (.nil) (.nil))))) (.no (.no (.no (.at zFW (.at zEm (.nil) (.nil)) (.nil)) (.at zw4 (.at zvC (.nil) (.nil)) (.nil))) (.at zCA (.nil) (.nil))) (.at zrW (.at zK6 (.at zvu (.at zuS (.nil) (.nil)) (.nil)) (.at zF0 (.nil) (.nil))) (.no (.nil) (.at zzd (.nil) (.nil))))))))
end Go.Proofs.YtpnhjkiligohnaaGreatDoor
namespace Go.Proofs.YtpnhjkiligohnaaGreatDoor
open Go Go.Vm
def bl (b:ByteArray):List UInt8:=b.data.toList
def zUk (a b:ByteArray):Bool:=Op.bytesLess a.toList b.toList
structure FileR where
 name:ByteArray
 safe:ByteArray
 tail:ByteArray
def FileR.all (f:FileR):ByteArray:=f.safe++f.tail
structure zCI where
 limit:Int
 l:List FileR
 left:Int
 down:Bool
def zJF (L:List FileR):Prop:=L.Pairwise fun x y=>zUk x.name y.name=true
def zUl (L:List FileR) (n:ByteArray):Option FileR:=L.find? fun f=>decide (f.name=n)
def zUm (L:List FileR):Nat:=(L.map fun f=>f.safe.size+f.tail.size).sum
structure zVf (D:zCI):Prop where
 sort:zJF D.l
 len:D.l.length≤64
 used:zUm D.l≤1048576
 limit:0≤D.limit∧D.limit≤1048576
 left : -1≤D.left∧D.left≤9223372036854775807
end Go.Proofs.YtpnhjkiligohnaaGreatDoor
namespace Go.Proofs.YtpnhjkiligohnaaGreatDoor
open Go Go.Vm
attribute [local irreducible] Brn Ob Grow CallsM inR zbf zaW Mem.row Mem.cells Mem.setCells Mem.upd Go.Vm.Own zbO zcz zcc zbE New SrcOk zap NewSl Mem.textAt Mem.mapAt Mem.iterAt zaV kfind Wr zch Elems
set_option maxRecDepth 10000
@[reducible] def zUP (k:ByteArray):Value := .string k
structure FX where
 f:Nat
 a:Option Addr
 c:Nat
 p:List UInt8
 safe:Nat
@[reducible] def fxV (x:FX):Value:=ptr x.f
structure zUQ (M:Mem) (x:FX):Prop where
 self:M.has x.f T.zIy [.slice x.a x.p.length x.c,.int .i64 x.safe]
 row:Wr M T.zF 1 x.a x.p.length x.c (x.p.map zi)
def FX.own (x:FX):Nat→Prop:=fun y=>y=x.f∨blk x.a y
def zTs (x y:FX):Prop:=∀ z,x.own z→¬y.own z
abbrev FsT:=List (ByteArray×FX)
structure DAt (M:Mem) (p b:Nat) (D:zCI) (es:FsT):Prop where
 self:M.has p T.zIx [.int .i64 D.limit,.map (some b),.int .i64 D.left,.bool D.down]
 map:MapAt zUP fxV M b es
 ents:∀ q∈es,zUQ M q.2
 apart:es.Pairwise fun x y=>zTs x.2 y.2
def zLf (p b:Nat) (es:FsT):Nat→Prop:=fun y=>y=p∨y=b∨∃ q∈es,q.2.own y
variable {M:Mem} {p b:Nat} {D:zCI} {es:FsT}
def cont (f:FileR):List UInt8×Nat:=(bl f.all,f.safe.size)
structure zUR (es:FsT) (L:List FileR):Prop where
 sort:zJF L
 nodup:(es.map (·.1)).Nodup
 same:∀ n,(zaS es n).map (fun x=>(x.p,x.safe))=(zUl L n).map cont
end Go.Proofs.YtpnhjkiligohnaaGreatDoor
