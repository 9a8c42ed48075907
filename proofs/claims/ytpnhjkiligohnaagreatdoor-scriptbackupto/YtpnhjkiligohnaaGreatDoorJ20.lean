/- Part of this proof;laid by program. -/
import Derived.Test.YtpnhjkiligohnaaGreatDoorJ15
import Derived.Test.YtpnhjkiligohnaaGreatDoorJ19
import Derived.Test.YtpnhjkiligohnaaGreatDoorJ9
import Derived.Sort.Walk0
import Derived.Test.YtpnhjkiligohnaaGreatDoorJ8
import Derived.Shelf.Sort.Plain
import Derived.Shelf.Slices.In.SortNone
set_option linter.unusedVariables false
set_option linter.unusedSimpArgs false
namespace Go.Proofs.YtpnhjkiligohnaaGreatDoor
open Go Go.Vm
set_option maxRecDepth 20000
def zA:Rn.T Rn.FC := .n (.n (.n (.n (.n (.n (.n (.n (.n (.e) (some ⟨8,zk1,zk2⟩) (.e)) none (.e)) none (.e)) none (.n (.n (.n (.e) (some ⟨9,zde,zdf⟩) (.e)) (some ⟨12,zdY,zdZ⟩) (.e)) (some ⟨91,zgp,zgq⟩) (.n (.e) (some ⟨19,zbR,zbS⟩) (.e)))) none (.n (.n (.n (.n (.e) (some ⟨5,zqL,zqM⟩) (.e)) (some ⟨4,zmo,zmp⟩) (.e)) none (.n (.n (.e) (some ⟨7,zdJ,zdK⟩) (.e)) (some ⟨7,zfO,zfP⟩) (.e))) none (.n (.n (.n (.e) (some ⟨10,zax,zay⟩) (.e)) (some ⟨8,znZ,zn0⟩) (.e)) (some ⟨3,zkR,zkS⟩) (.n (.n (.e) (some ⟨10,zaI,zaJ⟩) (.e)) none (.e))))) (some ⟨18,zjo,zjp⟩) (.n (.n (.n (.n (.n (.e) (some ⟨11,zjE,zjF⟩) (.e)) (some ⟨4,znX,znY⟩) (.e)) (some ⟨13,zhO,zhP⟩) (.n (.n (.e) (some ⟨6,zsl,zsm⟩) (.e)) (some ⟨3,zc8,zc9⟩) (.e))) (some ⟨6,zhC,zhD⟩) (.n (.n (.n (.e) (some ⟨10,zan,zao⟩) (.e)) (some ⟨26,zsb,zsc⟩) (.e)) (some ⟨6,zeI,zeJ⟩) (.n (.e) (some ⟨5,zb9,zca⟩) (.e)))) (some ⟨65,zmc,zmd⟩) (.n (.n (.n (.e) (some ⟨13,zie,zif⟩) (.e)) (some ⟨3,zo8,zo9⟩) (.n (.e) (some ⟨9,zpa,zpb⟩) (.e))) (some ⟨12,zhE,zhF⟩) (.n (.e) none (.n (.n (.e) (some ⟨12,zd6,zd7⟩) (.e)) (some ⟨12,zqJ,zqK⟩) (.e)))))) none (.n (.n (.n (.n (.n (.n (.e) (some ⟨2,zbg,zbh⟩) (.e)) (some ⟨3,zcG,zcH⟩) (.e)) none (.n (.n (.e) (some ⟨6,zk7,zk8⟩) (.e)) (some ⟨18,zeY,zeZ⟩) (.e))) none (.n (.n (.n (.e) (some ⟨9,zfW,zfX⟩) (.e)) none (.e)) (some ⟨6,zhY,zhZ⟩) (.n (.e) (some ⟨5,zn1,zn2⟩) (.e)))) none (.n (.n (.n (.e) (some ⟨8,zjy,zjz⟩) (.e)) none (.n (.e) (some ⟨52,zgL,zgM⟩) (.e))) none (.e))) none (.n (.n (.n (.n (.e) (some ⟨14,zic,zid⟩) (.e)) (some ⟨66,zeC,zeD⟩) (.n (.n (.e) (some ⟨5,ziD,ziE⟩) (.e)) (some ⟨10,zqH,zqI⟩) (.e))) (some ⟨5,zkL,zkM⟩) (.n (.n (.e) (some ⟨46,zeW,zeX⟩) (.e)) (some ⟨12,zeK,zeL⟩) (.n (.e) (some ⟨1,zbT,zbU⟩) (.e)))) none (.n (.n (.n (.e) (some ⟨10,zkX,zkY⟩) (.e)) (some ⟨17,zkN,zkO⟩) (.e)) (some ⟨10,zhI,zhJ⟩) (.n (.n (.n (.e) (some ⟨11,ziB,ziC⟩) (.e)) none (.e)) (some ⟨13,zh8,zh9⟩) (.e)))))) none (.n (.n (.n (.n (.n (.n (.n (.e) (some ⟨11,zir,zis⟩) (.e)) (some ⟨3,zmk,zml⟩) (.e)) none (.n (.n (.e) (some ⟨4,zcp,zcq⟩) (.e)) (some ⟨12,zqF,zqG⟩) (.e))) none (.n (.n (.n (.e) (some ⟨6,ziv,ziw⟩) (.e)) none (.e)) (some ⟨3,zhW,zhX⟩) (.e))) (some ⟨14,zhA,zhB⟩) (.n (.n (.n (.e) (some ⟨4,zkT,zkU⟩) (.e)) none (.n (.n (.e) (some ⟨4,zcM,zcN⟩) (.e)) (some ⟨1,zgH,zgI⟩) (.e))) none (.n (.e) (some ⟨21,zdv,zdw⟩) (.n (.e) (some ⟨21,zbb,zbc⟩) (.e))))) none (.n (.n (.n (.n (.n (.e) (some ⟨4,zdH,zdI⟩) (.e)) (some ⟨2,zgv,zgw⟩) (.e)) (some ⟨3,zhQ,zhR⟩) (.n (.n (.e) (some ⟨7,zn6,zn7⟩) (.e)) none (.e))) none (.n (.n (.e) (some ⟨5,zeS,zeT⟩) (.e)) (some ⟨3,zcj,zck⟩) (.n (.e) (some ⟨3,zcK,zcL⟩) (.e)))) none (.n (.n (.n (.e) (some ⟨42,zr9,zsa⟩) (.e)) (some ⟨4,zqo,zqp⟩) (.n (.e) (some ⟨5,zda,zdb⟩) (.e))) (some ⟨4,zqi,zqj⟩) (.n (.e) (some ⟨16,zgt,zgu⟩) (.e))))) none (.n (.n (.n (.n (.n (.e) (some ⟨37,zcl,zcm⟩) (.e)) (some ⟨7,zr5,zr6⟩) (.n (.n (.e) (some ⟨10,zbw,zbx⟩) (.e)) (some ⟨1,zdF,zdG⟩) (.e))) none (.n (.e) (some ⟨16,zeG,zeH⟩) (.n (.e) (some ⟨5,zd0,zd1⟩) (.e)))) (some ⟨5,zgn,zgo⟩) (.n (.n (.n (.e) (some ⟨4,zkV,zkW⟩) (.e)) (some ⟨30,zeE,zeF⟩) (.n (.e) (some ⟨4,zgN,zgO⟩) (.e))) none (.n (.e) none (.n (.e) (some ⟨8,zgP,zgQ⟩) (.e))))) none (.n (.n (.n (.n (.n (.e) (some ⟨3,zfQ,zfR⟩) (.e)) (some ⟨4,zjw,zjx⟩) (.e)) (some ⟨6,zfC,zfD⟩) (.n (.n (.e) (some ⟨12,zqQ,zqR⟩) (.e)) (some ⟨3,zsd,zse⟩) (.e))) none (.n (.n (.e) (some ⟨12,zgB,zgC⟩) (.e)) (some ⟨5,zh4,zh5⟩) (.n (.e) (some ⟨5,zdc,zdd⟩) (.e)))) none (.n (.n (.n (.n (.e) (some ⟨3,zfU,zfV⟩) (.e)) none (.e)) (some ⟨15,zqq,zqr⟩) (.e)) (some ⟨7,zhM,zhN⟩) (.n (.n (.e) (some ⟨9,zim,zin⟩) (.e)) none (.n (.e) (some ⟨13,zkZ,zk0⟩) (.e)))))))) none (.n (.n (.n (.n (.n (.n (.n (.n (.e) (some ⟨13,zmw,zmx⟩) (.e)) (some ⟨7,zmi,zmj⟩) (.e)) none (.e)) none (.n (.n (.n (.e) (some ⟨19,zbn,zbo⟩) (.e)) (some ⟨1,zdx,zdy⟩) (.e)) (some ⟨4,zdt,zdu⟩) (.n (.e) (some ⟨3,zjC,zjD⟩) (.e)))) none (.n (.n (.n (.n (.e) (some ⟨5,zfS,zfT⟩) (.e)) (some ⟨2,zeM,zeN⟩) (.e)) none (.n (.n (.e) (some ⟨3,zmA,zmB⟩) (.e)) (some ⟨5,zgF,zgG⟩) (.e))) none (.n (.n (.e) (some ⟨2,zal,zam⟩) (.e)) (some ⟨9,zh6,zh7⟩) (.n (.e) (some ⟨21,zaS,zaT⟩) (.e))))) none (.n (.n (.n (.n (.n (.e) (some ⟨3,zpi,zpj⟩) (.e)) (some ⟨5,zqw,zqx⟩) (.e)) (some ⟨58,zfA,zfB⟩) (.n (.n (.e) (some ⟨3,zjI,zjJ⟩) (.e)) (some ⟨25,zjA,zjB⟩) (.e))) none (.n (.n (.e) (some ⟨6,zik,zil⟩) (.e)) (some ⟨4,zkP,zkQ⟩) (.n (.e) (some ⟨8,ze0,ze1⟩) (.e)))) none (.n (.n (.n (.e) (some ⟨4,zig,zih⟩) (.e)) (some ⟨5,zqm,zqn⟩) (.n (.n (.e) (some ⟨8,zaG,zaH⟩) (.e)) (some ⟨58,zpc,zpd⟩) (.e))) (some ⟨4,zqg,zqh⟩) (.n (.n (.n (.e) (some ⟨5,zqN,zqO⟩) (.e)) none (.e)) none (.n (.e) (some ⟨25,zsh,zsi⟩) (.e)))))) none (.n (.n (.n (.n (.n (.e) (some ⟨52,zc4,zc5⟩) (.e)) (some ⟨7,zo6,zo7⟩) (.n (.n (.e) (some ⟨6,zmy,zmz⟩) (.e)) (some ⟨13,zdD,zdE⟩) (.e))) none (.n (.n (.n (.e) (some ⟨7,zix,ziy⟩) (.e)) (some ⟨4,zii,zij⟩) (.e)) (some ⟨3,zgr,zgs⟩) (.n (.e) (some ⟨5,zpg,zph⟩) (.e)))) none (.n (.n (.n (.e) (some ⟨5,zgz,zgA⟩) (.e)) none (.e)) none (.e))) none (.n (.n (.n (.n (.n (.e) (some ⟨77,zd2,zd3⟩) (.e)) (some ⟨66,zgx,zgy⟩) (.e)) (some ⟨63,zhU,zhV⟩) (.n (.n (.e) (some ⟨21,zbp,zbq⟩) (.e)) (some ⟨17,zms,zmt⟩) (.e))) (some ⟨3,zme,zmf⟩) (.n (.n (.e) (some ⟨11,zcn,zco⟩) (.e)) (some ⟨10,zh2,zh3⟩) (.e))) none (.n (.n (.n (.e) (some ⟨5,zb5,zb6⟩) (.e)) (some ⟨4,zr7,zr8⟩) (.e)) (some ⟨44,zhK,zhL⟩) (.n (.n (.n (.e) (some ⟨16,zf0,zf1⟩) (.e)) (some ⟨31,zcI,zcJ⟩) (.e)) none (.e)))))) none (.n (.n (.n (.n (.n (.n (.n (.e) (some ⟨4,zk3,zk4⟩) (.e)) (some ⟨3,zia,zib⟩) (.e)) (some ⟨17,znT,znU⟩) (.n (.n (.e) (some ⟨6,zn3,zn4⟩) (.e)) none (.e))) none (.n (.e) (some ⟨28,zjs,zjt⟩) (.n (.n (.e) (some ⟨13,ziF,ziG⟩) (.e)) (some ⟨7,zpe,zpf⟩) (.e)))) none (.n (.n (.n (.n (.e) (some ⟨8,za2,za3⟩) (.e)) (some ⟨41,zqy,zqz⟩) (.e)) none (.n (.n (.e) (some ⟨5,zlb,zlc⟩) (.e)) (some ⟨1,zgJ,zgK⟩) (.e))) none (.n (.n (.e) (some ⟨2,zaQ,zaR⟩) (.e)) (some ⟨11,zfE,zfF⟩) (.e)))) none (.n (.n (.n (.n (.n (.e) (some ⟨5,zjG,zjH⟩) (.e)) (some ⟨3,zfI,zfJ⟩) (.e)) (some ⟨5,zhS,zhT⟩) (.n (.n (.e) (some ⟨5,zk9,zla⟩) (.e)) (some ⟨3,zmq,zmr⟩) (.e))) (some ⟨4,zjq,zjr⟩) (.n (.n (.e) (some ⟨41,zeU,zeV⟩) (.e)) (some ⟨24,zh0,zh1⟩) (.n (.e) (some ⟨6,ze2,ze3⟩) (.e)))) none (.n (.n (.n (.e) (some ⟨11,zeO,zeP⟩) (.e)) (some ⟨25,znV,znW⟩) (.n (.e) (some ⟨5,zb7,zb8⟩) (.e))) (some ⟨7,zhG,zhH⟩) (.n (.n (.e) (some ⟨14,zdB,zdC⟩) (.e)) (some ⟨29,zfG,zfH⟩) (.e))))) none (.n (.n (.n (.n (.n (.n (.e) (some ⟨17,zsj,zsk⟩) (.e)) (some ⟨4,zc6,zc7⟩) (.e)) (some ⟨71,zqk,zql⟩) (.n (.e) (some ⟨14,zfK,zfL⟩) (.e))) (some ⟨126,zqe,zqf⟩) (.n (.n (.e) (some ⟨3,zdz,zdA⟩) (.e)) (some ⟨11,zmg,zmh⟩) (.n (.e) (some ⟨4,zio,ziq⟩) (.e)))) (some ⟨10,zkJ,zkK⟩) (.n (.n (.e) none (.n (.e) (some ⟨7,zsf,zsg⟩) (.e))) (some ⟨5,znR,znS⟩) (.n (.n (.e) (some ⟨3,zgD,zgE⟩) (.e)) none (.n (.e) (some ⟨3,ze4,ze5⟩) (.e))))) (some ⟨25,zma,zmb⟩) (.n (.n (.n (.n (.n (.e) (some ⟨4,zk5,zk6⟩) (.e)) (some ⟨23,zmm,zmn⟩) (.e)) none (.n (.n (.e) (some ⟨7,ze6,ze7⟩) (.e)) (some ⟨4,zfM,zfN⟩) (.e))) none (.n (.e) (some ⟨12,zju,zjv⟩) (.e))) none (.n (.n (.n (.n (.e) (some ⟨6,zd4,zd5⟩) (.e)) (some ⟨30,zeQ,zeR⟩) (.e)) (some ⟨1,zqs,zqt⟩) (.n (.e) (some ⟨8,zmu,zmv⟩) (.e))) (some ⟨3,zcE,zcF⟩) (.n (.e) none (.n (.e) (some ⟨9,zgR,zgS⟩) (.e))))))))
theorem zAE:Rn.Worth Tryz.prog F.zmE ⟨44,zhK,zhL⟩:=fun hn h=>zyh (Nat.le_trans hn (by decide)) h
theorem zCC:Rn.Worth Tryz.prog F.z8 ⟨18,zjo,zjp⟩:=fun hn h=>zzZ (Nat.le_trans hn (by decide)) h
theorem zFL:Rn.Worth Tryz.prog F.zfi ⟨25,zma,zmb⟩:=fun hn h=>zDr (Nat.le_trans hn (by decide)) h
theorem zAF:Rn.Worth Tryz.prog F.zcT ⟨14,zhA,zhB⟩:=fun hn h=>zx0 (Nat.le_trans hn (by decide)) h
theorem zy2:Rn.Worth Tryz.prog F.zbH ⟨5,zgn,zgo⟩:=fun hn h=>zwe (Nat.le_trans hn (by decide)) h
theorem zEb:Rn.Worth Tryz.prog F.zb1 ⟨10,zkJ,zkK⟩:=fun hn h=>zBV (Nat.le_trans hn (by decide)) h
theorem zFM:Rn.Worth Tryz.prog F.zfj ⟨65,zmc,zmd⟩:=fun hn h=>zDu (Nat.le_trans hn (by decide)) h
theorem zKI:Rn.Worth Tryz.prog F.zt3 ⟨126,zqe,zqf⟩:=fun hn h=>zIm (Nat.le_trans hn (by decide)) h
theorem zAG:Rn.Worth Tryz.prog F.zmD ⟨6,zhC,zhD⟩:=fun hn h=>zyb (Nat.le_trans hn (by decide)) h
theorem zCD:Rn.Worth Tryz.prog F.zbP ⟨4,zjq,zjr⟩:=fun hn h=>zz6 (Nat.le_trans hn (by decide)) h
theorem zEc:Rn.Worth Tryz.prog F.zb2 ⟨5,zkL,zkM⟩:=fun hn h=>zBW (Nat.le_trans hn (by decide)) h
theorem zFN:Rn.Worth Tryz.prog F.zcw ⟨3,zme,zmf⟩:=fun hn h=>zDz (Nat.le_trans hn (by decide)) h
theorem zHH:Rn.Worth Tryz.prog F.znJ ⟨5,znR,znS⟩:=fun hn h=>zFn (Nat.le_trans hn (by decide)) h
theorem zAH:Rn.Worth Tryz.prog F.zeh ⟨12,zhE,zhF⟩:=fun hn h=>zye (Nat.le_trans hn (by decide)) h
theorem zKJ:Rn.Worth Tryz.prog F.zt4 ⟨4,zqg,zqh⟩:=fun hn h=>zIn (Nat.le_trans hn (by decide)) h
theorem zKK:Rn.Worth Tryz.prog F.zt5 ⟨4,zqi,zqj⟩:=fun hn h=>zIo (Nat.le_trans hn (by decide)) h
theorem zAI:Rn.Worth Tryz.prog F.zho ⟨7,zhG,zhH⟩:=fun hn h=>zyf (Nat.le_trans hn (by decide)) h
theorem zAJ:Rn.Worth Tryz.prog F.zj ⟨10,zhI,zhJ⟩:=fun hn h=>zyg (Nat.le_trans hn (by decide)) h
theorem zAK:Rn.Worth Tryz.prog F.zmF ⟨7,zhM,zhN⟩:=fun hn h=>zyi (Nat.le_trans hn (by decide)) h
theorem zrS:Rn.Worth Tryz.prog F.zcC ⟨3,zcE,zcF⟩:=fun hn h=>zrp (Nat.le_trans hn (by decide)) h
theorem zHI:Rn.Worth Tryz.prog F.zgX ⟨17,znT,znU⟩:=fun hn h=>zFo (Nat.le_trans hn (by decide)) h
theorem zIH:Rn.Worth Tryz.prog F.zlP ⟨7,zo6,zo7⟩:=fun hn h=>zGT (Nat.le_trans hn (by decide)) h
theorem zNg:Rn.Worth Tryz.prog F.zft ⟨7,zr5,zr6⟩:=fun hn h=>zJR (Nat.le_trans hn (by decide)) h
theorem zKL:Rn.Worth Tryz.prog F.zt6 ⟨71,zqk,zql⟩:=fun hn h=>zIr (Nat.le_trans hn (by decide)) h
theorem zAL:Rn.Worth Tryz.prog F.zhp ⟨13,zhO,zhP⟩:=fun hn h=>zyj (Nat.le_trans hn (by decide)) h
theorem zwX:Rn.Worth Tryz.prog F.za6 ⟨58,zfA,zfB⟩:=fun hn h=>zu0 (Nat.le_trans hn (by decide)) h
theorem zAM:Rn.Worth Tryz.prog F.zmG ⟨3,zhQ,zhR⟩:=fun hn h=>zyk (Nat.le_trans hn (by decide)) h
theorem zAN:Rn.Worth Tryz.prog F.zmH ⟨5,zhS,zhT⟩:=fun hn h=>zyl (Nat.le_trans hn (by decide)) h
theorem zvj:Rn.Worth Tryz.prog F.zi5 ⟨66,zeC,zeD⟩:=fun hn h=>zul (Nat.le_trans hn (by decide)) h
theorem zAO:Rn.Worth Tryz.prog F.zk ⟨63,zhU,zhV⟩:=fun hn h=>zym (Nat.le_trans hn (by decide)) h
theorem zwY:Rn.Worth Tryz.prog F.zj7 ⟨6,zfC,zfD⟩:=fun hn h=>zu1 (Nat.le_trans hn (by decide)) h
theorem zvk:Rn.Worth Tryz.prog F.zey ⟨30,zeE,zeF⟩:=fun hn h=>zum (Nat.le_trans hn (by decide)) h
theorem zII:Rn.Worth Tryz.prog F.za1 ⟨3,zo8,zo9⟩:=fun hn h=>zGU (Nat.le_trans hn (by decide)) h
theorem zKM:Rn.Worth Tryz.prog F.zdV ⟨5,zqm,zqn⟩:=fun hn h=>zIs (Nat.le_trans hn (by decide)) h
theorem zKN:Rn.Worth Tryz.prog F.zqb ⟨4,zqo,zqp⟩:=fun hn h=>zIt (Nat.le_trans hn (by decide)) h
theorem zHJ:Rn.Worth Tryz.prog F.zrh ⟨25,znV,znW⟩:=fun hn h=>zFp (Nat.le_trans hn (by decide)) h
theorem zEd:Rn.Worth Tryz.prog F.zoF ⟨17,zkN,zkO⟩:=fun hn h=>zB1 (Nat.le_trans hn (by decide)) h
theorem zNh:Rn.Worth Tryz.prog F.zvT ⟨4,zr7,zr8⟩:=fun hn h=>zJS (Nat.le_trans hn (by decide)) h
theorem zKO:Rn.Worth Tryz.prog F.zt7 ⟨15,zqq,zqr⟩:=fun hn h=>zIu (Nat.le_trans hn (by decide)) h
theorem zKP:Rn.Worth Tryz.prog F.zt8 ⟨1,zqs,zqt⟩:=fun hn h=>zIv (Nat.le_trans hn (by decide)) h
theorem zy3:Rn.Worth Tryz.prog F.zbI ⟨91,zgp,zgq⟩:=fun hn h=>zwh (Nat.le_trans hn (by decide)) h
theorem ztD:Rn.Worth Tryz.prog F.zgY ⟨4,zdt,zdu⟩:=fun hn h=>zsE (Nat.le_trans hn (by decide)) h
theorem zAP:Rn.Worth Tryz.prog F.zmI ⟨3,zhW,zhX⟩:=fun hn h=>zyv (Nat.le_trans hn (by decide)) h
theorem zCE:Rn.Worth Tryz.prog F.znK ⟨28,zjs,zjt⟩:=fun hn h=>zz9 (Nat.le_trans hn (by decide)) h
theorem zAQ:Rn.Worth Tryz.prog F.zmJ ⟨6,zhY,zhZ⟩:=fun hn h=>zyw (Nat.le_trans hn (by decide)) h
theorem zy4:Rn.Worth Tryz.prog F.zbJ ⟨3,zgr,zgs⟩:=fun hn h=>zwi (Nat.le_trans hn (by decide)) h
theorem zvl:Rn.Worth Tryz.prog F.zi6 ⟨16,zeG,zeH⟩:=fun hn h=>zun (Nat.le_trans hn (by decide)) h
theorem zFO:Rn.Worth Tryz.prog F.zpM ⟨11,zmg,zmh⟩:=fun hn h=>zDE (Nat.le_trans hn (by decide)) h
theorem zvm:Rn.Worth Tryz.prog F.zi7 ⟨6,zeI,zeJ⟩:=fun hn h=>zuo (Nat.le_trans hn (by decide)) h
theorem zEe:Rn.Worth Tryz.prog F.zoG ⟨4,zkP,zkQ⟩:=fun hn h=>zB2 (Nat.le_trans hn (by decide)) h
theorem zrA:Rn.Worth Tryz.prog F.zav ⟨3,zcj,zck⟩:=fun hn h=>zqu (Nat.le_trans hn (by decide)) h
theorem zAR:Rn.Worth Tryz.prog F.zmK ⟨24,zh0,zh1⟩:=fun hn h=>zyx (Nat.le_trans hn (by decide)) h
theorem zvn:Rn.Worth Tryz.prog F.zi8 ⟨12,zeK,zeL⟩:=fun hn h=>zup (Nat.le_trans hn (by decide)) h
theorem zAS:Rn.Worth Tryz.prog F.zcU ⟨10,zh2,zh3⟩:=fun hn h=>zyy (Nat.le_trans hn (by decide)) h
theorem zAT:Rn.Worth Tryz.prog F.zmL ⟨5,zh4,zh5⟩:=fun hn h=>zyz (Nat.le_trans hn (by decide)) h
theorem zCF:Rn.Worth Tryz.prog F.znL ⟨12,zju,zjv⟩:=fun hn h=>zAa (Nat.le_trans hn (by decide)) h
theorem zEf:Rn.Worth Tryz.prog F.zkD ⟨3,zkR,zkS⟩:=fun hn h=>zB3 (Nat.le_trans hn (by decide)) h
theorem zAU:Rn.Worth Tryz.prog F.zei ⟨9,zh6,zh7⟩:=fun hn h=>zyA (Nat.le_trans hn (by decide)) h
theorem ztE:Rn.Worth Tryz.prog F.zgZ ⟨21,zdv,zdw⟩:=fun hn h=>zsF (Nat.le_trans hn (by decide)) h
theorem zwZ:Rn.Worth Tryz.prog F.zj8 ⟨11,zfE,zfF⟩:=fun hn h=>zu4 (Nat.le_trans hn (by decide)) h
theorem zy5:Rn.Worth Tryz.prog F.zct ⟨16,zgt,zgu⟩:=fun hn h=>zwl (Nat.le_trans hn (by decide)) h
theorem zw0:Rn.Worth Tryz.prog F.zdi ⟨29,zfG,zfH⟩:=fun hn h=>zu7 (Nat.le_trans hn (by decide)) h
theorem zAV:Rn.Worth Tryz.prog F.zej ⟨13,zh8,zh9⟩:=fun hn h=>zyD (Nat.le_trans hn (by decide)) h
theorem zFP:Rn.Worth Tryz.prog F.zfk ⟨7,zmi,zmj⟩:=fun hn h=>zDF (Nat.le_trans hn (by decide)) h
theorem zFQ:Rn.Worth Tryz.prog F.zfl ⟨3,zmk,zml⟩:=fun hn h=>zDG (Nat.le_trans hn (by decide)) h
theorem zAW:Rn.Worth Tryz.prog F.zcV ⟨3,zia,zib⟩:=fun hn h=>zyE (Nat.le_trans hn (by decide)) h
theorem zrT:Rn.Worth Tryz.prog F.zfd ⟨3,zcG,zcH⟩:=fun hn h=>zrq (Nat.le_trans hn (by decide)) h
theorem zsZ:Rn.Worth Tryz.prog F.zf5 ⟨52,zc4,zc5⟩:=fun hn h=>zrI (Nat.le_trans hn (by decide)) h
theorem zrB:Rn.Worth Tryz.prog F.zek ⟨37,zcl,zcm⟩:=fun hn h=>zqv (Nat.le_trans hn (by decide)) h
theorem zs0:Rn.Worth Tryz.prog F.zf6 ⟨4,zc6,zc7⟩:=fun hn h=>zrJ (Nat.le_trans hn (by decide)) h
theorem zHK:Rn.Worth Tryz.prog F.zrj ⟨4,znX,znY⟩:=fun hn h=>zFq (Nat.le_trans hn (by decide)) h
theorem zKQ:Rn.Worth Tryz.prog F.zt9 ⟨5,zqw,zqx⟩:=fun hn h=>zIw (Nat.le_trans hn (by decide)) h
theorem zy6:Rn.Worth Tryz.prog F.zdQ ⟨2,zgv,zgw⟩:=fun hn h=>zwm (Nat.le_trans hn (by decide)) h
theorem zw1:Rn.Worth Tryz.prog F.zfu ⟨3,zfI,zfJ⟩:=fun hn h=>zu8 (Nat.le_trans hn (by decide)) h
theorem zAX:Rn.Worth Tryz.prog F.zmM ⟨14,zic,zid⟩:=fun hn h=>zyF (Nat.le_trans hn (by decide)) h
theorem zy7:Rn.Worth Tryz.prog F.zln ⟨66,zgx,zgy⟩:=fun hn h=>zwn (Nat.le_trans hn (by decide)) h
theorem zCG:Rn.Worth Tryz.prog F.znM ⟨4,zjw,zjx⟩:=fun hn h=>zAf (Nat.le_trans hn (by decide)) h
theorem zFR:Rn.Worth Tryz.prog F.zpN ⟨23,zmm,zmn⟩:=fun hn h=>zDH (Nat.le_trans hn (by decide)) h
theorem zFS:Rn.Worth Tryz.prog F.zpO ⟨4,zmo,zmp⟩:=fun hn h=>zDI (Nat.le_trans hn (by decide)) h
theorem zvo:Rn.Worth Tryz.prog F.zi9 ⟨2,zeM,zeN⟩:=fun hn h=>zuq (Nat.le_trans hn (by decide)) h
theorem zEg:Rn.Worth Tryz.prog F.zoH ⟨4,zkT,zkU⟩:=fun hn h=>zB6 (Nat.le_trans hn (by decide)) h
theorem zKR:Rn.Worth Tryz.prog F.zce ⟨41,zqy,zqz⟩:=fun hn h=>zIx (Nat.le_trans hn (by decide)) h
theorem zCH:Rn.Worth Tryz.prog F.zfv ⟨8,zjy,zjz⟩:=fun hn h=>zAg (Nat.le_trans hn (by decide)) h
theorem zy8:Rn.Worth Tryz.prog F.zlo ⟨5,zgz,zgA⟩:=fun hn h=>zwo (Nat.le_trans hn (by decide)) h
theorem zEh:Rn.Worth Tryz.prog F.zoI ⟨4,zkV,zkW⟩:=fun hn h=>zB7 (Nat.le_trans hn (by decide)) h
theorem zAY:Rn.Worth Tryz.prog F.zmN ⟨13,zie,zif⟩:=fun hn h=>zyG (Nat.le_trans hn (by decide)) h
theorem zAZ:Rn.Worth Tryz.prog F.zba ⟨4,zig,zih⟩:=fun hn h=>zyH (Nat.le_trans hn (by decide)) h
theorem zNi:Rn.Worth Tryz.prog F.zvV ⟨42,zr9,zsa⟩:=fun hn h=>zJT (Nat.le_trans hn (by decide)) h
theorem zvp:Rn.Worth Tryz.prog F.zja ⟨11,zeO,zeP⟩:=fun hn h=>zur (Nat.le_trans hn (by decide)) h
theorem zEi:Rn.Worth Tryz.prog F.zoJ ⟨10,zkX,zkY⟩:=fun hn h=>zB8 (Nat.le_trans hn (by decide)) h
theorem zqV:Rn.Worth Tryz.prog F.zdW ⟨5,zb5,zb6⟩:=fun hn h=>zpT (Nat.le_trans hn (by decide)) h
theorem zvq:Rn.Worth Tryz.prog F.zjb ⟨30,zeQ,zeR⟩:=fun hn h=>zus (Nat.le_trans hn (by decide)) h
theorem zuM:Rn.Worth Tryz.prog F.zhq ⟨12,zdY,zdZ⟩:=fun hn h=>ztl (Nat.le_trans hn (by decide)) h
theorem ztF:Rn.Worth Tryz.prog F.zdq ⟨1,zdx,zdy⟩:=fun hn h=>zsG (Nat.le_trans hn (by decide)) h
theorem zA0:Rn.Worth Tryz.prog F.zel ⟨4,zii,zij⟩:=fun hn h=>zyK (Nat.le_trans hn (by decide)) h
theorem ztG:Rn.Worth Tryz.prog F.zb3 ⟨3,zdz,zdA⟩:=fun hn h=>zsH (Nat.le_trans hn (by decide)) h
theorem zNj:Rn.Worth Tryz.prog F.zvW ⟨26,zsb,zsc⟩:=fun hn h=>zJU (Nat.le_trans hn (by decide)) h
theorem zA1:Rn.Worth Tryz.prog F.zmO ⟨6,zik,zil⟩:=fun hn h=>zyL (Nat.le_trans hn (by decide)) h
theorem zvr:Rn.Worth Tryz.prog F.zez ⟨5,zeS,zeT⟩:=fun hn h=>zut (Nat.le_trans hn (by decide)) h
theorem zvs:Rn.Worth Tryz.prog F.zeA ⟨41,zeU,zeV⟩:=fun hn h=>zuu (Nat.le_trans hn (by decide)) h
theorem zvt:Rn.Worth Tryz.prog F.zeB ⟨46,zeW,zeX⟩:=fun hn h=>zuv (Nat.le_trans hn (by decide)) h
theorem zrC:Rn.Worth Tryz.prog F.zem ⟨11,zcn,zco⟩:=fun hn h=>zqA (Nat.le_trans hn (by decide)) h
theorem zy9:Rn.Worth Tryz.prog F.zcu ⟨12,zgB,zgC⟩:=fun hn h=>zwp (Nat.le_trans hn (by decide)) h
theorem zHL:Rn.Worth Tryz.prog F.zrl ⟨8,znZ,zn0⟩:=fun hn h=>zFr (Nat.le_trans hn (by decide)) h
theorem zhf:Rn.Worth Tryz.prog F.za4 ⟨2,zal,zam⟩:=fun hn h=>zg5 (Nat.le_trans hn (by decide)) h
theorem zlj:Rn.Worth Tryz.prog F.zbE ⟨2,zaQ,zaR⟩:=fun hn h=>zkh (Nat.le_trans hn (by decide)) h
theorem zza:Rn.Worth Tryz.prog F.zlp ⟨3,zgD,zgE⟩:=fun hn h=>zws (Nat.le_trans hn (by decide)) h
theorem ztH:Rn.Worth Tryz.prog F.zdr ⟨14,zdB,zdC⟩:=fun hn h=>zsI (Nat.le_trans hn (by decide)) h
theorem zrU:Rn.Worth Tryz.prog F.zfe ⟨31,zcI,zcJ⟩:=fun hn h=>zrt (Nat.le_trans hn (by decide)) h
theorem zA2:Rn.Worth Tryz.prog F.zeo ⟨9,zim,zin⟩:=fun hn h=>zyM (Nat.le_trans hn (by decide)) h
theorem zKS:Rn.Worth Tryz.prog F.zub ⟨12,zqF,zqG⟩:=fun hn h=>zIy (Nat.le_trans hn (by decide)) h
theorem zvu:Rn.Worth Tryz.prog F.zcO ⟨18,zeY,zeZ⟩:=fun hn h=>zuy (Nat.le_trans hn (by decide)) h
theorem ztI:Rn.Worth Tryz.prog F.zaY ⟨13,zdD,zdE⟩:=fun hn h=>zsJ (Nat.le_trans hn (by decide)) h
theorem ztJ:Rn.Worth Tryz.prog F.zds ⟨1,zdF,zdG⟩:=fun hn h=>zsK (Nat.le_trans hn (by decide)) h
theorem zw2:Rn.Worth Tryz.prog F.zj9 ⟨14,zfK,zfL⟩:=fun hn h=>zvb (Nat.le_trans hn (by decide)) h
theorem zs1:Rn.Worth Tryz.prog F.zf7 ⟨3,zc8,zc9⟩:=fun hn h=>zrK (Nat.le_trans hn (by decide)) h
theorem zCI:Rn.Worth Tryz.prog F.znN ⟨25,zjA,zjB⟩:=fun hn h=>zAj (Nat.le_trans hn (by decide)) h
theorem zFT:Rn.Worth Tryz.prog F.zfm ⟨3,zmq,zmr⟩:=fun hn h=>zDN (Nat.le_trans hn (by decide)) h
theorem zKT:Rn.Worth Tryz.prog F.zcf ⟨10,zqH,zqI⟩:=fun hn h=>zIz (Nat.le_trans hn (by decide)) h
theorem zFU:Rn.Worth Tryz.prog F.zpP ⟨17,zms,zmt⟩:=fun hn h=>zDO (Nat.le_trans hn (by decide)) h
theorem zNk:Rn.Worth Tryz.prog F.zvZ ⟨3,zsd,zse⟩:=fun hn h=>zJX (Nat.le_trans hn (by decide)) h
theorem zw3:Rn.Worth Tryz.prog F.zka ⟨4,zfM,zfN⟩:=fun hn h=>zvc (Nat.le_trans hn (by decide)) h
theorem zw4:Rn.Worth Tryz.prog F.zkb ⟨7,zfO,zfP⟩:=fun hn h=>zvd (Nat.le_trans hn (by decide)) h
theorem zzb:Rn.Worth Tryz.prog F.zlq ⟨5,zgF,zgG⟩:=fun hn h=>zwv (Nat.le_trans hn (by decide)) h
theorem zzc:Rn.Worth Tryz.prog F.zdR ⟨1,zgH,zgI⟩:=fun hn h=>zww (Nat.le_trans hn (by decide)) h
theorem zzd:Rn.Worth Tryz.prog F.zgl ⟨1,zgJ,zgK⟩:=fun hn h=>zwx (Nat.le_trans hn (by decide)) h
theorem zze:Rn.Worth Tryz.prog F.zlr ⟨52,zgL,zgM⟩:=fun hn h=>zwy (Nat.le_trans hn (by decide)) h
theorem zzf:Rn.Worth Tryz.prog F.zls ⟨4,zgN,zgO⟩:=fun hn h=>zwz (Nat.le_trans hn (by decide)) h
theorem zNl:Rn.Worth Tryz.prog F.zpp ⟨7,zsf,zsg⟩:=fun hn h=>zJY (Nat.le_trans hn (by decide)) h
theorem zIJ:Rn.Worth Tryz.prog F.zlQ ⟨9,zpa,zpb⟩:=fun hn h=>zGX (Nat.le_trans hn (by decide)) h
theorem zIK:Rn.Worth Tryz.prog F.zo4 ⟨58,zpc,zpd⟩:=fun hn h=>zGY (Nat.le_trans hn (by decide)) h
theorem zs2:Rn.Worth Tryz.prog F.zf8 ⟨5,zda,zdb⟩:=fun hn h=>zrL (Nat.le_trans hn (by decide)) h
theorem zqW:Rn.Worth Tryz.prog F.zdX ⟨5,zb7,zb8⟩:=fun hn h=>zpU (Nat.le_trans hn (by decide)) h
theorem zFV:Rn.Worth Tryz.prog F.ziN ⟨8,zmu,zmv⟩:=fun hn h=>zDP (Nat.le_trans hn (by decide)) h
theorem zpG:Rn.Worth Tryz.prog F.za7 ⟨19,zbR,zbS⟩:=fun hn h=>zoN (Nat.le_trans hn (by decide)) h
theorem zCJ:Rn.Worth Tryz.prog F.zbQ ⟨3,zjC,zjD⟩:=fun hn h=>zAk (Nat.le_trans hn (by decide)) h
theorem zIL:Rn.Worth Tryz.prog F.zo5 ⟨7,zpe,zpf⟩:=fun hn h=>zGZ (Nat.le_trans hn (by decide)) h
theorem zHM:Rn.Worth Tryz.prog F.zep ⟨5,zn1,zn2⟩:=fun hn h=>zFy (Nat.le_trans hn (by decide)) h
theorem zIM:Rn.Worth Tryz.prog F.zlS ⟨5,zpg,zph⟩:=fun hn h=>zG0 (Nat.le_trans hn (by decide)) h
theorem zuN:Rn.Worth Tryz.prog F.zhr ⟨5,zd0,zd1⟩:=fun hn h=>ztq (Nat.le_trans hn (by decide)) h
theorem zA3:Rn.Worth Tryz.prog F.zeq ⟨4,zio,ziq⟩:=fun hn h=>zyP (Nat.le_trans hn (by decide)) h
theorem zqX:Rn.Worth Tryz.prog F.zbm ⟨5,zb9,zca⟩:=fun hn h=>zpV (Nat.le_trans hn (by decide)) h
theorem zvv:Rn.Worth Tryz.prog F.zcP ⟨8,ze0,ze1⟩:=fun hn h=>zuz (Nat.le_trans hn (by decide)) h
theorem zrV:Rn.Worth Tryz.prog F.zbF ⟨3,zcK,zcL⟩:=fun hn h=>zru (Nat.le_trans hn (by decide)) h
theorem zvw:Rn.Worth Tryz.prog F.zjc ⟨6,ze2,ze3⟩:=fun hn h=>zuA (Nat.le_trans hn (by decide)) h
theorem zpH:Rn.Worth Tryz.prog F.zdk ⟨1,zbT,zbU⟩:=fun hn h=>zoO (Nat.le_trans hn (by decide)) h
theorem zs3:Rn.Worth Tryz.prog F.zaN ⟨5,zdc,zdd⟩:=fun hn h=>zrM (Nat.le_trans hn (by decide)) h
theorem zlk:Rn.Worth Tryz.prog F.zak ⟨21,zaS,zaT⟩:=fun hn h=>zki (Nat.le_trans hn (by decide)) h
theorem zm2:Rn.Worth Tryz.prog F.zaw ⟨21,zbb,zbc⟩:=fun hn h=>zlW (Nat.le_trans hn (by decide)) h
theorem zzg:Rn.Worth Tryz.prog F.zbK ⟨8,zgP,zgQ⟩:=fun hn h=>zwA (Nat.le_trans hn (by decide)) h
theorem zvx:Rn.Worth Tryz.prog F.zbi ⟨3,ze4,ze5⟩:=fun hn h=>zuB (Nat.le_trans hn (by decide)) h
theorem zKU:Rn.Worth Tryz.prog F.zbZ ⟨12,zqJ,zqK⟩:=fun hn h=>zIA (Nat.le_trans hn (by decide)) h
theorem zNm:Rn.Worth Tryz.prog F.zna ⟨25,zsh,zsi⟩:=fun hn h=>zJZ (Nat.le_trans hn (by decide)) h
theorem zEj:Rn.Worth Tryz.prog F.zoK ⟨13,zkZ,zk0⟩:=fun hn h=>zCd (Nat.le_trans hn (by decide)) h
theorem zzh:Rn.Worth Tryz.prog F.zgm ⟨9,zgR,zgS⟩:=fun hn h=>zwB (Nat.le_trans hn (by decide)) h
theorem zEk:Rn.Worth Tryz.prog F.zoL ⟨8,zk1,zk2⟩:=fun hn h=>zCe (Nat.le_trans hn (by decide)) h
theorem zFW:Rn.Worth Tryz.prog F.zpQ ⟨13,zmw,zmx⟩:=fun hn h=>zDQ (Nat.le_trans hn (by decide)) h
theorem zA4:Rn.Worth Tryz.prog F.zmP ⟨11,zir,zis⟩:=fun hn h=>zyS (Nat.le_trans hn (by decide)) h
theorem zEl:Rn.Worth Tryz.prog F.zkE ⟨4,zk3,zk4⟩:=fun hn h=>zCf (Nat.le_trans hn (by decide)) h
theorem znA:Rn.Worth Tryz.prog F.zcb ⟨2,zbg,zbh⟩:=fun hn h=>zmV (Nat.le_trans hn (by decide)) h
theorem zNn:Rn.Worth Tryz.prog F.zr2 ⟨17,zsj,zsk⟩:=fun hn h=>zJ2 (Nat.le_trans hn (by decide)) h
theorem zCK:Rn.Worth Tryz.prog F.znO ⟨11,zjE,zjF⟩:=fun hn h=>zAl (Nat.le_trans hn (by decide)) h
theorem zIN:Rn.Worth Tryz.prog F.zsC ⟨3,zpi,zpj⟩:=fun hn h=>zG5 (Nat.le_trans hn (by decide)) h
theorem ztK:Rn.Worth Tryz.prog F.zg1 ⟨4,zdH,zdI⟩:=fun hn h=>zsR (Nat.le_trans hn (by decide)) h
theorem zCL:Rn.Worth Tryz.prog F.zjl ⟨5,zjG,zjH⟩:=fun hn h=>zAm (Nat.le_trans hn (by decide)) h
theorem zuO:Rn.Worth Tryz.prog F.zhs ⟨77,zd2,zd3⟩:=fun hn h=>ztt (Nat.le_trans hn (by decide)) h
theorem zw5:Rn.Worth Tryz.prog F.zfw ⟨3,zfQ,zfR⟩:=fun hn h=>zve (Nat.le_trans hn (by decide)) h
theorem zEm:Rn.Worth Tryz.prog F.zeb ⟨4,zk5,zk6⟩:=fun hn h=>zCg (Nat.le_trans hn (by decide)) h
theorem zKV:Rn.Worth Tryz.prog F.zud ⟨5,zqL,zqM⟩:=fun hn h=>zID (Nat.le_trans hn (by decide)) h
theorem zw6:Rn.Worth Tryz.prog F.zkc ⟨5,zfS,zfT⟩:=fun hn h=>zvf (Nat.le_trans hn (by decide)) h
theorem zl4:Rn.Worth Tryz.prog F.zbW ⟨8,za2,za3⟩:=fun hn h=>zlx (Nat.le_trans hn (by decide)) h
theorem zso:Rn.Worth Tryz.prog F.zaa ⟨3,zfU,zfV⟩:=fun hn h=>zAn (Nat.le_trans hn (by decide)) h
theorem zuP:Rn.Worth Tryz.prog F.zhu ⟨6,zd4,zd5⟩:=fun hn h=>ztu (Nat.le_trans hn (by decide)) h
theorem zs4:Rn.Worth Tryz.prog F.zf9 ⟨9,zde,zdf⟩:=fun hn h=>zrN (Nat.le_trans hn (by decide)) h
theorem zod:Rn.Worth Tryz.prog F.zaE ⟨19,zbn,zbo⟩:=fun hn h=>znm (Nat.le_trans hn (by decide)) h
theorem zA5:Rn.Worth Tryz.prog F.zer ⟨6,ziv,ziw⟩:=fun hn h=>zyV (Nat.le_trans hn (by decide)) h
theorem zw7:Rn.Worth Tryz.prog F.zfx ⟨9,zfW,zfX⟩:=fun hn h=>zvg (Nat.le_trans hn (by decide)) h
theorem zA6:Rn.Worth Tryz.prog F.zhv ⟨7,zix,ziy⟩:=fun hn h=>zyW (Nat.le_trans hn (by decide)) h
theorem zhg:Rn.Worth Tryz.prog F.za5 ⟨10,zan,zao⟩:=fun hn h=>zg6 (Nat.le_trans hn (by decide)) h
theorem zjj:Rn.Worth Tryz.prog F.zbj ⟨10,zax,zay⟩:=fun hn h=>ziU (Nat.le_trans hn (by decide)) h
theorem zKW:Rn.Worth Tryz.prog F.zqd ⟨5,zqN,zqO⟩:=fun hn h=>zIE (Nat.le_trans hn (by decide)) h
theorem zA7:Rn.Worth Tryz.prog F.zet ⟨11,ziB,ziC⟩:=fun hn h=>zyX (Nat.le_trans hn (by decide)) h
theorem zw8:Rn.Worth Tryz.prog F.zdl ⟨16,zf0,zf1⟩:=fun hn h=>zvh (Nat.le_trans hn (by decide)) h
theorem zrD:Rn.Worth Tryz.prog F.zaZ ⟨4,zcp,zcq⟩:=fun hn h=>zqP (Nat.le_trans hn (by decide)) h
theorem zHN:Rn.Worth Tryz.prog F.znP ⟨6,zn3,zn4⟩:=fun hn h=>zFD (Nat.le_trans hn (by decide)) h
theorem zEn:Rn.Worth Tryz.prog F.zkF ⟨6,zk7,zk8⟩:=fun hn h=>zCp (Nat.le_trans hn (by decide)) h
theorem zFX:Rn.Worth Tryz.prog F.ziQ ⟨6,zmy,zmz⟩:=fun hn h=>zDV (Nat.le_trans hn (by decide)) h
theorem zoy:Rn.Worth Tryz.prog F.zcx ⟨10,zbw,zbx⟩:=fun hn h=>zn5 (Nat.le_trans hn (by decide)) h
theorem zNo:Rn.Worth Tryz.prog F.zr4 ⟨6,zsl,zsm⟩:=fun hn h=>zJ5 (Nat.le_trans hn (by decide)) h
theorem zCM:Rn.Worth Tryz.prog F.zfz ⟨3,zjI,zjJ⟩:=fun hn h=>zAs (Nat.le_trans hn (by decide)) h
theorem zHO:Rn.Worth Tryz.prog F.zrm ⟨7,zn6,zn7⟩:=fun hn h=>zFE (Nat.le_trans hn (by decide)) h
theorem zEo:Rn.Worth Tryz.prog F.zcW ⟨5,zk9,zla⟩:=fun hn h=>zCq (Nat.le_trans hn (by decide)) h
theorem zA8:Rn.Worth Tryz.prog F.zhx ⟨5,ziD,ziE⟩:=fun hn h=>zyY (Nat.le_trans hn (by decide)) h
theorem zoe:Rn.Worth Tryz.prog F.zaF ⟨21,zbp,zbq⟩:=fun hn h=>znn (Nat.le_trans hn (by decide)) h
theorem zKX:Rn.Worth Tryz.prog F.zue ⟨12,zqQ,zqR⟩:=fun hn h=>zIF (Nat.le_trans hn (by decide)) h
theorem zvy:Rn.Worth Tryz.prog F.zje ⟨7,ze6,ze7⟩:=fun hn h=>zuE (Nat.le_trans hn (by decide)) h
theorem ztL:Rn.Worth Tryz.prog F.zg3 ⟨7,zdJ,zdK⟩:=fun hn h=>zsU (Nat.le_trans hn (by decide)) h
theorem zFY:Rn.Worth Tryz.prog F.zpR ⟨3,zmA,zmB⟩:=fun hn h=>zDW (Nat.le_trans hn (by decide)) h
theorem zrW:Rn.Worth Tryz.prog F.zff ⟨4,zcM,zcN⟩:=fun hn h=>zrv (Nat.le_trans hn (by decide)) h
theorem zEp:Rn.Worth Tryz.prog F.zkG ⟨5,zlb,zlc⟩:=fun hn h=>zCr (Nat.le_trans hn (by decide)) h
theorem zku:Rn.Worth Tryz.prog F.zbA ⟨8,zaG,zaH⟩:=fun hn h=>zjU (Nat.le_trans hn (by decide)) h
theorem zA9:Rn.Worth Tryz.prog F.zmS ⟨13,ziF,ziG⟩:=fun hn h=>zy1 (Nat.le_trans hn (by decide)) h
theorem zkv:Rn.Worth Tryz.prog F.zbB ⟨10,zaI,zaJ⟩:=fun hn h=>zjX (Nat.le_trans hn (by decide)) h
theorem zuQ:Rn.Worth Tryz.prog F.zhy ⟨12,zd6,zd7⟩:=fun hn h=>ztv (Nat.le_trans hn (by decide)) h
theorem zJp:Rn.T.All (Rn.Worth Tryz.prog) zA := .no (.no (.no (.at zCC (.no (.no (.no (.no (.at zEk (.nil) (.nil)) (.nil)) (.nil)) (.at zy3 (.at zuM (.at zs4 (.nil) (.nil)) (.nil)) (.at zpG (.nil) (.nil)))) (.no (.no (.at zFS (.at zKV (.nil) (.nil)) (.nil)) (.at zw4 (.at ztL (.nil) (.nil)) (.nil))) (.at zEf (.at zHL (.at zjj (.nil) (.nil)) (.nil)) (.no (.at zkv (.nil) (.nil)) (.nil))))) (.at zFM (.at zAG (.at zAL (.at zHK (.at zCK (.nil) (.nil)) (.nil)) (.at zs1 (.at zNo (.nil) (.nil)) (.nil))) (.at zvm (.at zNj (.at zhg (.nil) (.nil)) (.nil)) (.at zqX (.nil) (.nil)))) (.at zAH (.at zII (.at zAY (.nil) (.nil)) (.at zIJ (.nil) (.nil))) (.no (.nil) (.at zKU (.at zuQ (.nil) (.nil)) (.nil)))))) (.no (.no (.no (.no (.at zrT (.at znA (.nil) (.nil)) (.nil)) (.at zvu (.at zEn (.nil) (.nil)) (.nil))) (.at zAQ (.no (.at zw7 (.nil) (.nil)) (.nil)) (.at zHM (.nil) (.nil)))) (.no (.no (.at zCH (.nil) (.nil)) (.at zze (.nil) (.nil))) (.nil))) (.no (.at zEc (.at zvj (.at zAX (.nil) (.nil)) (.at zKT (.at zA8 (.nil) (.nil)) (.nil))) (.at zvn (.at zvt (.nil) (.nil)) (.at zpH (.nil) (.nil)))) (.at zAJ (.at zEd (.at zEi (.nil) (.nil)) (.nil)) (.at zAV (.no (.at zA7 (.nil) (.nil)) (.nil)) (.nil)))))) (.no (.no (.at zAF (.no (.no (.at zFQ (.at zA4 (.nil) (.nil)) (.nil)) (.at zKS (.at zrD (.nil) (.nil)) (.nil))) (.at zAP (.no (.at zA5 (.nil) (.nil)) (.nil)) (.nil))) (.no (.no (.at zEg (.nil) (.nil)) (.at zzc (.at zrW (.nil) (.nil)) (.nil))) (.at ztE (.nil) (.at zm2 (.nil) (.nil))))) (.no (.no (.at zAM (.at zy6 (.at ztK (.nil) (.nil)) (.nil)) (.no (.at zHO (.nil) (.nil)) (.nil))) (.at zrA (.at zvr (.nil) (.nil)) (.at zrV (.nil) (.nil)))) (.at zKK (.at zKN (.at zNi (.nil) (.nil)) (.at zs2 (.nil) (.nil))) (.at zy5 (.nil) (.nil))))) (.no (.at zy2 (.no (.at zNg (.at zrB (.nil) (.nil)) (.at ztJ (.at zoy (.nil) (.nil)) (.nil))) (.at zvl (.nil) (.at zuN (.nil) (.nil)))) (.no (.at zvk (.at zEh (.nil) (.nil)) (.at zzf (.nil) (.nil))) (.no (.nil) (.at zzg (.nil) (.nil))))) (.no (.no (.at zwY (.at zCG (.at zw5 (.nil) (.nil)) (.nil)) (.at zNk (.at zKX (.nil) (.nil)) (.nil))) (.at zAT (.at zy9 (.nil) (.nil)) (.at zs3 (.nil) (.nil)))) (.at zAK (.at zKO (.no (.at zso (.nil) (.nil)) (.nil)) (.nil)) (.no (.at zA2 (.nil) (.nil)) (.at zEj (.nil) (.nil)))))))) (.no (.no (.no (.no (.no (.no (.at zFP (.at zFW (.nil) (.nil)) (.nil)) (.nil)) (.at ztD (.at ztF (.at zod (.nil) (.nil)) (.nil)) (.at zCJ (.nil) (.nil)))) (.no (.no (.at zvo (.at zw6 (.nil) (.nil)) (.nil)) (.at zzb (.at zFY (.nil) (.nil)) (.nil))) (.at zAU (.at zhf (.nil) (.nil)) (.at zlk (.nil) (.nil))))) (.no (.no (.at zwX (.at zKQ (.at zIN (.nil) (.nil)) (.nil)) (.at zCI (.at zCM (.nil) (.nil)) (.nil))) (.at zEe (.at zA1 (.nil) (.nil)) (.at zvv (.nil) (.nil)))) (.at zKJ (.at zKM (.at zAZ (.nil) (.nil)) (.at zIK (.at zku (.nil) (.nil)) (.nil))) (.no (.no (.at zKW (.nil) (.nil)) (.nil)) (.at zNm (.nil) (.nil)))))) (.no (.no (.no (.at zIH (.at zsZ (.nil) (.nil)) (.at ztI (.at zFX (.nil) (.nil)) (.nil))) (.at zy4 (.at zA0 (.at zA6 (.nil) (.nil)) (.nil)) (.at zIM (.nil) (.nil)))) (.no (.no (.at zy8 (.nil) (.nil)) (.nil)) (.nil))) (.no (.at zFN (.at zAO (.at zy7 (.at zuO (.nil) (.nil)) (.nil)) (.at zFU (.at zoe (.nil) (.nil)) (.nil))) (.at zAS (.at zrC (.nil) (.nil)) (.nil))) (.at zAE (.at zNh (.at zqV (.nil) (.nil)) (.nil)) (.no (.at zrU (.at zw8 (.nil) (.nil)) (.nil)) (.nil)))))) (.no (.no (.no (.no (.at zHI (.at zAW (.at zEl (.nil) (.nil)) (.nil)) (.no (.at zHN (.nil) (.nil)) (.nil))) (.at zCE (.nil) (.at zIL (.at zA9 (.nil) (.nil)) (.nil)))) (.no (.no (.at zKR (.at zl4 (.nil) (.nil)) (.nil)) (.at zzd (.at zEp (.nil) (.nil)) (.nil))) (.at zwZ (.at zlj (.nil) (.nil)) (.nil)))) (.no (.at zCD (.at zAN (.at zw1 (.at zCL (.nil) (.nil)) (.nil)) (.at zFT (.at zEo (.nil) (.nil)) (.nil))) (.at zAR (.at zvs (.nil) (.nil)) (.at zvw (.nil) (.nil)))) (.at zAI (.at zHJ (.at zvp (.nil) (.nil)) (.at zqW (.nil) (.nil))) (.at zw0 (.at ztH (.nil) (.nil)) (.nil))))) (.at zFL (.at zEb (.at zKI (.at zKL (.at zs0 (.at zNn (.nil) (.nil)) (.nil)) (.at zw2 (.nil) (.nil))) (.at zFO (.at ztG (.nil) (.nil)) (.at zA3 (.nil) (.nil)))) (.at zHH (.no (.nil) (.at zNl (.nil) (.nil))) (.no (.at zza (.nil) (.nil)) (.at zvx (.nil) (.nil))))) (.no (.no (.no (.at zFR (.at zEm (.nil) (.nil)) (.nil)) (.at zw3 (.at zvy (.nil) (.nil)) (.nil))) (.at zCF (.nil) (.nil))) (.at zrS (.at zKP (.at zvq (.at zuP (.nil) (.nil)) (.nil)) (.at zFV (.nil) (.nil))) (.no (.nil) (.at zzh (.nil) (.nil))))))))
end Go.Proofs.YtpnhjkiligohnaaGreatDoor
namespace Go.Proofs.YtpnhjkiligohnaaGreatDoor
open Go Go.Vm
def bl (b:ByteArray):List UInt8:=b.data.toList
def zT4 (a b:ByteArray):Bool:=Op.bytesLess a.toList b.toList
structure FileR where
 name:ByteArray
 safe:ByteArray
 tail:ByteArray
def FileR.all (f:FileR):ByteArray:=f.safe++f.tail
structure zCN where
 limit:Int
 l:List FileR
 left:Int
 down:Bool
def zJq (L:List FileR):Prop:=L.Pairwise fun x y=>zT4 x.name y.name=true
def zT5 (L:List FileR) (n:ByteArray):Option FileR:=L.find? fun f=>decide (f.name=n)
def zT6 (L:List FileR):Nat:=(L.map fun f=>f.safe.size+f.tail.size).sum
structure zU8 (D:zCN):Prop where
 sort:zJq D.l
 len:D.l.length≤64
 used:zT6 D.l≤1048576
 limit:0≤D.limit∧D.limit≤1048576
 left : -1≤D.left∧D.left≤9223372036854775807
end Go.Proofs.YtpnhjkiligohnaaGreatDoor
namespace Go.Proofs.YtpnhjkiligohnaaGreatDoor
open Go Go.Vm
attribute [local irreducible] Brn Ob Grow CallsM inR zbd za9 Mem.row Mem.cells Mem.setCells Mem.upd Go.Vm.Own zbN zcZ zcB zbV New SrcOk zat NewSl Mem.textAt Mem.mapAt Mem.iterAt za8 kfind Wr NewEls Elems
set_option maxRecDepth 10000
@[reducible] def zUB (k:ByteArray):Value := .string k
structure FX where
 f:Nat
 a:Option Addr
 c:Nat
 p:List UInt8
 safe:Nat
@[reducible] def fxV (x:FX):Value:=ptr x.f
structure zUC (M:Mem) (x:FX):Prop where
 self:M.has x.f T.zIh [.slice x.a x.p.length x.c,.int .i64 x.safe]
 row:Wr M T.zM 1 x.a x.p.length x.c (x.p.map zy)
def FX.own (x:FX):Nat→Prop:=fun y=>y=x.f∨blk x.a y
def zTa (x y:FX):Prop:=∀ z,x.own z→¬y.own z
abbrev FsT:=List (ByteArray×FX)
structure DAt (M:Mem) (p b:Nat) (D:zCN) (es:FsT):Prop where
 self:M.has p T.zIg [.int .i64 D.limit,.map (some b),.int .i64 D.left,.bool D.down]
 map:MapAt zUB fxV M b es
 ents:∀ q∈es,zUC M q.2
 apart:es.Pairwise fun x y=>zTa x.2 y.2
def zKY (p b:Nat) (es:FsT):Nat→Prop:=fun y=>y=p∨y=b∨∃ q∈es,q.2.own y
variable {M:Mem} {p b:Nat} {D:zCN} {es:FsT}
def cont (f:FileR):List UInt8×Nat:=(bl f.all,f.safe.size)
structure zUD (es:FsT) (L:List FileR):Prop where
 sort:zJq L
 nodup:(es.map (·.1)).Nodup
 same:∀ n,(zaO es n).map (fun x=>(x.p,x.safe))=(zT5 L n).map cont
end Go.Proofs.YtpnhjkiligohnaaGreatDoor
