/- Part of this proof;laid by program. -/
import Derived.Test.YtdgikhhkgnjalaaGreatJ14
import Derived.Test.YtdgikhhkgnjalaaGreatJ18
import Derived.Test.YtdgikhhkgnjalaaGreatJ7
import Derived.Test.YtdgikhhkgnjalaaGreatJ19
set_option linter.unusedVariables false
set_option linter.unusedSimpArgs false
namespace Go.Proofs.YtdgikhhkgnjalaaGreat
open Go Go.Vm
set_option maxRecDepth 20000
def zq:Rn.T Rn.FC := .n (.n (.n (.n (.n (.n (.n (.n (.n (.e) (some ⟨5,zoO,zoP⟩) (.e)) (some ⟨1,zcs,zct⟩) (.e)) (some ⟨3,zbn,zbo⟩) (.n (.e) (some ⟨10,zoH,zoI⟩) (.e))) (some ⟨12,zgu,zgv⟩) (.n (.n (.n (.e) (some ⟨5,zjE,zjF⟩) (.e)) (some ⟨5,zb0,zb1⟩) (.e)) (some ⟨12,zos,zot⟩) (.e))) (some ⟨10,zgo,zgp⟩) (.n (.n (.n (.e) (some ⟨3,zia,zib⟩) (.e)) none (.e)) (some ⟨3,zgC,zgD⟩) (.n (.n (.e) (some ⟨1,zfu,zfv⟩) (.e)) none (.n (.e) (some ⟨9,zeA,zeB⟩) (.e))))) none (.n (.n (.n (.n (.e) (some ⟨26,zp5,zp6⟩) (.e)) (some ⟨12,zdx,zdy⟩) (.n (.e) (some ⟨5,zcO,zcP⟩) (.e))) none (.n (.n (.e) (some ⟨25,zmh,zmi⟩) (.e)) (some ⟨7,zp1,zp2⟩) (.n (.e) (some ⟨6,zkW,zkX⟩) (.e)))) none (.n (.n (.e) (some ⟨4,zoq,zor⟩) (.e)) (some ⟨4,zoj,zok⟩) (.n (.n (.n (.e) (some ⟨3,zk0,zk1⟩) (.e)) none (.e)) (some ⟨30,zdH,zdI⟩) (.n (.e) (some ⟨11,zig,zih⟩) (.e)))))) none (.n (.n (.n (.n (.e) (some ⟨3,zgI,zgJ⟩) (.e)) (some ⟨58,zei,zej⟩) (.n (.n (.n (.e) (some ⟨13,zhm,zhn⟩) (.e)) none (.e)) (some ⟨29,zeo,zep⟩) (.n (.e) (some ⟨4,zbr,zbs⟩) (.e)))) (some ⟨6,zh0,zh1⟩) (.n (.n (.n (.e) (some ⟨25,zp7,zp8⟩) (.e)) none (.e)) (some ⟨4,zbY,zbZ⟩) (.n (.n (.e) (some ⟨58,zni,znj⟩) (.e)) (some ⟨11,zdF,zdG⟩) (.n (.e) (some ⟨21,zan,zao⟩) (.e))))) none (.n (.n (.n (.n (.e) (some ⟨11,zbp,zbq⟩) (.e)) (some ⟨3,zji,zjj⟩) (.e)) none (.n (.n (.e) (some ⟨4,zes,zet⟩) (.e)) (some ⟨41,zow,zox⟩) (.n (.e) (some ⟨3,zie,zif⟩) (.e)))) none (.n (.n (.n (.e) (some ⟨9,zfo,zfp⟩) (.e)) (some ⟨9,zgU,zgV⟩) (.e)) (some ⟨16,zdt,zdu⟩) (.n (.n (.e) (some ⟨3,zb4,zb5⟩) (.e)) (some ⟨4,zh8,zh9⟩) (.n (.e) (some ⟨5,zii,zij⟩) (.e))))))) none (.n (.n (.n (.n (.n (.n (.e) (some ⟨2,zfk,zfl⟩) (.e)) (some ⟨91,zfc,zfd⟩) (.n (.e) (some ⟨3,zqd,zqe⟩) (.e))) (some ⟨5,zgy,zgz⟩) (.n (.n (.e) (some ⟨4,zju,zjv⟩) (.e)) (some ⟨18,zdz,zdA⟩) (.e))) (some ⟨7,zgs,zgt⟩) (.n (.n (.n (.n (.e) (some ⟨6,zcS,zcT⟩) (.e)) (some ⟨3,zdN,zdO⟩) (.e)) none (.e)) (some ⟨52,zbW,zbX⟩) (.n (.e) (some ⟨4,zg0,zg1⟩) (.n (.e) (some ⟨7,zhi,zhj⟩) (.e))))) (some ⟨6,ze4,ze5⟩) (.n (.n (.n (.n (.e) (some ⟨5,zdJ,zdK⟩) (.e)) (some ⟨5,zgQ,zgR⟩) (.n (.e) (some ⟨5,zbd,zbe⟩) (.e))) none (.n (.n (.e) (some ⟨15,zoD,zoE⟩) (.e)) (some ⟨2,zdD,zdE⟩) (.e))) (some ⟨17,zje,zjf⟩) (.n (.n (.n (.e) (some ⟨13,zjq,zjr⟩) (.e)) none (.n (.e) (some ⟨5,zoJ,zoK⟩) (.e))) (some ⟨7,zgE,zgF⟩) (.n (.n (.n (.e) (some ⟨21,zay,zaz⟩) (.e)) (some ⟨8,zkQ,zkR⟩) (.e)) (some ⟨14,zg2,zg3⟩) (.n (.e) (some ⟨4,zcw,zcx⟩) (.e)))))) (some ⟨14,zgm,zgn⟩) (.n (.n (.n (.n (.n (.n (.e) (some ⟨17,zqh,zqi⟩) (.e)) none (.e)) (some ⟨28,zh2,zh3⟩) (.n (.e) (some ⟨5,zmj,zmk⟩) (.e))) (some ⟨6,zek,zel⟩) (.n (.e) (some ⟨3,zkI,zkJ⟩) (.n (.e) (some ⟨6,zml,zmm⟩) (.e)))) none (.n (.n (.n (.e) (some ⟨7,zp9,zqa⟩) (.e)) (some ⟨1,zaX,zaY⟩) (.e)) (some ⟨41,zdr,zds⟩) (.n (.n (.n (.e) (some ⟨7,zdR,zdS⟩) (.e)) (some ⟨5,zbb,zbc⟩) (.e)) (some ⟨5,za9,zba⟩) (.n (.e) (some ⟨4,zmq,zmr⟩) (.e))))) none (.n (.n (.n (.n (.e) (some ⟨8,zmf,zmg⟩) (.e)) (some ⟨21,zcm,zcn⟩) (.e)) (some ⟨12,ze8,ze9⟩) (.n (.n (.e) (some ⟨5,zfq,zfr⟩) (.e)) (some ⟨5,zfg,zfh⟩) (.n (.e) (some ⟨5,zjC,zjD⟩) (.e)))) (some ⟨1,zkE,zkF⟩) (.n (.n (.n (.e) (some ⟨3,zbG,zbH⟩) (.e)) none (.n (.e) (some ⟨11,zhc,zhd⟩) (.e))) (some ⟨6,zdv,zdw⟩) (.n (.e) (some ⟨4,zkM,zkN⟩) (.n (.e) (some ⟨77,zcQ,zcR⟩) (.e)))))))) none (.n (.n (.n (.n (.n (.n (.n (.n (.e) (some ⟨5,zeE,zeF⟩) (.e)) none (.e)) (some ⟨24,zgG,zgH⟩) (.n (.e) (some ⟨17,zkU,zkV⟩) (.e))) (some ⟨3,zgw,zgx⟩) (.n (.n (.e) (some ⟨11,zg8,zg9⟩) (.e)) none (.e))) (some ⟨44,zgq,zgr⟩) (.n (.n (.n (.n (.e) (some ⟨3,zeG,zeH⟩) (.e)) (some ⟨8,zfm,zfn⟩) (.e)) none (.e)) (some ⟨3,zbC,zbD⟩) (.n (.n (.e) (some ⟨52,zfw,zfx⟩) (.e)) (some ⟨13,zgY,zgZ⟩) (.n (.e) (some ⟨5,zhg,zhh⟩) (.e))))) none (.n (.n (.n (.n (.e) (some ⟨6,zg6,zg7⟩) (.e)) (some ⟨10,zgO,zgP⟩) (.n (.e) (some ⟨4,zha,zhb⟩) (.e))) none (.n (.n (.e) (some ⟨4,zqb,zqc⟩) (.e)) (some ⟨71,zou,zov⟩) (.n (.e) (some ⟨10,zaF,zaG⟩) (.e)))) none (.n (.n (.e) (some ⟨14,zco,zcp⟩) (.n (.e) (some ⟨3,zfA,zfB⟩) (.e))) (some ⟨4,zol,zom⟩) (.n (.n (.n (.e) (some ⟨4,zbI,zbJ⟩) (.e)) none (.e)) (some ⟨3,zeq,zer⟩) (.n (.e) (some ⟨3,znq,znr⟩) (.e)))))) (some ⟨6,zgk,zgl⟩) (.n (.n (.n (.n (.n (.e) (some ⟨4,zg4,zg5⟩) (.e)) (some ⟨13,zgK,zgL⟩) (.n (.e) (some ⟨7,znk,znl⟩) (.e))) (some ⟨63,zgA,zgB⟩) (.n (.n (.n (.e) (some ⟨10,zK,zL⟩) (.e)) (some ⟨2,z5,z6⟩) (.e)) (some ⟨13,zgW,zgX⟩) (.n (.e) (some ⟨3,zno,znp⟩) (.e)))) (some ⟨7,ze6,ze7⟩) (.n (.n (.e) (some ⟨16,zfe,zff⟩) (.e)) (some ⟨30,zdp,zdq⟩) (.n (.n (.e) (some ⟨5,zb2,zb3⟩) (.e)) (some ⟨10,zjo,zjp⟩) (.e)))) none (.n (.n (.n (.e) (some ⟨9,zgS,zgT⟩) (.n (.n (.e) (some ⟨10,zY,zZ⟩) (.e)) none (.e))) (some ⟨5,zmb,zmc⟩) (.n (.n (.n (.e) (some ⟨10,zO,zP⟩) (.e)) (some ⟨7,zeu,zev⟩) (.e)) (some ⟨8,zh6,zh7⟩) (.n (.e) (some ⟨7,zmo,zmp⟩) (.e)))) none (.n (.n (.n (.e) (some ⟨8,zjs,zjt⟩) (.e)) none (.e)) (some ⟨11,zkG,zkH⟩) (.n (.n (.e) (some ⟨25,zic,zid⟩) (.e)) (some ⟨23,zkK,zkL⟩) (.e)))))) none (.n (.n (.n (.n (.n (.n (.n (.e) (some ⟨2,zar,zas⟩) (.e)) none (.e)) (some ⟨4,zck,zcl⟩) (.n (.e) (some ⟨19,zaZ,za0⟩) (.e))) (some ⟨66,zdn,zdo⟩) (.n (.n (.e) (some ⟨2,zI,zJ⟩) (.e)) (some ⟨13,zcq,zcr⟩) (.e))) none (.n (.n (.n (.n (.e) (some ⟨9,zb6,zb7⟩) (.e)) (some ⟨12,zoB,zoC⟩) (.e)) none (.e)) (some ⟨37,zbl,zbm⟩) (.n (.n (.e) (some ⟨4,zfy,zfz⟩) (.e)) (some ⟨42,zp3,zp4⟩) (.n (.e) (some ⟨21,z7,z8⟩) (.e))))) none (.n (.n (.n (.n (.e) (some ⟨46,zdL,zdM⟩) (.e)) (some ⟨12,zh4,zh5⟩) (.n (.n (.e) (some ⟨12,zcU,zcV⟩) (.e)) (some ⟨6,zdP,zdQ⟩) (.e))) none (.n (.n (.e) (some ⟨1,zoF,zoG⟩) (.e)) (some ⟨4,zjk,zjl⟩) (.n (.e) (some ⟨6,zqf,zqg⟩) (.e)))) (some ⟨3,zbA,zbB⟩) (.n (.n (.n (.e) (some ⟨9,zng,znh⟩) (.e)) (some ⟨31,zbE,zbF⟩) (.n (.e) (some ⟨4,zjy,zjz⟩) (.e))) (some ⟨3,zfa,zfb⟩) (.n (.n (.n (.e) (some ⟨12,zoQ,zoR⟩) (.e)) (some ⟨14,zew,zex⟩) (.e)) (some ⟨66,zfi,zfj⟩) (.n (.e) (some ⟨1,zcy,zcz⟩) (.e)))))) none (.n (.n (.n (.n (.n (.n (.e) (some ⟨8,zaf,zag⟩) (.e)) (some ⟨3,zcu,zcv⟩) (.e)) (some ⟨6,zgM,zgN⟩) (.n (.e) (some ⟨5,znm,znn⟩) (.e))) none (.n (.e) (some ⟨8,zdB,zdC⟩) (.n (.e) (some ⟨6,zjA,zjB⟩) (.e)))) none (.n (.n (.e) (some ⟨5,zoo,zop⟩) (.e)) (some ⟨5,zmd,zme⟩) (.n (.n (.n (.e) (some ⟨7,zcA,zcB⟩) (.e)) none (.e)) none (.n (.e) (some ⟨5,zoM,zoN⟩) (.e))))) (some ⟨3,zkC,zkD⟩) (.n (.n (.n (.n (.e) (some ⟨19,zaw,zax⟩) (.e)) (some ⟨11,zem,zen⟩) (.n (.e) (some ⟨8,zW,zX⟩) (.e))) (some ⟨7,zne,znf⟩) (.n (.n (.e) (some ⟨1,zfs,zft⟩) (.e)) (some ⟨4,zjm,zjn⟩) (.n (.e) (some ⟨6,zhe,zhf⟩) (.e)))) (some ⟨126,zog,zoh⟩) (.n (.n (.n (.n (.e) (some ⟨7,zkY,zkZ⟩) (.e)) (some ⟨13,zkO,zkP⟩) (.e)) none (.n (.e) (some ⟨16,zey,zez⟩) (.e))) (some ⟨4,zjg,zjh⟩) (.n (.n (.e) (some ⟨3,zkS,zkT⟩) (.e)) (some ⟨12,zcM,zcN⟩) (.n (.e) (some ⟨3,zeC,zeD⟩) (.e))))))))
theorem zxT:Rn.Worth Tryz.prog F.zaJ ⟨6,zgk,zgl⟩:=fun hn h=>zva (Nat.le_trans hn (by decide)) h
theorem zxU:Rn.Worth Tryz.prog F.za5 ⟨14,zgm,zgn⟩:=fun hn h=>zvb (Nat.le_trans hn (by decide)) h
theorem zBH:Rn.Worth Tryz.prog F.zd2 ⟨3,zkC,zkD⟩:=fun hn h=>zz6 (Nat.le_trans hn (by decide)) h
theorem zxV:Rn.Worth Tryz.prog F.zh ⟨10,zgo,zgp⟩:=fun hn h=>zvg (Nat.le_trans hn (by decide)) h
theorem zxW:Rn.Worth Tryz.prog F.zf8 ⟨7,zgs,zgt⟩:=fun hn h=>zvi (Nat.le_trans hn (by decide)) h
theorem zAJ:Rn.Worth Tryz.prog F.zfF ⟨17,zje,zjf⟩:=fun hn h=>zy1 (Nat.le_trans hn (by decide)) h
theorem zpN:Rn.Worth Tryz.prog F.zal ⟨3,zbA,zbB⟩:=fun hn h=>zpk (Nat.le_trans hn (by decide)) h
theorem zBI:Rn.Worth Tryz.prog F.znM ⟨1,zkE,zkF⟩:=fun hn h=>zz9 (Nat.le_trans hn (by decide)) h
theorem zFC:Rn.Worth Tryz.prog F.zrM ⟨126,zog,zoh⟩:=fun hn h=>zDw (Nat.le_trans hn (by decide)) h
theorem zxX:Rn.Worth Tryz.prog F.zc3 ⟨12,zgu,zgv⟩:=fun hn h=>zvr (Nat.le_trans hn (by decide)) h
theorem zxY:Rn.Worth Tryz.prog F.zk2 ⟨3,zgw,zgx⟩:=fun hn h=>zvs (Nat.le_trans hn (by decide)) h
theorem zxZ:Rn.Worth Tryz.prog F.zk3 ⟨5,zgy,zgz⟩:=fun hn h=>zvt (Nat.le_trans hn (by decide)) h
theorem zs1:Rn.Worth Tryz.prog F.zhI ⟨66,zdn,zdo⟩:=fun hn h=>zrZ (Nat.le_trans hn (by decide)) h
theorem zuq:Rn.Worth Tryz.prog F.zaj ⟨58,zei,zej⟩:=fun hn h=>zsI (Nat.le_trans hn (by decide)) h
theorem zx0:Rn.Worth Tryz.prog F.zi ⟨63,zgA,zgB⟩:=fun hn h=>zvu (Nat.le_trans hn (by decide)) h
theorem zur:Rn.Worth Tryz.prog F.ziF ⟨6,zek,zel⟩:=fun hn h=>zsJ (Nat.le_trans hn (by decide)) h
theorem zv8:Rn.Worth Tryz.prog F.zbu ⟨12,ze8,ze9⟩:=fun hn h=>ztJ (Nat.le_trans hn (by decide)) h
theorem zDP:Rn.Worth Tryz.prog F.zkk ⟨7,zne,znf⟩:=fun hn h=>zCq (Nat.le_trans hn (by decide)) h
theorem zx1:Rn.Worth Tryz.prog F.zbO ⟨3,zgC,zgD⟩:=fun hn h=>zvB (Nat.le_trans hn (by decide)) h
theorem zpO:Rn.Worth Tryz.prog F.zdX ⟨3,zbC,zbD⟩:=fun hn h=>zpl (Nat.le_trans hn (by decide)) h
theorem zqS:Rn.Worth Tryz.prog F.zeL ⟨52,zbW,zbX⟩:=fun hn h=>zpD (Nat.le_trans hn (by decide)) h
theorem zpw:Rn.Worth Tryz.prog F.zc4 ⟨37,zbl,zbm⟩:=fun hn h=>zoi (Nat.le_trans hn (by decide)) h
theorem zqT:Rn.Worth Tryz.prog F.zeM ⟨4,zbY,zbZ⟩:=fun hn h=>zpE (Nat.le_trans hn (by decide)) h
theorem zs2:Rn.Worth Tryz.prog F.zdk ⟨30,zdp,zdq⟩:=fun hn h=>zr0 (Nat.le_trans hn (by decide)) h
theorem zs3:Rn.Worth Tryz.prog F.zbK ⟨41,zdr,zds⟩:=fun hn h=>zr1 (Nat.le_trans hn (by decide)) h
theorem zDg:Rn.Worth Tryz.prog F.zl3 ⟨5,zmd,zme⟩:=fun hn h=>zBk (Nat.le_trans hn (by decide)) h
theorem zFD:Rn.Worth Tryz.prog F.zrN ⟨4,zoj,zok⟩:=fun hn h=>zDx (Nat.le_trans hn (by decide)) h
theorem zFE:Rn.Worth Tryz.prog F.zrO ⟨4,zol,zom⟩:=fun hn h=>zDy (Nat.le_trans hn (by decide)) h
theorem zx2:Rn.Worth Tryz.prog F.zf9 ⟨7,zgE,zgF⟩:=fun hn h=>zvC (Nat.le_trans hn (by decide)) h
theorem zv9:Rn.Worth Tryz.prog F.zaR ⟨3,zfa,zfb⟩:=fun hn h=>ztK (Nat.le_trans hn (by decide)) h
theorem zs4:Rn.Worth Tryz.prog F.zhJ ⟨16,zdt,zdu⟩:=fun hn h=>zr2 (Nat.le_trans hn (by decide)) h
theorem zBJ:Rn.Worth Tryz.prog F.znN ⟨11,zkG,zkH⟩:=fun hn h=>zAa (Nat.le_trans hn (by decide)) h
theorem zs5:Rn.Worth Tryz.prog F.zhK ⟨6,zdv,zdw⟩:=fun hn h=>zr3 (Nat.le_trans hn (by decide)) h
theorem zAK:Rn.Worth Tryz.prog F.zmQ ⟨4,zjg,zjh⟩:=fun hn h=>zy4 (Nat.le_trans hn (by decide)) h
theorem zpx:Rn.Worth Tryz.prog F.zM ⟨3,zbn,zbo⟩:=fun hn h=>zon (Nat.le_trans hn (by decide)) h
theorem zx3:Rn.Worth Tryz.prog F.zk4 ⟨24,zgG,zgH⟩:=fun hn h=>zvD (Nat.le_trans hn (by decide)) h
theorem zwa:Rn.Worth Tryz.prog F.zaS ⟨91,zfc,zfd⟩:=fun hn h=>ztL (Nat.le_trans hn (by decide)) h
theorem zrs:Rn.Worth Tryz.prog F.zfG ⟨4,zck,zcl⟩:=fun hn h=>zqx (Nat.le_trans hn (by decide)) h
theorem zx4:Rn.Worth Tryz.prog F.zk5 ⟨3,zgI,zgJ⟩:=fun hn h=>zvE (Nat.le_trans hn (by decide)) h
theorem zx5:Rn.Worth Tryz.prog F.zga ⟨13,zgK,zgL⟩:=fun hn h=>zvF (Nat.le_trans hn (by decide)) h
theorem zzF:Rn.Worth Tryz.prog F.zl4 ⟨28,zh2,zh3⟩:=fun hn h=>zxn (Nat.le_trans hn (by decide)) h
theorem zx6:Rn.Worth Tryz.prog F.zk6 ⟨6,zgM,zgN⟩:=fun hn h=>zvG (Nat.le_trans hn (by decide)) h
theorem zs6:Rn.Worth Tryz.prog F.zhL ⟨12,zdx,zdy⟩:=fun hn h=>zr4 (Nat.le_trans hn (by decide)) h
theorem zx7:Rn.Worth Tryz.prog F.zbP ⟨10,zgO,zgP⟩:=fun hn h=>zvH (Nat.le_trans hn (by decide)) h
theorem zx8:Rn.Worth Tryz.prog F.zk7 ⟨5,zgQ,zgR⟩:=fun hn h=>zvI (Nat.le_trans hn (by decide)) h
theorem zzG:Rn.Worth Tryz.prog F.zl5 ⟨12,zh4,zh5⟩:=fun hn h=>zxo (Nat.le_trans hn (by decide)) h
theorem zAL:Rn.Worth Tryz.prog F.zi8 ⟨3,zji,zjj⟩:=fun hn h=>zy5 (Nat.le_trans hn (by decide)) h
theorem zx9:Rn.Worth Tryz.prog F.zc5 ⟨9,zgS,zgT⟩:=fun hn h=>zvJ (Nat.le_trans hn (by decide)) h
theorem zrt:Rn.Worth Tryz.prog F.zfH ⟨21,zcm,zcn⟩:=fun hn h=>zqy (Nat.le_trans hn (by decide)) h
theorem zus:Rn.Worth Tryz.prog F.ziG ⟨11,zem,zen⟩:=fun hn h=>zsM (Nat.le_trans hn (by decide)) h
theorem zwb:Rn.Worth Tryz.prog F.zbv ⟨16,zfe,zff⟩:=fun hn h=>ztO (Nat.le_trans hn (by decide)) h
theorem znJ:Rn.Worth Tryz.prog F.zca ⟨1,zaX,zaY⟩:=fun hn h=>zmX (Nat.le_trans hn (by decide)) h
theorem zFF:Rn.Worth Tryz.prog F.zcJ ⟨5,zoo,zop⟩:=fun hn h=>zDz (Nat.le_trans hn (by decide)) h
theorem zFG:Rn.Worth Tryz.prog F.zod ⟨4,zoq,zor⟩:=fun hn h=>zDA (Nat.le_trans hn (by decide)) h
theorem zru:Rn.Worth Tryz.prog F.zch ⟨14,zco,zcp⟩:=fun hn h=>zqz (Nat.le_trans hn (by decide)) h
theorem zpP:Rn.Worth Tryz.prog F.zdY ⟨31,zbE,zbF⟩:=fun hn h=>zpm (Nat.le_trans hn (by decide)) h
theorem zya:Rn.Worth Tryz.prog F.zc6 ⟨9,zgU,zgV⟩:=fun hn h=>zvK (Nat.le_trans hn (by decide)) h
theorem zFH:Rn.Worth Tryz.prog F.zrP ⟨12,zos,zot⟩:=fun hn h=>zDB (Nat.le_trans hn (by decide)) h
theorem zs7:Rn.Worth Tryz.prog F.zbL ⟨18,zdz,zdA⟩:=fun hn h=>zr5 (Nat.le_trans hn (by decide)) h
theorem zrv:Rn.Worth Tryz.prog F.zab ⟨13,zcq,zcr⟩:=fun hn h=>zqA (Nat.le_trans hn (by decide)) h
theorem zut:Rn.Worth Tryz.prog F.zcc ⟨29,zeo,zep⟩:=fun hn h=>zsP (Nat.le_trans hn (by decide)) h
theorem zyb:Rn.Worth Tryz.prog F.zc7 ⟨13,zgW,zgX⟩:=fun hn h=>zvL (Nat.le_trans hn (by decide)) h
theorem zBK:Rn.Worth Tryz.prog F.zd3 ⟨3,zkI,zkJ⟩:=fun hn h=>zAd (Nat.le_trans hn (by decide)) h
theorem zs8:Rn.Worth Tryz.prog F.zbM ⟨8,zdB,zdC⟩:=fun hn h=>zr6 (Nat.le_trans hn (by decide)) h
theorem zHZ:Rn.Worth Tryz.prog F.zea ⟨7,zp1,zp2⟩:=fun hn h=>zEO (Nat.le_trans hn (by decide)) h
theorem zFI:Rn.Worth Tryz.prog F.zrQ ⟨71,zou,zov⟩:=fun hn h=>zDC (Nat.le_trans hn (by decide)) h
theorem zs9:Rn.Worth Tryz.prog F.zhM ⟨2,zdD,zdE⟩:=fun hn h=>zr7 (Nat.le_trans hn (by decide)) h
theorem zAM:Rn.Worth Tryz.prog F.zmR ⟨4,zjk,zjl⟩:=fun hn h=>zy8 (Nat.le_trans hn (by decide)) h
theorem zFJ:Rn.Worth Tryz.prog F.zbj ⟨41,zow,zox⟩:=fun hn h=>zDD (Nat.le_trans hn (by decide)) h
theorem zzH:Rn.Worth Tryz.prog F.zeb ⟨8,zh6,zh7⟩:=fun hn h=>zxt (Nat.le_trans hn (by decide)) h
theorem zwc:Rn.Worth Tryz.prog F.zjR ⟨5,zfg,zfh⟩:=fun hn h=>ztR (Nat.le_trans hn (by decide)) h
theorem zAN:Rn.Worth Tryz.prog F.zmS ⟨4,zjm,zjn⟩:=fun hn h=>zy9 (Nat.le_trans hn (by decide)) h
theorem zyc:Rn.Worth Tryz.prog F.zk8 ⟨13,zgY,zgZ⟩:=fun hn h=>zvM (Nat.le_trans hn (by decide)) h
theorem zyd:Rn.Worth Tryz.prog F.zam ⟨4,zg0,zg1⟩:=fun hn h=>zvN (Nat.le_trans hn (by decide)) h
theorem zH0:Rn.Worth Tryz.prog F.ztx ⟨42,zp3,zp4⟩:=fun hn h=>zEP (Nat.le_trans hn (by decide)) h
theorem zta:Rn.Worth Tryz.prog F.zhN ⟨11,zdF,zdG⟩:=fun hn h=>zr8 (Nat.le_trans hn (by decide)) h
theorem zAO:Rn.Worth Tryz.prog F.zmT ⟨10,zjo,zjp⟩:=fun hn h=>zza (Nat.le_trans hn (by decide)) h
theorem zoV:Rn.Worth Tryz.prog F.zcK ⟨5,za9,zba⟩:=fun hn h=>znU (Nat.le_trans hn (by decide)) h
theorem ztb:Rn.Worth Tryz.prog F.zhO ⟨30,zdH,zdI⟩:=fun hn h=>zr9 (Nat.le_trans hn (by decide)) h
theorem zuu:Rn.Worth Tryz.prog F.zec ⟨3,zeq,zer⟩:=fun hn h=>zsQ (Nat.le_trans hn (by decide)) h
theorem zye:Rn.Worth Tryz.prog F.zk9 ⟨14,zg2,zg3⟩:=fun hn h=>zvQ (Nat.le_trans hn (by decide)) h
theorem zwd:Rn.Worth Tryz.prog F.zjS ⟨66,zfi,zfj⟩:=fun hn h=>ztS (Nat.le_trans hn (by decide)) h
theorem zzI:Rn.Worth Tryz.prog F.zl6 ⟨4,zh8,zh9⟩:=fun hn h=>zxu (Nat.le_trans hn (by decide)) h
theorem zBL:Rn.Worth Tryz.prog F.znO ⟨23,zkK,zkL⟩:=fun hn h=>zAg (Nat.le_trans hn (by decide)) h
theorem zBM:Rn.Worth Tryz.prog F.znP ⟨4,zkM,zkN⟩:=fun hn h=>zAh (Nat.le_trans hn (by decide)) h
theorem zss:Rn.Worth Tryz.prog F.zgb ⟨12,zcM,zcN⟩:=fun hn h=>zq8 (Nat.le_trans hn (by decide)) h
theorem zrw:Rn.Worth Tryz.prog F.zci ⟨1,zcs,zct⟩:=fun hn h=>zqB (Nat.le_trans hn (by decide)) h
theorem zwe:Rn.Worth Tryz.prog F.zcE ⟨2,zfk,zfl⟩:=fun hn h=>ztT (Nat.le_trans hn (by decide)) h
theorem zyf:Rn.Worth Tryz.prog F.zc8 ⟨4,zg4,zg5⟩:=fun hn h=>zvR (Nat.le_trans hn (by decide)) h
theorem zrx:Rn.Worth Tryz.prog F.za7 ⟨3,zcu,zcv⟩:=fun hn h=>zqC (Nat.le_trans hn (by decide)) h
theorem zH1:Rn.Worth Tryz.prog F.zty ⟨26,zp5,zp6⟩:=fun hn h=>zEQ (Nat.le_trans hn (by decide)) h
theorem zyg:Rn.Worth Tryz.prog F.zla ⟨6,zg6,zg7⟩:=fun hn h=>zvS (Nat.le_trans hn (by decide)) h
theorem ztc:Rn.Worth Tryz.prog F.zdl ⟨5,zdJ,zdK⟩:=fun hn h=>zsa (Nat.le_trans hn (by decide)) h
theorem ztd:Rn.Worth Tryz.prog F.zdm ⟨46,zdL,zdM⟩:=fun hn h=>zsb (Nat.le_trans hn (by decide)) h
theorem zpy:Rn.Worth Tryz.prog F.zc9 ⟨11,zbp,zbq⟩:=fun hn h=>zoy (Nat.le_trans hn (by decide)) h
theorem zDh:Rn.Worth Tryz.prog F.zpg ⟨8,zmf,zmg⟩:=fun hn h=>zBn (Nat.le_trans hn (by decide)) h
theorem zmx:Rn.Worth Tryz.prog F.zU ⟨19,zaw,zax⟩:=fun hn h=>zlC (Nat.le_trans hn (by decide)) h
theorem zzJ:Rn.Worth Tryz.prog F.zaW ⟨3,zia,zib⟩:=fun hn h=>zxx (Nat.le_trans hn (by decide)) h
theorem zwf:Rn.Worth Tryz.prog F.zaT ⟨8,zfm,zfn⟩:=fun hn h=>ztU (Nat.le_trans hn (by decide)) h
theorem zte:Rn.Worth Tryz.prog F.zat ⟨3,zdN,zdO⟩:=fun hn h=>zsc (Nat.le_trans hn (by decide)) h
theorem zFK:Rn.Worth Tryz.prog F.za4 ⟨12,zoB,zoC⟩:=fun hn h=>zDE (Nat.le_trans hn (by decide)) h
theorem zH2:Rn.Worth Tryz.prog F.zlr ⟨25,zp7,zp8⟩:=fun hn h=>zER (Nat.le_trans hn (by decide)) h
theorem zH3:Rn.Worth Tryz.prog F.znx ⟨7,zp9,zqa⟩:=fun hn h=>zES (Nat.le_trans hn (by decide)) h
theorem zAP:Rn.Worth Tryz.prog F.zmU ⟨13,zjq,zjr⟩:=fun hn h=>zzb (Nat.le_trans hn (by decide)) h
theorem zDQ:Rn.Worth Tryz.prog F.zkl ⟨9,zng,znh⟩:=fun hn h=>zCx (Nat.le_trans hn (by decide)) h
theorem zwg:Rn.Worth Tryz.prog F.ze2 ⟨9,zfo,zfp⟩:=fun hn h=>ztV (Nat.le_trans hn (by decide)) h
theorem zAQ:Rn.Worth Tryz.prog F.zmV ⟨8,zjs,zjt⟩:=fun hn h=>zzc (Nat.le_trans hn (by decide)) h
theorem zpQ:Rn.Worth Tryz.prog F.zaO ⟨3,zbG,zbH⟩:=fun hn h=>zpn (Nat.le_trans hn (by decide)) h
theorem zBN:Rn.Worth Tryz.prog F.znQ ⟨13,zkO,zkP⟩:=fun hn h=>zAi (Nat.le_trans hn (by decide)) h
theorem zqU:Rn.Worth Tryz.prog F.z2 ⟨5,zb0,zb1⟩:=fun hn h=>zpF (Nat.le_trans hn (by decide)) h
theorem zyh:Rn.Worth Tryz.prog F.zlb ⟨11,zg8,zg9⟩:=fun hn h=>zvT (Nat.le_trans hn (by decide)) h
theorem zAR:Rn.Worth Tryz.prog F.zi9 ⟨4,zju,zjv⟩:=fun hn h=>zzd (Nat.le_trans hn (by decide)) h
theorem zfW:Rn.Worth Tryz.prog F.zah ⟨2,zI,zJ⟩:=fun hn h=>zfN (Nat.le_trans hn (by decide)) h
theorem zjK:Rn.Worth Tryz.prog F.zaN ⟨2,z5,z6⟩:=fun hn h=>ziP (Nat.le_trans hn (by decide)) h
theorem zDi:Rn.Worth Tryz.prog F.zph ⟨25,zmh,zmi⟩:=fun hn h=>zBq (Nat.le_trans hn (by decide)) h
theorem zH4:Rn.Worth Tryz.prog F.ztB ⟨4,zqb,zqc⟩:=fun hn h=>zET (Nat.le_trans hn (by decide)) h
theorem zFL:Rn.Worth Tryz.prog F.zrS ⟨15,zoD,zoE⟩:=fun hn h=>zDH (Nat.le_trans hn (by decide)) h
theorem zFM:Rn.Worth Tryz.prog F.zrT ⟨1,zoF,zoG⟩:=fun hn h=>zDI (Nat.le_trans hn (by decide)) h
theorem zuv:Rn.Worth Tryz.prog F.ziH ⟨4,zes,zet⟩:=fun hn h=>zsT (Nat.le_trans hn (by decide)) h
theorem zuw:Rn.Worth Tryz.prog F.ziI ⟨7,zeu,zev⟩:=fun hn h=>zsU (Nat.le_trans hn (by decide)) h
theorem zwh:Rn.Worth Tryz.prog F.zjT ⟨5,zfq,zfr⟩:=fun hn h=>ztY (Nat.le_trans hn (by decide)) h
theorem zwi:Rn.Worth Tryz.prog F.zcF ⟨1,zfs,zft⟩:=fun hn h=>ztZ (Nat.le_trans hn (by decide)) h
theorem zwj:Rn.Worth Tryz.prog F.ze3 ⟨1,zfu,zfv⟩:=fun hn h=>zt0 (Nat.le_trans hn (by decide)) h
theorem zwk:Rn.Worth Tryz.prog F.zjU ⟨52,zfw,zfx⟩:=fun hn h=>zt1 (Nat.le_trans hn (by decide)) h
theorem zwl:Rn.Worth Tryz.prog F.zjV ⟨4,zfy,zfz⟩:=fun hn h=>zt2 (Nat.le_trans hn (by decide)) h
theorem zDR:Rn.Worth Tryz.prog F.znc ⟨58,zni,znj⟩:=fun hn h=>zCy (Nat.le_trans hn (by decide)) h
theorem zqV:Rn.Worth Tryz.prog F.zeN ⟨5,zb2,zb3⟩:=fun hn h=>zpG (Nat.le_trans hn (by decide)) h
theorem zoW:Rn.Worth Tryz.prog F.zcL ⟨5,zbb,zbc⟩:=fun hn h=>znV (Nat.le_trans hn (by decide)) h
theorem zBO:Rn.Worth Tryz.prog F.zhr ⟨8,zkQ,zkR⟩:=fun hn h=>zAj (Nat.le_trans hn (by decide)) h
theorem zux:Rn.Worth Tryz.prog F.ziJ ⟨14,zew,zex⟩:=fun hn h=>zsV (Nat.le_trans hn (by decide)) h
theorem zqW:Rn.Worth Tryz.prog F.zeO ⟨3,zb4,zb5⟩:=fun hn h=>zpH (Nat.le_trans hn (by decide)) h
theorem zzK:Rn.Worth Tryz.prog F.zl7 ⟨25,zic,zid⟩:=fun hn h=>zxy (Nat.le_trans hn (by decide)) h
theorem zBP:Rn.Worth Tryz.prog F.zd4 ⟨3,zkS,zkT⟩:=fun hn h=>zAk (Nat.le_trans hn (by decide)) h
theorem zFN:Rn.Worth Tryz.prog F.zbk ⟨10,zoH,zoI⟩:=fun hn h=>zDJ (Nat.le_trans hn (by decide)) h
theorem zBQ:Rn.Worth Tryz.prog F.znR ⟨17,zkU,zkV⟩:=fun hn h=>zAl (Nat.le_trans hn (by decide)) h
theorem zH5:Rn.Worth Tryz.prog F.ztC ⟨3,zqd,zqe⟩:=fun hn h=>zEU (Nat.le_trans hn (by decide)) h
theorem znK:Rn.Worth Tryz.prog F.zak ⟨19,zaZ,za0⟩:=fun hn h=>zmY (Nat.le_trans hn (by decide)) h
theorem zDS:Rn.Worth Tryz.prog F.znd ⟨7,znk,znl⟩:=fun hn h=>zCz (Nat.le_trans hn (by decide)) h
theorem zDj:Rn.Worth Tryz.prog F.zdb ⟨5,zmj,zmk⟩:=fun hn h=>zBv (Nat.le_trans hn (by decide)) h
theorem zDT:Rn.Worth Tryz.prog F.zkn ⟨5,znm,znn⟩:=fun hn h=>zCA (Nat.le_trans hn (by decide)) h
theorem zst:Rn.Worth Tryz.prog F.zgc ⟨5,zcO,zcP⟩:=fun hn h=>zrd (Nat.le_trans hn (by decide)) h
theorem zyi:Rn.Worth Tryz.prog F.zdc ⟨4,zha,zhb⟩:=fun hn h=>zvW (Nat.le_trans hn (by decide)) h
theorem zoX:Rn.Worth Tryz.prog F.zav ⟨5,zbd,zbe⟩:=fun hn h=>znW (Nat.le_trans hn (by decide)) h
theorem ztf:Rn.Worth Tryz.prog F.zhP ⟨6,zdP,zdQ⟩:=fun hn h=>zsf (Nat.le_trans hn (by decide)) h
theorem zi2:Rn.Worth Tryz.prog F.zaK ⟨8,zW,zX⟩:=fun hn h=>zio (Nat.le_trans hn (by decide)) h
theorem zwm:Rn.Worth Tryz.prog F.zjX ⟨3,zfA,zfB⟩:=fun hn h=>zt3 (Nat.le_trans hn (by decide)) h
theorem zFO:Rn.Worth Tryz.prog F.zof ⟨5,zoJ,zoK⟩:=fun hn h=>zDK (Nat.le_trans hn (by decide)) h
theorem zAS:Rn.Worth Tryz.prog F.zc0 ⟨4,zjy,zjz⟩:=fun hn h=>zzi (Nat.le_trans hn (by decide)) h
theorem zyj:Rn.Worth Tryz.prog F.zdd ⟨11,zhc,zhd⟩:=fun hn h=>zv1 (Nat.le_trans hn (by decide)) h
theorem zuy:Rn.Worth Tryz.prog F.zcd ⟨16,zey,zez⟩:=fun hn h=>zsW (Nat.le_trans hn (by decide)) h
theorem zpz:Rn.Worth Tryz.prog F.zac ⟨4,zbr,zbs⟩:=fun hn h=>zoL (Nat.le_trans hn (by decide)) h
theorem zDU:Rn.Worth Tryz.prog F.zbh ⟨3,zno,znp⟩:=fun hn h=>zCD (Nat.le_trans hn (by decide)) h
theorem zDk:Rn.Worth Tryz.prog F.zl8 ⟨6,zml,zmm⟩:=fun hn h=>zBy (Nat.le_trans hn (by decide)) h
theorem zAT:Rn.Worth Tryz.prog F.zjb ⟨6,zjA,zjB⟩:=fun hn h=>zzn (Nat.le_trans hn (by decide)) h
theorem zBR:Rn.Worth Tryz.prog F.zhs ⟨6,zkW,zkX⟩:=fun hn h=>zAm (Nat.le_trans hn (by decide)) h
theorem zmK:Rn.Worth Tryz.prog F.zbw ⟨10,zaF,zaG⟩:=fun hn h=>zmn (Nat.le_trans hn (by decide)) h
theorem zH6:Rn.Worth Tryz.prog F.zpZ ⟨6,zqf,zqg⟩:=fun hn h=>zEV (Nat.le_trans hn (by decide)) h
theorem zzL:Rn.Worth Tryz.prog F.zed ⟨3,zie,zif⟩:=fun hn h=>zxD (Nat.le_trans hn (by decide)) h
theorem zDl:Rn.Worth Tryz.prog F.zpi ⟨7,zmo,zmp⟩:=fun hn h=>zBz (Nat.le_trans hn (by decide)) h
theorem zAU:Rn.Worth Tryz.prog F.zbQ ⟨5,zjC,zjD⟩:=fun hn h=>zzo (Nat.le_trans hn (by decide)) h
theorem zyk:Rn.Worth Tryz.prog F.zde ⟨6,zhe,zhf⟩:=fun hn h=>zv2 (Nat.le_trans hn (by decide)) h
theorem zuz:Rn.Worth Tryz.prog F.zee ⟨9,zeA,zeB⟩:=fun hn h=>zsX (Nat.le_trans hn (by decide)) h
theorem zyl:Rn.Worth Tryz.prog F.zgd ⟨5,zhg,zhh⟩:=fun hn h=>zv3 (Nat.le_trans hn (by decide)) h
theorem zym:Rn.Worth Tryz.prog F.zge ⟨7,zhi,zhj⟩:=fun hn h=>zv4 (Nat.le_trans hn (by decide)) h
theorem zjL:Rn.Worth Tryz.prog F.zH ⟨21,z7,z8⟩:=fun hn h=>ziS (Nat.le_trans hn (by decide)) h
theorem zln:Rn.Worth Tryz.prog F.zN ⟨21,zan,zao⟩:=fun hn h=>zkr (Nat.le_trans hn (by decide)) h
theorem zDm:Rn.Worth Tryz.prog F.zpj ⟨4,zmq,zmr⟩:=fun hn h=>zBA (Nat.le_trans hn (by decide)) h
theorem zFP:Rn.Worth Tryz.prog F.zrU ⟨5,zoM,zoN⟩:=fun hn h=>zDL (Nat.le_trans hn (by decide)) h
theorem zzM:Rn.Worth Tryz.prog F.zl9 ⟨11,zig,zih⟩:=fun hn h=>zxE (Nat.le_trans hn (by decide)) h
theorem zDV:Rn.Worth Tryz.prog F.zqv ⟨3,znq,znr⟩:=fun hn h=>zCE (Nat.le_trans hn (by decide)) h
theorem zry:Rn.Worth Tryz.prog F.zfJ ⟨4,zcw,zcx⟩:=fun hn h=>zqJ (Nat.le_trans hn (by decide)) h
theorem zrz:Rn.Worth Tryz.prog F.zcj ⟨1,zcy,zcz⟩:=fun hn h=>zqK (Nat.le_trans hn (by decide)) h
theorem zzN:Rn.Worth Tryz.prog F.zhX ⟨5,zii,zij⟩:=fun hn h=>zxF (Nat.le_trans hn (by decide)) h
theorem zsu:Rn.Worth Tryz.prog F.zgf ⟨77,zcQ,zcR⟩:=fun hn h=>zrg (Nat.le_trans hn (by decide)) h
theorem zuA:Rn.Worth Tryz.prog F.zef ⟨3,zeC,zeD⟩:=fun hn h=>zsY (Nat.le_trans hn (by decide)) h
theorem zFQ:Rn.Worth Tryz.prog F.zrV ⟨5,zoO,zoP⟩:=fun hn h=>zDM (Nat.le_trans hn (by decide)) h
theorem zuB:Rn.Worth Tryz.prog F.ziL ⟨5,zeE,zeF⟩:=fun hn h=>zsZ (Nat.le_trans hn (by decide)) h
theorem zlS:Rn.Worth Tryz.prog F.zbf ⟨2,zar,zas⟩:=fun hn h=>zli (Nat.le_trans hn (by decide)) h
theorem zH7:Rn.Worth Tryz.prog F.zp0 ⟨17,zqh,zqi⟩:=fun hn h=>zEY (Nat.le_trans hn (by decide)) h
theorem zkz:Rn.Worth Tryz.prog F.za1 ⟨8,zaf,zag⟩:=fun hn h=>zj3 (Nat.le_trans hn (by decide)) h
theorem zsv:Rn.Worth Tryz.prog F.zgh ⟨6,zcS,zcT⟩:=fun hn h=>zrh (Nat.le_trans hn (by decide)) h
theorem zqX:Rn.Worth Tryz.prog F.zeP ⟨9,zb6,zb7⟩:=fun hn h=>zpI (Nat.le_trans hn (by decide)) h
theorem zBS:Rn.Worth Tryz.prog F.znS ⟨7,zkY,zkZ⟩:=fun hn h=>zAr (Nat.le_trans hn (by decide)) h
theorem zAV:Rn.Worth Tryz.prog F.zjc ⟨5,zjE,zjF⟩:=fun hn h=>zzr (Nat.le_trans hn (by decide)) h
theorem zyn:Rn.Worth Tryz.prog F.zle ⟨13,zhm,zhn⟩:=fun hn h=>zv7 (Nat.le_trans hn (by decide)) h
theorem zfX:Rn.Worth Tryz.prog F.zai ⟨10,zK,zL⟩:=fun hn h=>zfO (Nat.le_trans hn (by decide)) h
theorem zhW:Rn.Worth Tryz.prog F.zau ⟨10,zO,zP⟩:=fun hn h=>zhy (Nat.le_trans hn (by decide)) h
theorem ztg:Rn.Worth Tryz.prog F.zhR ⟨7,zdR,zdS⟩:=fun hn h=>zsi (Nat.le_trans hn (by decide)) h
theorem zrA:Rn.Worth Tryz.prog F.zfL ⟨7,zcA,zcB⟩:=fun hn h=>zqP (Nat.le_trans hn (by decide)) h
theorem zBT:Rn.Worth Tryz.prog F.znT ⟨3,zk0,zk1⟩:=fun hn h=>zAs (Nat.le_trans hn (by decide)) h
theorem zpR:Rn.Worth Tryz.prog F.zdZ ⟨4,zbI,zbJ⟩:=fun hn h=>zps (Nat.le_trans hn (by decide)) h
theorem zmy:Rn.Worth Tryz.prog F.zV ⟨21,zay,zaz⟩:=fun hn h=>zlJ (Nat.le_trans hn (by decide)) h
theorem zFR:Rn.Worth Tryz.prog F.zrX ⟨12,zoQ,zoR⟩:=fun hn h=>zDN (Nat.le_trans hn (by decide)) h
theorem zsw:Rn.Worth Tryz.prog F.zgj ⟨12,zcU,zcV⟩:=fun hn h=>zri (Nat.le_trans hn (by decide)) h
theorem zi3:Rn.Worth Tryz.prog F.zaL ⟨10,zY,zZ⟩:=fun hn h=>ziy (Nat.le_trans hn (by decide)) h
theorem zyo:Rn.Worth Tryz.prog F.zf7 ⟨44,zgq,zgr⟩:=fun hn h=>zvh (Nat.le_trans hn (by decide)) h
theorem zwn:Rn.Worth Tryz.prog F.zaQ ⟨6,ze4,ze5⟩:=fun hn h=>ztH (Nat.le_trans hn (by decide)) h
theorem zzO:Rn.Worth Tryz.prog F.zl2 ⟨6,zh0,zh1⟩:=fun hn h=>zxg (Nat.le_trans hn (by decide)) h
theorem zwo:Rn.Worth Tryz.prog F.zjO ⟨7,ze6,ze7⟩:=fun hn h=>ztI (Nat.le_trans hn (by decide)) h
theorem zDn:Rn.Worth Tryz.prog F.zpd ⟨5,zmb,zmc⟩:=fun hn h=>zBj (Nat.le_trans hn (by decide)) h
theorem zEs:Rn.T.All (Rn.Worth Tryz.prog) zq := .no (.no (.no (.no (.at zxV (.at zxX (.at zpx (.at zrw (.at zFQ (.nil) (.nil)) (.nil)) (.at zFN (.nil) (.nil))) (.at zFH (.at zqU (.at zAV (.nil) (.nil)) (.nil)) (.nil))) (.at zx1 (.no (.at zzJ (.nil) (.nil)) (.nil)) (.no (.at zwj (.nil) (.nil)) (.at zuz (.nil) (.nil))))) (.no (.no (.at zs6 (.at zH1 (.nil) (.nil)) (.at zst (.nil) (.nil))) (.at zHZ (.at zDi (.nil) (.nil)) (.at zBR (.nil) (.nil)))) (.at zFD (.at zFG (.nil) (.nil)) (.at ztb (.no (.at zBT (.nil) (.nil)) (.nil)) (.at zzM (.nil) (.nil)))))) (.no (.at zzO (.at zuq (.at zx4 (.nil) (.nil)) (.at zut (.no (.at zyn (.nil) (.nil)) (.nil)) (.at zpz (.nil) (.nil)))) (.at zqT (.no (.at zH2 (.nil) (.nil)) (.nil)) (.at zta (.at zDR (.nil) (.nil)) (.at zln (.nil) (.nil))))) (.no (.no (.at zAL (.at zpy (.nil) (.nil)) (.nil)) (.at zFJ (.at zuv (.nil) (.nil)) (.at zzL (.nil) (.nil)))) (.at zs4 (.at zya (.at zwg (.nil) (.nil)) (.nil)) (.at zzI (.at zqW (.nil) (.nil)) (.at zzN (.nil) (.nil))))))) (.at zxU (.at zwn (.at zxW (.at zxZ (.at zwa (.at zwe (.nil) (.nil)) (.at zH5 (.nil) (.nil))) (.at zs7 (.at zAR (.nil) (.nil)) (.nil))) (.at zqS (.no (.at zte (.at zsv (.nil) (.nil)) (.nil)) (.nil)) (.at zyd (.nil) (.at zym (.nil) (.nil))))) (.at zAJ (.no (.at zx8 (.at ztc (.nil) (.nil)) (.at zoX (.nil) (.nil))) (.at zs9 (.at zFL (.nil) (.nil)) (.nil))) (.at zx2 (.no (.at zAP (.nil) (.nil)) (.at zFO (.nil) (.nil))) (.at zye (.at zBO (.at zmy (.nil) (.nil)) (.nil)) (.at zry (.nil) (.nil)))))) (.no (.no (.at zur (.at zzF (.no (.at zH7 (.nil) (.nil)) (.nil)) (.at zDj (.nil) (.nil))) (.at zBK (.nil) (.at zDk (.nil) (.nil)))) (.at zs3 (.at znJ (.at zH3 (.nil) (.nil)) (.nil)) (.at zoV (.at zoW (.at ztg (.nil) (.nil)) (.nil)) (.at zDm (.nil) (.nil))))) (.at zBI (.at zv8 (.at zrt (.at zDh (.nil) (.nil)) (.nil)) (.at zwc (.at zwh (.nil) (.nil)) (.at zAU (.nil) (.nil)))) (.at zs5 (.no (.at zpQ (.nil) (.nil)) (.at zyj (.nil) (.nil))) (.at zBM (.nil) (.at zsu (.nil) (.nil)))))))) (.no (.at zxT (.no (.at zyo (.at zxY (.at zx3 (.no (.at zuB (.nil) (.nil)) (.nil)) (.at zBQ (.nil) (.nil))) (.no (.at zyh (.nil) (.nil)) (.nil))) (.at zpO (.no (.at zwf (.at zqk (.nil) (.nil)) (.nil)) (.nil)) (.at zyc (.at zwk (.nil) (.nil)) (.at zyl (.nil) (.nil))))) (.no (.no (.at zx7 (.at zyg (.nil) (.nil)) (.at zyi (.nil) (.nil))) (.at zFI (.at zH4 (.nil) (.nil)) (.at zmK (.nil) (.nil)))) (.at zFE (.at zru (.nil) (.at zwm (.nil) (.nil))) (.at zuu (.no (.at zpR (.nil) (.nil)) (.nil)) (.at zDV (.nil) (.nil)))))) (.no (.at zwo (.at zx0 (.at zx5 (.at zyf (.nil) (.nil)) (.at zDS (.nil) (.nil))) (.at zyb (.at zjK (.at zfX (.nil) (.nil)) (.nil)) (.at zDU (.nil) (.nil)))) (.at zs2 (.at zwb (.nil) (.nil)) (.at zAO (.at zqV (.nil) (.nil)) (.nil)))) (.no (.at zDn (.at zx9 (.nil) (.no (.at zi3 (.nil) (.nil)) (.nil))) (.at zzH (.at zuw (.at zhW (.nil) (.nil)) (.nil)) (.at zDl (.nil) (.nil)))) (.at zBJ (.no (.at zAQ (.nil) (.nil)) (.nil)) (.at zBL (.at zzK (.nil) (.nil)) (.nil)))))) (.no (.no (.no (.at zs1 (.at zrs (.no (.at zlS (.nil) (.nil)) (.nil)) (.at znK (.nil) (.nil))) (.at zrv (.at zfW (.nil) (.nil)) (.nil))) (.at zpw (.no (.at zFK (.at zqX (.nil) (.nil)) (.nil)) (.nil)) (.at zH0 (.at zwl (.nil) (.nil)) (.at zjL (.nil) (.nil))))) (.at zpN (.no (.at zzG (.at ztd (.nil) (.nil)) (.at ztf (.at zsw (.nil) (.nil)) (.nil))) (.at zAM (.at zFM (.nil) (.nil)) (.at zH6 (.nil) (.nil)))) (.at zv9 (.at zpP (.at zDQ (.nil) (.nil)) (.at zAS (.nil) (.nil))) (.at zwd (.at zux (.at zFR (.nil) (.nil)) (.nil)) (.at zrz (.nil) (.nil)))))) (.at zBH (.no (.no (.at zx6 (.at zrx (.at zkz (.nil) (.nil)) (.nil)) (.at zDT (.nil) (.nil))) (.at zs8 (.nil) (.at zAT (.nil) (.nil)))) (.at zDg (.at zFF (.nil) (.nil)) (.no (.no (.at zrA (.nil) (.nil)) (.nil)) (.at zFP (.nil) (.nil))))) (.at zFC (.at zDP (.at zus (.at zmx (.nil) (.nil)) (.at zi2 (.nil) (.nil))) (.at zAN (.at zwi (.nil) (.nil)) (.at zyk (.nil) (.nil)))) (.at zAK (.no (.at zBN (.at zBS (.nil) (.nil)) (.nil)) (.at zuy (.nil) (.nil))) (.at zss (.at zBP (.nil) (.nil)) (.at zuA (.nil) (.nil))))))))
end Go.Proofs.YtdgikhhkgnjalaaGreat
namespace Go.Vm.Rn
open Go.Vm
noncomputable def rT (r:R):Bool:=match r with|some (.rt (.c (.t true)) _ _)=>true|_=>false
theorem zKB {P:Program} {F:Cal} (hF:FOk P F) {M:Mem} {f:Nat} {ws:List W} {vs:List Value} (h:rT (F f ws 0 .e)=true) (hvs:All2 (WR []) ws vs):CallsM P f vs M fun v M'=>v = .bool true∧M.le M':=by
 have h1:CallsM P f vs Mem.empty fun v _=>v = .bool true:=by
  unfold rT at h
  split at h
  ·rename_i n H hr
   refine CallsM.mono (hF hr rfl (σ:=[]) (M:=Mem.empty) rfl ⟨fun _ _ h=>(by cases h),fun _ _ _ _ _ _ h=>(by cases h)⟩ hvs) ?_
   rintro v M' ⟨τ, -, h2, -⟩
   have h3:some (Value.bool true)=some v:=h2
   cases h3;rfl
  ·cases h
 refine(h1.frame (Mem.empty_le M)).mono ?_
 rintro v M' ⟨A',rfl, -, h2⟩
 exact⟨rfl,fun b o hb=>(h2 b o rfl hb).1⟩
end Go.Vm.Rn
namespace Go.Proofs.YtdgikhhkgnjalaaGreat
open Go Go.Vm Go.Vm.Rn Go.Vm.Rn.Q
set_option maxRecDepth 20000
noncomputable def primsN:T (List W→Nat→T O→R) := .n (.n (.n (.n (.e) none (.n (.e) none (.n (.n (.e) none (.n (.n (.e) (some zsr) (.e)) none (.e))) none (.e)))) none (.e)) none (.n (.n (.e) none (.n (.n (.e) none (.n (.e) none (.n (.e) (some zuR) (.e)))) none (.e))) none (.e))) none (.n (.n (.n (.n (.n (.n (.n (.e) (some zql) (.e)) none (.e)) none (.e)) none (.e)) none (.e)) none (.e)) none (.e))
theorem zH8:primsN.All (Prim Tryz.prog) := .no (.no (.no (.no (.nil) (.no (.nil) (.no (.no (.nil) (.no (.at zwE (.nil) (.nil)) (.nil))) (.nil)))) (.nil)) (.no (.no (.nil) (.no (.no (.nil) (.no (.nil) (.at zzE (.nil) (.nil)))) (.nil))) (.nil))) (.no (.no (.no (.no (.no (.no (.at zup (.nil) (.nil)) (.nil)) (.nil)) (.nil)) (.nil)) (.nil)) (.nil))
theorem zFS:FOk Tryz.prog (run primsN zq 1000 40):=run_ok zH8 zEs 1000 40
theorem same0 {M:Mem}:CallsM Tryz.prog F.zaQ [.agg #[.int .i64 0,.int .i64 0,.slice none 0 0,.slice none 0 0,.slice none 0 0],.agg #[.int .i64 0,.int .i64 0,.slice none 0 0,.slice none 0 0,.slice none 0 0]] M fun v M2=>v = .bool true∧M.le M2:=zKB zFS (ws:=[.ag [.n .i64 0,.n .i64 0,.nl,.nl,.nl],.ag [.n .i64 0,.n .i64 0,.nl,.nl,.nl]]) (by kernel_rfl) ⟨⟨[.int .i64 0,.int .i64 0,.slice none 0 0,.slice none 0 0,.slice none 0 0],⟨rfl,rfl,rfl,rfl,rfl,trivial⟩,rfl⟩,⟨[.int .i64 0,.int .i64 0,.slice none 0 0,.slice none 0 0,.slice none 0 0],⟨rfl,rfl,rfl,rfl,rfl,trivial⟩,rfl⟩,trivial⟩
end Go.Proofs.YtdgikhhkgnjalaaGreat
