/- Part of this proof;laid by program. -/
import Derived.Test.YtpnhjkiligohnaaGreatDoorJ11
import Derived.Test.YtpnhjkiligohnaaGreatDoorJ12
import Derived.Test.YtpnhjkiligohnaaGreatDoorJ13
import Derived.Test.YtpnhjkiligohnaaGreatDoorJ14
import Derived.Test.YtpnhjkiligohnaaGreatDoorJ19
import Derived.Test.YtpnhjkiligohnaaGreatDoorJ9
import Derived.Sort.Walk0
set_option linter.unusedVariables false
set_option linter.unusedSimpArgs false
namespace Go.Proofs.YtpnhjkiligohnaaGreatDoor
open Go Go.Vm
set_option maxRecDepth 20000
def zu:Rn.T Rn.FC := .n (.n (.n (.n (.n (.n (.n (.n (.n (.e) (some ⟨8,zlz,zlA⟩) (.e)) none (.e)) none (.e)) none (.n (.n (.n (.e) (some ⟨9,zd0,zd1⟩) (.e)) (some ⟨12,zfa,zfb⟩) (.e)) (some ⟨91,zhQ,zhR⟩) (.n (.e) (some ⟨19,zch,zci⟩) (.e)))) none (.n (.n (.n (.n (.e) (some ⟨5,zq3,zq4⟩) (.e)) (some ⟨4,zmF,zmG⟩) (.e)) none (.n (.n (.e) (some ⟨7,zeG,zeH⟩) (.e)) (some ⟨7,zg2,zg3⟩) (.e))) none (.n (.n (.n (.e) (some ⟨10,zaQ,zaR⟩) (.e)) (some ⟨8,znQ,znR⟩) (.e)) (some ⟨3,zln,zlo⟩) (.n (.n (.e) (some ⟨10,za9,zba⟩) (.e)) none (.e))))) (some ⟨18,zku,zkv⟩) (.n (.n (.n (.n (.n (.e) (some ⟨11,zkK,zkL⟩) (.e)) (some ⟨4,znO,znP⟩) (.e)) (some ⟨13,zi9,zja⟩) (.n (.n (.e) (some ⟨6,zs3,zs4⟩) (.e)) (some ⟨3,zdU,zdV⟩) (.e))) (some ⟨6,ziX,ziY⟩) (.n (.n (.n (.e) (some ⟨10,zaE,zaF⟩) (.e)) (some ⟨26,zsK,zsL⟩) (.e)) (some ⟨6,zfQ,zfR⟩) (.n (.e) (some ⟨5,zcC,zcD⟩) (.e)))) (some ⟨65,zmt,zmu⟩) (.n (.n (.n (.e) (some ⟨13,zjz,zjA⟩) (.e)) (some ⟨3,zoP,zoQ⟩) (.n (.e) (some ⟨9,zoY,zoZ⟩) (.e))) (some ⟨12,ziZ,zi0⟩) (.n (.e) none (.n (.n (.e) (some ⟨12,zfi,zfj⟩) (.e)) (some ⟨12,zq1,zq2⟩) (.e)))))) none (.n (.n (.n (.n (.n (.n (.e) (some ⟨2,zbC,zbD⟩) (.e)) (some ⟨3,zdi,zdj⟩) (.e)) none (.n (.n (.e) (some ⟨6,zlF,zlG⟩) (.e)) (some ⟨18,zf6,zf7⟩) (.e))) none (.n (.n (.n (.e) (some ⟨9,zg9,zha⟩) (.e)) none (.e)) (some ⟨6,zjj,zjk⟩) (.n (.e) (some ⟨5,znT,znU⟩) (.e)))) none (.n (.n (.n (.e) (some ⟨8,zkE,zkF⟩) (.e)) none (.n (.e) (some ⟨52,zic,zid⟩) (.e))) none (.e))) none (.n (.n (.n (.n (.e) (some ⟨14,zjx,zjy⟩) (.e)) (some ⟨66,zfK,zfL⟩) (.n (.n (.e) (some ⟨5,zjU,zjV⟩) (.e)) (some ⟨10,zqW,zqX⟩) (.e))) (some ⟨5,zlh,zli⟩) (.n (.n (.e) (some ⟨46,zf4,zf5⟩) (.e)) (some ⟨12,zfS,zfT⟩) (.n (.e) (some ⟨1,zcj,zck⟩) (.e)))) none (.n (.n (.n (.e) (some ⟨10,zlt,zlu⟩) (.e)) (some ⟨17,zlj,zlk⟩) (.e)) (some ⟨10,zi3,zi4⟩) (.n (.n (.n (.e) (some ⟨11,zjS,zjT⟩) (.e)) none (.e)) (some ⟨13,zjt,zju⟩) (.e)))))) none (.n (.n (.n (.n (.n (.n (.n (.e) (some ⟨11,zjL,zjM⟩) (.e)) (some ⟨3,zmB,zmC⟩) (.e)) none (.n (.n (.e) (some ⟨4,zc3,zc4⟩) (.e)) (some ⟨12,zqT,zqU⟩) (.e))) none (.n (.n (.n (.e) (some ⟨6,zjO,zjP⟩) (.e)) none (.e)) (some ⟨3,zjh,zji⟩) (.e))) (some ⟨14,ziV,ziW⟩) (.n (.n (.n (.e) (some ⟨4,zlp,zlq⟩) (.e)) none (.n (.n (.e) (some ⟨4,zdo,zdp⟩) (.e)) (some ⟨1,zh8,zh9⟩) (.e))) none (.n (.e) (some ⟨21,zeq,zer⟩) (.n (.e) (some ⟨21,zbx,zby⟩) (.e))))) none (.n (.n (.n (.n (.n (.e) (some ⟨4,zeD,zeE⟩) (.e)) (some ⟨2,zhW,zhX⟩) (.e)) (some ⟨3,zjb,zjc⟩) (.n (.n (.e) (some ⟨7,znY,znZ⟩) (.e)) none (.e))) none (.n (.n (.e) (some ⟨5,zf0,zf1⟩) (.e)) (some ⟨3,zcX,zcY⟩) (.n (.e) (some ⟨3,zdm,zdn⟩) (.e)))) none (.n (.n (.n (.e) (some ⟨42,zsI,zsJ⟩) (.e)) (some ⟨4,zqA,zqB⟩) (.n (.e) (some ⟨5,zdW,zdX⟩) (.e))) (some ⟨4,zqs,zqt⟩) (.n (.e) (some ⟨16,zhU,zhV⟩) (.e))))) none (.n (.n (.n (.n (.n (.e) (some ⟨37,zcZ,zc0⟩) (.e)) (some ⟨7,zsy,zsz⟩) (.n (.n (.e) (some ⟨10,zbS,zbT⟩) (.e)) (some ⟨1,zeB,zeC⟩) (.e))) none (.n (.e) (some ⟨16,zfO,zfP⟩) (.n (.e) (some ⟨5,zfc,zfd⟩) (.e)))) (some ⟨5,zhO,zhP⟩) (.n (.n (.n (.e) (some ⟨4,zlr,zls⟩) (.e)) (some ⟨30,zfM,zfN⟩) (.n (.e) (some ⟨4,zie,zif⟩) (.e))) none (.n (.e) none (.n (.e) (some ⟨8,zig,zih⟩) (.e))))) none (.n (.n (.n (.n (.n (.e) (some ⟨3,zg5,zg6⟩) (.e)) (some ⟨4,zkC,zkD⟩) (.e)) (some ⟨6,zgP,zgQ⟩) (.n (.n (.e) (some ⟨12,zq7,zq8⟩) (.e)) (some ⟨3,zsO,zsP⟩) (.e))) none (.n (.n (.e) (some ⟨12,zh2,zh3⟩) (.e)) (some ⟨5,zjp,zjq⟩) (.n (.e) (some ⟨5,zdY,zdZ⟩) (.e)))) none (.n (.n (.n (.n (.e) (some ⟨3,zgn,zgo⟩) (.e)) none (.e)) (some ⟨15,zqC,zqD⟩) (.e)) (some ⟨7,zi7,zi8⟩) (.n (.n (.e) (some ⟨9,zjH,zjI⟩) (.e)) none (.n (.e) (some ⟨13,zlx,zly⟩) (.e)))))))) none (.n (.n (.n (.n (.n (.n (.n (.n (.e) (some ⟨13,zmQ,zmR⟩) (.e)) (some ⟨7,zmz,zmA⟩) (.e)) none (.e)) none (.n (.n (.n (.e) (some ⟨19,zbJ,zbK⟩) (.e)) (some ⟨1,zes,zet⟩) (.e)) (some ⟨4,zeo,zep⟩) (.n (.e) (some ⟨3,zkI,zkJ⟩) (.e)))) none (.n (.n (.n (.n (.e) (some ⟨5,zg7,zg8⟩) (.e)) (some ⟨2,zfU,zfV⟩) (.e)) none (.n (.n (.e) (some ⟨3,zmU,zmV⟩) (.e)) (some ⟨5,zh6,zh7⟩) (.e))) none (.n (.n (.e) (some ⟨2,zaC,zaD⟩) (.e)) (some ⟨9,zjr,zjs⟩) (.n (.e) (some ⟨21,zbi,zbj⟩) (.e))))) none (.n (.n (.n (.n (.n (.e) (some ⟨3,zo6,zo7⟩) (.e)) (some ⟨5,zqJ,zqK⟩) (.e)) (some ⟨58,zgN,zgO⟩) (.n (.n (.e) (some ⟨3,zkP,zkQ⟩) (.e)) (some ⟨25,zkG,zkH⟩) (.e))) none (.n (.n (.e) (some ⟨6,zjF,zjG⟩) (.e)) (some ⟨4,zll,zlm⟩) (.n (.e) (some ⟨8,zf8,zf9⟩) (.e)))) none (.n (.n (.n (.e) (some ⟨4,zjB,zjC⟩) (.e)) (some ⟨5,zqy,zqz⟩) (.n (.n (.e) (some ⟨8,za7,za8⟩) (.e)) (some ⟨58,zo0,zo1⟩) (.e))) (some ⟨4,zqq,zqr⟩) (.n (.n (.n (.e) (some ⟨5,zq5,zq6⟩) (.e)) none (.e)) none (.n (.e) (some ⟨25,zsY,zsZ⟩) (.e)))))) none (.n (.n (.n (.n (.n (.e) (some ⟨52,zdQ,zdR⟩) (.e)) (some ⟨7,zoN,zoO⟩) (.n (.n (.e) (some ⟨6,zmS,zmT⟩) (.e)) (some ⟨13,zez,zeA⟩) (.e))) none (.n (.n (.n (.e) (some ⟨7,zjQ,zjR⟩) (.e)) (some ⟨4,zjD,zjE⟩) (.e)) (some ⟨3,zhS,zhT⟩) (.n (.e) (some ⟨5,zo4,zo5⟩) (.e)))) none (.n (.n (.n (.e) (some ⟨5,zh0,zh1⟩) (.e)) none (.e)) none (.e))) none (.n (.n (.n (.n (.n (.e) (some ⟨77,zfe,zff⟩) (.e)) (some ⟨66,zhY,zhZ⟩) (.e)) (some ⟨63,zjf,zjg⟩) (.n (.n (.e) (some ⟨21,zbL,zbM⟩) (.e)) (some ⟨17,zmK,zmL⟩) (.e))) (some ⟨3,zmv,zmw⟩) (.n (.n (.e) (some ⟨11,zc1,zc2⟩) (.e)) (some ⟨10,zjn,zjo⟩) (.e))) none (.n (.n (.n (.e) (some ⟨5,zcy,zcz⟩) (.e)) (some ⟨4,zsA,zsB⟩) (.e)) (some ⟨44,zi5,zi6⟩) (.n (.n (.n (.e) (some ⟨16,zhb,zhc⟩) (.e)) (some ⟨31,zdk,zdl⟩) (.e)) none (.e)))))) none (.n (.n (.n (.n (.n (.n (.n (.e) (some ⟨4,zlB,zlC⟩) (.e)) (some ⟨3,zjv,zjw⟩) (.e)) (some ⟨17,znJ,znK⟩) (.n (.n (.e) (some ⟨6,znW,znX⟩) (.e)) none (.e))) none (.n (.e) (some ⟨28,zky,zkz⟩) (.n (.n (.e) (some ⟨13,zjW,zjX⟩) (.e)) (some ⟨7,zo2,zo3⟩) (.e)))) none (.n (.n (.n (.n (.e) (some ⟨8,zbn,zbo⟩) (.e)) (some ⟨41,zqM,zqN⟩) (.e)) none (.n (.n (.e) (some ⟨5,zlJ,zlK⟩) (.e)) (some ⟨1,zia,zib⟩) (.e))) none (.n (.n (.e) (some ⟨2,zbg,zbh⟩) (.e)) (some ⟨11,zgR,zgS⟩) (.e)))) none (.n (.n (.n (.n (.n (.e) (some ⟨5,zkM,zkN⟩) (.e)) (some ⟨3,zgV,zgW⟩) (.e)) (some ⟨5,zjd,zje⟩) (.n (.n (.e) (some ⟨5,zlH,zlI⟩) (.e)) (some ⟨3,zmI,zmJ⟩) (.e))) (some ⟨4,zkw,zkx⟩) (.n (.n (.e) (some ⟨41,zf2,zf3⟩) (.e)) (some ⟨24,zjl,zjm⟩) (.n (.e) (some ⟨6,zga,zgb⟩) (.e)))) none (.n (.n (.n (.e) (some ⟨11,zfW,zfX⟩) (.e)) (some ⟨25,znL,znM⟩) (.n (.e) (some ⟨5,zcA,zcB⟩) (.e))) (some ⟨7,zi1,zi2⟩) (.n (.n (.e) (some ⟨14,zex,zey⟩) (.e)) (some ⟨29,zgT,zgU⟩) (.e))))) none (.n (.n (.n (.n (.n (.n (.e) (some ⟨17,zs1,zs2⟩) (.e)) (some ⟨4,zdS,zdT⟩) (.e)) (some ⟨71,zqu,zqv⟩) (.n (.e) (some ⟨14,zgY,zgZ⟩) (.e))) (some ⟨126,zqo,zqp⟩) (.n (.n (.e) (some ⟨3,zeu,zev⟩) (.e)) (some ⟨11,zmx,zmy⟩) (.n (.e) (some ⟨4,zjJ,zjK⟩) (.e)))) (some ⟨10,zlf,zlg⟩) (.n (.n (.e) none (.n (.e) (some ⟨7,zsV,zsW⟩) (.e))) (some ⟨5,znG,znH⟩) (.n (.n (.e) (some ⟨3,zh4,zh5⟩) (.e)) none (.n (.e) (some ⟨3,zgc,zgd⟩) (.e))))) (some ⟨25,zmr,zms⟩) (.n (.n (.n (.n (.n (.e) (some ⟨4,zlD,zlE⟩) (.e)) (some ⟨23,zmD,zmE⟩) (.e)) none (.n (.n (.e) (some ⟨7,zge,zgf⟩) (.e)) (some ⟨4,zg0,zg1⟩) (.e))) none (.n (.e) (some ⟨12,zkA,zkB⟩) (.e))) none (.n (.n (.n (.n (.e) (some ⟨6,zfg,zfh⟩) (.e)) (some ⟨30,zfY,zfZ⟩) (.e)) (some ⟨1,zqE,zqF⟩) (.n (.e) (some ⟨8,zmN,zmO⟩) (.e))) (some ⟨3,zdg,zdh⟩) (.n (.e) none (.n (.e) (some ⟨9,zii,zij⟩) (.e))))))))
theorem zwq:Rn.Worth Tryz.prog F.ziH ⟨44,zi5,zi6⟩:=fun hn h=>zuz (Nat.le_trans hn (by decide)) h
theorem zx2:Rn.Worth Tryz.prog F.zbH ⟨18,zku,zkv⟩:=fun hn h=>zv7 (Nat.le_trans hn (by decide)) h
theorem zAh:Rn.Worth Tryz.prog F.zcr ⟨25,zmr,zms⟩:=fun hn h=>zyH (Nat.le_trans hn (by decide)) h
theorem zwr:Rn.Worth Tryz.prog F.zbu ⟨14,ziV,ziW⟩:=fun hn h=>zuu (Nat.le_trans hn (by decide)) h
theorem zu0:Rn.Worth Tryz.prog F.zbk ⟨5,zhO,zhP⟩:=fun hn h=>zsx (Nat.le_trans hn (by decide)) h
theorem zy7:Rn.Worth Tryz.prog F.zcG ⟨10,zlf,zlg⟩:=fun hn h=>zxF (Nat.le_trans hn (by decide)) h
theorem zAi:Rn.Worth Tryz.prog F.zdr ⟨65,zmt,zmu⟩:=fun hn h=>zyI (Nat.le_trans hn (by decide)) h
theorem zEC:Rn.Worth Tryz.prog F.zhm ⟨126,zqo,zqp⟩:=fun hn h=>zCo (Nat.le_trans hn (by decide)) h
theorem zws:Rn.Worth Tryz.prog F.zeV ⟨6,ziX,ziY⟩:=fun hn h=>zuv (Nat.le_trans hn (by decide)) h
theorem zx3:Rn.Worth Tryz.prog F.zcm ⟨4,zkw,zkx⟩:=fun hn h=>zv8 (Nat.le_trans hn (by decide)) h
theorem zy8:Rn.Worth Tryz.prog F.zcH ⟨5,zlh,zli⟩:=fun hn h=>zxG (Nat.le_trans hn (by decide)) h
theorem zAj:Rn.Worth Tryz.prog F.zds ⟨3,zmv,zmw⟩:=fun hn h=>zyJ (Nat.le_trans hn (by decide)) h
theorem zBL:Rn.Worth Tryz.prog F.zce ⟨5,znG,znH⟩:=fun hn h=>zz7 (Nat.le_trans hn (by decide)) h
theorem zwt:Rn.Worth Tryz.prog F.zbv ⟨12,ziZ,zi0⟩:=fun hn h=>zuw (Nat.le_trans hn (by decide)) h
theorem zED:Rn.Worth Tryz.prog F.zhn ⟨4,zqq,zqr⟩:=fun hn h=>zCp (Nat.le_trans hn (by decide)) h
theorem zEE:Rn.Worth Tryz.prog F.zho ⟨4,zqs,zqt⟩:=fun hn h=>zCq (Nat.le_trans hn (by decide)) h
theorem zwu:Rn.Worth Tryz.prog F.zb0 ⟨7,zi1,zi2⟩:=fun hn h=>zux (Nat.le_trans hn (by decide)) h
theorem zwv:Rn.Worth Tryz.prog F.zf ⟨10,zi3,zi4⟩:=fun hn h=>zuy (Nat.le_trans hn (by decide)) h
theorem zww:Rn.Worth Tryz.prog F.ziI ⟨7,zi7,zi8⟩:=fun hn h=>zuA (Nat.le_trans hn (by decide)) h
theorem zok:Rn.Worth Tryz.prog F.zal ⟨3,zdg,zdh⟩:=fun hn h=>znI (Nat.le_trans hn (by decide)) h
theorem zBM:Rn.Worth Tryz.prog F.zgz ⟨17,znJ,znK⟩:=fun hn h=>zz8 (Nat.le_trans hn (by decide)) h
theorem zCF:Rn.Worth Tryz.prog F.zlY ⟨7,zoN,zoO⟩:=fun hn h=>zA6 (Nat.le_trans hn (by decide)) h
theorem zG9:Rn.Worth Tryz.prog F.zdD ⟨7,zsy,zsz⟩:=fun hn h=>zDT (Nat.le_trans hn (by decide)) h
theorem zEF:Rn.Worth Tryz.prog F.zhp ⟨71,zqu,zqv⟩:=fun hn h=>zCr (Nat.le_trans hn (by decide)) h
theorem zwx:Rn.Worth Tryz.prog F.za4 ⟨13,zi9,zja⟩:=fun hn h=>zuB (Nat.le_trans hn (by decide)) h
theorem zti:Rn.Worth Tryz.prog F.zap ⟨58,zgN,zgO⟩:=fun hn h=>zrw (Nat.le_trans hn (by decide)) h
theorem zwy:Rn.Worth Tryz.prog F.ziJ ⟨3,zjb,zjc⟩:=fun hn h=>zuC (Nat.le_trans hn (by decide)) h
theorem zwz:Rn.Worth Tryz.prog F.ziK ⟨5,zjd,zje⟩:=fun hn h=>zuD (Nat.le_trans hn (by decide)) h
theorem zrJ:Rn.Worth Tryz.prog F.zfz ⟨66,zfK,zfL⟩:=fun hn h=>zqw (Nat.le_trans hn (by decide)) h
theorem zwA:Rn.Worth Tryz.prog F.zg ⟨63,zjf,zjg⟩:=fun hn h=>zuE (Nat.le_trans hn (by decide)) h
theorem ztj:Rn.Worth Tryz.prog F.zgA ⟨6,zgP,zgQ⟩:=fun hn h=>zrx (Nat.le_trans hn (by decide)) h
theorem zrK:Rn.Worth Tryz.prog F.zfA ⟨30,zfM,zfN⟩:=fun hn h=>zqx (Nat.le_trans hn (by decide)) h
theorem zCG:Rn.Worth Tryz.prog F.zaM ⟨3,zoP,zoQ⟩:=fun hn h=>zA7 (Nat.le_trans hn (by decide)) h
theorem zEG:Rn.Worth Tryz.prog F.zeW ⟨5,zqy,zqz⟩:=fun hn h=>zCs (Nat.le_trans hn (by decide)) h
theorem zEH:Rn.Worth Tryz.prog F.zqa ⟨4,zqA,zqB⟩:=fun hn h=>zCt (Nat.le_trans hn (by decide)) h
theorem zBN:Rn.Worth Tryz.prog F.zeg ⟨25,znL,znM⟩:=fun hn h=>zz9 (Nat.le_trans hn (by decide)) h
theorem zy9:Rn.Worth Tryz.prog F.zcJ ⟨17,zlj,zlk⟩:=fun hn h=>zxH (Nat.le_trans hn (by decide)) h
theorem zHa:Rn.Worth Tryz.prog F.zj2 ⟨4,zsA,zsB⟩:=fun hn h=>zDU (Nat.le_trans hn (by decide)) h
theorem zEI:Rn.Worth Tryz.prog F.zhq ⟨15,zqC,zqD⟩:=fun hn h=>zCu (Nat.le_trans hn (by decide)) h
theorem zEJ:Rn.Worth Tryz.prog F.zhr ⟨1,zqE,zqF⟩:=fun hn h=>zCv (Nat.le_trans hn (by decide)) h
theorem zu1:Rn.Worth Tryz.prog F.zaw ⟨91,zhQ,zhR⟩:=fun hn h=>zsC (Nat.le_trans hn (by decide)) h
theorem zpJ:Rn.Worth Tryz.prog F.zaY ⟨4,zeo,zep⟩:=fun hn h=>zoR (Nat.le_trans hn (by decide)) h
theorem zwB:Rn.Worth Tryz.prog F.zb1 ⟨3,zjh,zji⟩:=fun hn h=>zuF (Nat.le_trans hn (by decide)) h
theorem zx4:Rn.Worth Tryz.prog F.zcn ⟨28,zky,zkz⟩:=fun hn h=>zv9 (Nat.le_trans hn (by decide)) h
theorem zwC:Rn.Worth Tryz.prog F.zb2 ⟨6,zjj,zjk⟩:=fun hn h=>zuG (Nat.le_trans hn (by decide)) h
theorem zu2:Rn.Worth Tryz.prog F.zbO ⟨3,zhS,zhT⟩:=fun hn h=>zsD (Nat.le_trans hn (by decide)) h
theorem zrL:Rn.Worth Tryz.prog F.zfB ⟨16,zfO,zfP⟩:=fun hn h=>zqG (Nat.le_trans hn (by decide)) h
theorem zAk:Rn.Worth Tryz.prog F.zmn ⟨11,zmx,zmy⟩:=fun hn h=>zyK (Nat.le_trans hn (by decide)) h
theorem zrM:Rn.Worth Tryz.prog F.zfC ⟨6,zfQ,zfR⟩:=fun hn h=>zqH (Nat.le_trans hn (by decide)) h
theorem zza:Rn.Worth Tryz.prog F.zk5 ⟨4,zll,zlm⟩:=fun hn h=>zxI (Nat.le_trans hn (by decide)) h
theorem zn5:Rn.Worth Tryz.prog F.zH ⟨3,zcX,zcY⟩:=fun hn h=>zna (Nat.le_trans hn (by decide)) h
theorem zwD:Rn.Worth Tryz.prog F.ziL ⟨24,zjl,zjm⟩:=fun hn h=>zuH (Nat.le_trans hn (by decide)) h
theorem zrN:Rn.Worth Tryz.prog F.zfD ⟨12,zfS,zfT⟩:=fun hn h=>zqI (Nat.le_trans hn (by decide)) h
theorem zwE:Rn.Worth Tryz.prog F.zat ⟨10,zjn,zjo⟩:=fun hn h=>zuI (Nat.le_trans hn (by decide)) h
theorem zwF:Rn.Worth Tryz.prog F.ziM ⟨5,zjp,zjq⟩:=fun hn h=>zuJ (Nat.le_trans hn (by decide)) h
theorem zx5:Rn.Worth Tryz.prog F.zkn ⟨12,zkA,zkB⟩:=fun hn h=>zwa (Nat.le_trans hn (by decide)) h
theorem zzb:Rn.Worth Tryz.prog F.zb3 ⟨3,zln,zlo⟩:=fun hn h=>zxJ (Nat.le_trans hn (by decide)) h
theorem zwG:Rn.Worth Tryz.prog F.zb4 ⟨9,zjr,zjs⟩:=fun hn h=>zuK (Nat.le_trans hn (by decide)) h
theorem zpK:Rn.Worth Tryz.prog F.zeh ⟨21,zeq,zer⟩:=fun hn h=>zoS (Nat.le_trans hn (by decide)) h
theorem ztk:Rn.Worth Tryz.prog F.zgB ⟨11,zgR,zgS⟩:=fun hn h=>zry (Nat.le_trans hn (by decide)) h
theorem zu3:Rn.Worth Tryz.prog F.zd7 ⟨16,zhU,zhV⟩:=fun hn h=>zsE (Nat.le_trans hn (by decide)) h
theorem ztl:Rn.Worth Tryz.prog F.zcf ⟨29,zgT,zgU⟩:=fun hn h=>zrz (Nat.le_trans hn (by decide)) h
theorem zwH:Rn.Worth Tryz.prog F.zcP ⟨13,zjt,zju⟩:=fun hn h=>zuL (Nat.le_trans hn (by decide)) h
theorem zAl:Rn.Worth Tryz.prog F.zdt ⟨7,zmz,zmA⟩:=fun hn h=>zyL (Nat.le_trans hn (by decide)) h
theorem zAm:Rn.Worth Tryz.prog F.zbc ⟨3,zmB,zmC⟩:=fun hn h=>zyM (Nat.le_trans hn (by decide)) h
theorem zwI:Rn.Worth Tryz.prog F.zb5 ⟨3,zjv,zjw⟩:=fun hn h=>zuM (Nat.le_trans hn (by decide)) h
theorem zol:Rn.Worth Tryz.prog F.zdd ⟨3,zdi,zdj⟩:=fun hn h=>znN (Nat.le_trans hn (by decide)) h
theorem zpc:Rn.Worth Tryz.prog F.zdM ⟨52,zdQ,zdR⟩:=fun hn h=>zoe (Nat.le_trans hn (by decide)) h
theorem zn6:Rn.Worth Tryz.prog F.zcQ ⟨37,zcZ,zc0⟩:=fun hn h=>znb (Nat.le_trans hn (by decide)) h
theorem zpd:Rn.Worth Tryz.prog F.zdN ⟨4,zdS,zdT⟩:=fun hn h=>zof (Nat.le_trans hn (by decide)) h
theorem zBO:Rn.Worth Tryz.prog F.znC ⟨4,znO,znP⟩:=fun hn h=>zAa (Nat.le_trans hn (by decide)) h
theorem zEK:Rn.Worth Tryz.prog F.zqb ⟨5,zqJ,zqK⟩:=fun hn h=>zCw (Nat.le_trans hn (by decide)) h
theorem zu4:Rn.Worth Tryz.prog F.zd8 ⟨2,zhW,zhX⟩:=fun hn h=>zsF (Nat.le_trans hn (by decide)) h
theorem ztm:Rn.Worth Tryz.prog F.zaG ⟨3,zgV,zgW⟩:=fun hn h=>zrA (Nat.le_trans hn (by decide)) h
theorem zwJ:Rn.Worth Tryz.prog F.zeX ⟨14,zjx,zjy⟩:=fun hn h=>zuN (Nat.le_trans hn (by decide)) h
theorem zu5:Rn.Worth Tryz.prog F.zbP ⟨66,zhY,zhZ⟩:=fun hn h=>zsG (Nat.le_trans hn (by decide)) h
theorem zx6:Rn.Worth Tryz.prog F.zco ⟨4,zkC,zkD⟩:=fun hn h=>zwb (Nat.le_trans hn (by decide)) h
theorem zAn:Rn.Worth Tryz.prog F.zdu ⟨23,zmD,zmE⟩:=fun hn h=>zyN (Nat.le_trans hn (by decide)) h
theorem zAo:Rn.Worth Tryz.prog F.zdv ⟨4,zmF,zmG⟩:=fun hn h=>zyO (Nat.le_trans hn (by decide)) h
theorem zrO:Rn.Worth Tryz.prog F.zfE ⟨2,zfU,zfV⟩:=fun hn h=>zqL (Nat.le_trans hn (by decide)) h
theorem zzc:Rn.Worth Tryz.prog F.zk6 ⟨4,zlp,zlq⟩:=fun hn h=>zxK (Nat.le_trans hn (by decide)) h
theorem zEL:Rn.Worth Tryz.prog F.zeY ⟨41,zqM,zqN⟩:=fun hn h=>zCx (Nat.le_trans hn (by decide)) h
theorem zx7:Rn.Worth Tryz.prog F.zdE ⟨8,zkE,zkF⟩:=fun hn h=>zwc (Nat.le_trans hn (by decide)) h
theorem zu6:Rn.Worth Tryz.prog F.zhF ⟨5,zh0,zh1⟩:=fun hn h=>zsH (Nat.le_trans hn (by decide)) h
theorem zzd:Rn.Worth Tryz.prog F.zk7 ⟨4,zlr,zls⟩:=fun hn h=>zxL (Nat.le_trans hn (by decide)) h
theorem zwK:Rn.Worth Tryz.prog F.ziN ⟨13,zjz,zjA⟩:=fun hn h=>zuO (Nat.le_trans hn (by decide)) h
theorem zwL:Rn.Worth Tryz.prog F.zaI ⟨4,zjB,zjC⟩:=fun hn h=>zuP (Nat.le_trans hn (by decide)) h
theorem zHb:Rn.Worth Tryz.prog F.zse ⟨42,zsI,zsJ⟩:=fun hn h=>zDV (Nat.le_trans hn (by decide)) h
theorem zrP:Rn.Worth Tryz.prog F.zfF ⟨11,zfW,zfX⟩:=fun hn h=>zqO (Nat.le_trans hn (by decide)) h
theorem zze:Rn.Worth Tryz.prog F.zk8 ⟨10,zlt,zlu⟩:=fun hn h=>zxM (Nat.le_trans hn (by decide)) h
theorem znh:Rn.Worth Tryz.prog F.zcv ⟨5,zcy,zcz⟩:=fun hn h=>zmH (Nat.le_trans hn (by decide)) h
theorem zrQ:Rn.Worth Tryz.prog F.zfG ⟨30,zfY,zfZ⟩:=fun hn h=>zqP (Nat.le_trans hn (by decide)) h
theorem zrh:Rn.Worth Tryz.prog F.zeZ ⟨12,zfa,zfb⟩:=fun hn h=>zpx (Nat.le_trans hn (by decide)) h
theorem zpL:Rn.Worth Tryz.prog F.zaZ ⟨1,zes,zet⟩:=fun hn h=>zoT (Nat.le_trans hn (by decide)) h
theorem zwM:Rn.Worth Tryz.prog F.ze0 ⟨4,zjD,zjE⟩:=fun hn h=>zuQ (Nat.le_trans hn (by decide)) h
theorem zpM:Rn.Worth Tryz.prog F.zbz ⟨3,zeu,zev⟩:=fun hn h=>zoU (Nat.le_trans hn (by decide)) h
theorem zHc:Rn.Worth Tryz.prog F.zsf ⟨26,zsK,zsL⟩:=fun hn h=>zDW (Nat.le_trans hn (by decide)) h
theorem zwN:Rn.Worth Tryz.prog F.ziO ⟨6,zjF,zjG⟩:=fun hn h=>zuR (Nat.le_trans hn (by decide)) h
theorem zrR:Rn.Worth Tryz.prog F.zc8 ⟨5,zf0,zf1⟩:=fun hn h=>zqQ (Nat.le_trans hn (by decide)) h
theorem zrS:Rn.Worth Tryz.prog F.zc9 ⟨41,zf2,zf3⟩:=fun hn h=>zqR (Nat.le_trans hn (by decide)) h
theorem zrT:Rn.Worth Tryz.prog F.zbX ⟨46,zf4,zf5⟩:=fun hn h=>zqS (Nat.le_trans hn (by decide)) h
theorem zn7:Rn.Worth Tryz.prog F.zcR ⟨11,zc1,zc2⟩:=fun hn h=>znc (Nat.le_trans hn (by decide)) h
theorem zu7:Rn.Worth Tryz.prog F.zcs ⟨12,zh2,zh3⟩:=fun hn h=>zsM (Nat.le_trans hn (by decide)) h
theorem zBP:Rn.Worth Tryz.prog F.znD ⟨8,znQ,znR⟩:=fun hn h=>zAb (Nat.le_trans hn (by decide)) h
theorem zeJ:Rn.Worth Tryz.prog F.zaA ⟨2,zaC,zaD⟩:=fun hn h=>zew (Nat.le_trans hn (by decide)) h
theorem zhy:Rn.Worth Tryz.prog F.zbf ⟨2,zbg,zbh⟩:=fun hn h=>zgX (Nat.le_trans hn (by decide)) h
theorem zu8:Rn.Worth Tryz.prog F.zhG ⟨3,zh4,zh5⟩:=fun hn h=>zsN (Nat.le_trans hn (by decide)) h
theorem zpN:Rn.Worth Tryz.prog F.zei ⟨14,zex,zey⟩:=fun hn h=>zoV (Nat.le_trans hn (by decide)) h
theorem zom:Rn.Worth Tryz.prog F.zde ⟨31,zdk,zdl⟩:=fun hn h=>znS (Nat.le_trans hn (by decide)) h
theorem zwO:Rn.Worth Tryz.prog F.zcS ⟨9,zjH,zjI⟩:=fun hn h=>zuS (Nat.le_trans hn (by decide)) h
theorem zEM:Rn.Worth Tryz.prog F.zqd ⟨12,zqT,zqU⟩:=fun hn h=>zCy (Nat.le_trans hn (by decide)) h
theorem zrU:Rn.Worth Tryz.prog F.zda ⟨18,zf6,zf7⟩:=fun hn h=>zqV (Nat.le_trans hn (by decide)) h
theorem zpO:Rn.Worth Tryz.prog F.za1 ⟨13,zez,zeA⟩:=fun hn h=>zoW (Nat.le_trans hn (by decide)) h
theorem zpP:Rn.Worth Tryz.prog F.zcp ⟨1,zeB,zeC⟩:=fun hn h=>zoX (Nat.le_trans hn (by decide)) h
theorem ztn:Rn.Worth Tryz.prog F.zgD ⟨14,zgY,zgZ⟩:=fun hn h=>zrB (Nat.le_trans hn (by decide)) h
theorem zpe:Rn.Worth Tryz.prog F.zaN ⟨3,zdU,zdV⟩:=fun hn h=>zog (Nat.le_trans hn (by decide)) h
theorem zx8:Rn.Worth Tryz.prog F.zgk ⟨25,zkG,zkH⟩:=fun hn h=>zwd (Nat.le_trans hn (by decide)) h
theorem zAp:Rn.Worth Tryz.prog F.zdw ⟨3,zmI,zmJ⟩:=fun hn h=>zyP (Nat.le_trans hn (by decide)) h
theorem zEN:Rn.Worth Tryz.prog F.zcw ⟨10,zqW,zqX⟩:=fun hn h=>zCz (Nat.le_trans hn (by decide)) h
theorem zAq:Rn.Worth Tryz.prog F.zmo ⟨17,zmK,zmL⟩:=fun hn h=>zyQ (Nat.le_trans hn (by decide)) h
theorem zHd:Rn.Worth Tryz.prog F.zsh ⟨3,zsO,zsP⟩:=fun hn h=>zDX (Nat.le_trans hn (by decide)) h
theorem zto:Rn.Worth Tryz.prog F.zgE ⟨4,zg0,zg1⟩:=fun hn h=>zrC (Nat.le_trans hn (by decide)) h
theorem ztp:Rn.Worth Tryz.prog F.zgF ⟨7,zg2,zg3⟩:=fun hn h=>zrD (Nat.le_trans hn (by decide)) h
theorem zu9:Rn.Worth Tryz.prog F.zhH ⟨5,zh6,zh7⟩:=fun hn h=>zsQ (Nat.le_trans hn (by decide)) h
theorem zva:Rn.Worth Tryz.prog F.zd9 ⟨1,zh8,zh9⟩:=fun hn h=>zsR (Nat.le_trans hn (by decide)) h
theorem zvb:Rn.Worth Tryz.prog F.zea ⟨1,zia,zib⟩:=fun hn h=>zsS (Nat.le_trans hn (by decide)) h
theorem zvc:Rn.Worth Tryz.prog F.zhI ⟨52,zic,zid⟩:=fun hn h=>zsT (Nat.le_trans hn (by decide)) h
theorem zvd:Rn.Worth Tryz.prog F.zhJ ⟨4,zie,zif⟩:=fun hn h=>zsU (Nat.le_trans hn (by decide)) h
theorem zHe:Rn.Worth Tryz.prog F.zsi ⟨7,zsV,zsW⟩:=fun hn h=>zDY (Nat.le_trans hn (by decide)) h
theorem zCH:Rn.Worth Tryz.prog F.zlZ ⟨9,zoY,zoZ⟩:=fun hn h=>zA8 (Nat.le_trans hn (by decide)) h
theorem zCI:Rn.Worth Tryz.prog F.zl0 ⟨58,zo0,zo1⟩:=fun hn h=>zA9 (Nat.le_trans hn (by decide)) h
theorem zpf:Rn.Worth Tryz.prog F.zdO ⟨5,zdW,zdX⟩:=fun hn h=>zoh (Nat.le_trans hn (by decide)) h
theorem zni:Rn.Worth Tryz.prog F.zcx ⟨5,zcA,zcB⟩:=fun hn h=>zmM (Nat.le_trans hn (by decide)) h
theorem zAr:Rn.Worth Tryz.prog F.ziD ⟨8,zmN,zmO⟩:=fun hn h=>zyR (Nat.le_trans hn (by decide)) h
theorem zmi:Rn.Worth Tryz.prog F.zaH ⟨19,zch,zci⟩:=fun hn h=>zlv (Nat.le_trans hn (by decide)) h
theorem zx9:Rn.Worth Tryz.prog F.zbI ⟨3,zkI,zkJ⟩:=fun hn h=>zwe (Nat.le_trans hn (by decide)) h
theorem zCJ:Rn.Worth Tryz.prog F.zoH ⟨7,zo2,zo3⟩:=fun hn h=>zBa (Nat.le_trans hn (by decide)) h
theorem zBQ:Rn.Worth Tryz.prog F.zko ⟨5,znT,znU⟩:=fun hn h=>zAc (Nat.le_trans hn (by decide)) h
theorem zCK:Rn.Worth Tryz.prog F.ziq ⟨5,zo4,zo5⟩:=fun hn h=>zBb (Nat.le_trans hn (by decide)) h
theorem zri:Rn.Worth Tryz.prog F.ze1 ⟨5,zfc,zfd⟩:=fun hn h=>zpy (Nat.le_trans hn (by decide)) h
theorem zwP:Rn.Worth Tryz.prog F.zcT ⟨4,zjJ,zjK⟩:=fun hn h=>zuT (Nat.le_trans hn (by decide)) h
theorem znj:Rn.Worth Tryz.prog F.zaW ⟨5,zcC,zcD⟩:=fun hn h=>zmP (Nat.le_trans hn (by decide)) h
theorem zrV:Rn.Worth Tryz.prog F.zbY ⟨8,zf8,zf9⟩:=fun hn h=>zqY (Nat.le_trans hn (by decide)) h
theorem zon:Rn.Worth Tryz.prog F.zbV ⟨3,zdm,zdn⟩:=fun hn h=>znV (Nat.le_trans hn (by decide)) h
theorem zrW:Rn.Worth Tryz.prog F.zfH ⟨6,zga,zgb⟩:=fun hn h=>zqZ (Nat.le_trans hn (by decide)) h
theorem zmj:Rn.Worth Tryz.prog F.zcg ⟨1,zcj,zck⟩:=fun hn h=>zlw (Nat.le_trans hn (by decide)) h
theorem zpg:Rn.Worth Tryz.prog F.zb9 ⟨5,zdY,zdZ⟩:=fun hn h=>zoi (Nat.le_trans hn (by decide)) h
theorem zhz:Rn.Worth Tryz.prog F.zaf ⟨21,zbi,zbj⟩:=fun hn h=>zg4 (Nat.le_trans hn (by decide)) h
theorem zjY:Rn.Worth Tryz.prog F.zaj ⟨21,zbx,zby⟩:=fun hn h=>ziv (Nat.le_trans hn (by decide)) h
theorem zve:Rn.Worth Tryz.prog F.zeb ⟨8,zig,zih⟩:=fun hn h=>zsX (Nat.le_trans hn (by decide)) h
theorem zrX:Rn.Worth Tryz.prog F.zdb ⟨3,zgc,zgd⟩:=fun hn h=>zq0 (Nat.le_trans hn (by decide)) h
theorem zEO:Rn.Worth Tryz.prog F.zca ⟨12,zq1,zq2⟩:=fun hn h=>zCA (Nat.le_trans hn (by decide)) h
theorem zHf:Rn.Worth Tryz.prog F.zsj ⟨25,zsY,zsZ⟩:=fun hn h=>zDZ (Nat.le_trans hn (by decide)) h
theorem zzf:Rn.Worth Tryz.prog F.zla ⟨13,zlx,zly⟩:=fun hn h=>zxN (Nat.le_trans hn (by decide)) h
theorem zvf:Rn.Worth Tryz.prog F.zec ⟨9,zii,zij⟩:=fun hn h=>zs0 (Nat.le_trans hn (by decide)) h
theorem zzg:Rn.Worth Tryz.prog F.zlb ⟨8,zlz,zlA⟩:=fun hn h=>zxO (Nat.le_trans hn (by decide)) h
theorem zAs:Rn.Worth Tryz.prog F.zmp ⟨13,zmQ,zmR⟩:=fun hn h=>zyS (Nat.le_trans hn (by decide)) h
theorem zwQ:Rn.Worth Tryz.prog F.ziP ⟨11,zjL,zjM⟩:=fun hn h=>zuU (Nat.le_trans hn (by decide)) h
theorem zzh:Rn.Worth Tryz.prog F.zlc ⟨4,zlB,zlC⟩:=fun hn h=>zxP (Nat.le_trans hn (by decide)) h
theorem zkf:Rn.Worth Tryz.prog F.zbB ⟨2,zbC,zbD⟩:=fun hn h=>zjN (Nat.le_trans hn (by decide)) h
theorem zHg:Rn.Worth Tryz.prog F.zou ⟨17,zs1,zs2⟩:=fun hn h=>zD0 (Nat.le_trans hn (by decide)) h
theorem zya:Rn.Worth Tryz.prog F.zkp ⟨11,zkK,zkL⟩:=fun hn h=>zwf (Nat.le_trans hn (by decide)) h
theorem zCL:Rn.Worth Tryz.prog F.zoI ⟨3,zo6,zo7⟩:=fun hn h=>zBc (Nat.le_trans hn (by decide)) h
theorem zpQ:Rn.Worth Tryz.prog F.zej ⟨4,zeD,zeE⟩:=fun hn h=>zo8 (Nat.le_trans hn (by decide)) h
theorem zyb:Rn.Worth Tryz.prog F.zgl ⟨5,zkM,zkN⟩:=fun hn h=>zwg (Nat.le_trans hn (by decide)) h
theorem zrj:Rn.Worth Tryz.prog F.ze2 ⟨77,zfe,zff⟩:=fun hn h=>zpz (Nat.le_trans hn (by decide)) h
theorem ztq:Rn.Worth Tryz.prog F.zdF ⟨3,zg5,zg6⟩:=fun hn h=>zrE (Nat.le_trans hn (by decide)) h
theorem zzi:Rn.Worth Tryz.prog F.zcK ⟨4,zlD,zlE⟩:=fun hn h=>zxQ (Nat.le_trans hn (by decide)) h
theorem zEP:Rn.Worth Tryz.prog F.zqf ⟨5,zq3,zq4⟩:=fun hn h=>zCB (Nat.le_trans hn (by decide)) h
theorem ztr:Rn.Worth Tryz.prog F.zgG ⟨5,zg7,zg8⟩:=fun hn h=>zrF (Nat.le_trans hn (by decide)) h
theorem ziy:Rn.Worth Tryz.prog F.zbm ⟨8,zbn,zbo⟩:=fun hn h=>zik (Nat.le_trans hn (by decide)) h
theorem zow:Rn.Worth Tryz.prog F.zag ⟨3,zgn,zgo⟩:=fun hn h=>zwh (Nat.le_trans hn (by decide)) h
theorem zrk:Rn.Worth Tryz.prog F.ze4 ⟨6,zfg,zfh⟩:=fun hn h=>zpA (Nat.le_trans hn (by decide)) h
theorem zph:Rn.Worth Tryz.prog F.zdP ⟨9,zd0,zd1⟩:=fun hn h=>zoj (Nat.le_trans hn (by decide)) h
theorem zkU:Rn.Worth Tryz.prog F.zaq ⟨19,zbJ,zbK⟩:=fun hn h=>zkd (Nat.le_trans hn (by decide)) h
theorem zwR:Rn.Worth Tryz.prog F.ze5 ⟨6,zjO,zjP⟩:=fun hn h=>zuV (Nat.le_trans hn (by decide)) h
theorem zts:Rn.Worth Tryz.prog F.zgH ⟨9,zg9,zha⟩:=fun hn h=>zrG (Nat.le_trans hn (by decide)) h
theorem zwS:Rn.Worth Tryz.prog F.ziR ⟨7,zjQ,zjR⟩:=fun hn h=>zuW (Nat.le_trans hn (by decide)) h
theorem zeK:Rn.Worth Tryz.prog F.zaB ⟨10,zaE,zaF⟩:=fun hn h=>zeF (Nat.le_trans hn (by decide)) h
theorem zgi:Rn.Worth Tryz.prog F.zaP ⟨10,zaQ,zaR⟩:=fun hn h=>zfr (Nat.le_trans hn (by decide)) h
theorem zEQ:Rn.Worth Tryz.prog F.zm9 ⟨5,zq5,zq6⟩:=fun hn h=>zCC (Nat.le_trans hn (by decide)) h
theorem zwT:Rn.Worth Tryz.prog F.ze7 ⟨11,zjS,zjT⟩:=fun hn h=>zuX (Nat.le_trans hn (by decide)) h
theorem ztt:Rn.Worth Tryz.prog F.zdH ⟨16,zhb,zhc⟩:=fun hn h=>zrH (Nat.le_trans hn (by decide)) h
theorem zn8:Rn.Worth Tryz.prog F.zcV ⟨4,zc3,zc4⟩:=fun hn h=>znd (Nat.le_trans hn (by decide)) h
theorem zBR:Rn.Worth Tryz.prog F.zkr ⟨6,znW,znX⟩:=fun hn h=>zAd (Nat.le_trans hn (by decide)) h
theorem zzj:Rn.Worth Tryz.prog F.zhs ⟨6,zlF,zlG⟩:=fun hn h=>zxR (Nat.le_trans hn (by decide)) h
theorem zAt:Rn.Worth Tryz.prog F.zfq ⟨6,zmS,zmT⟩:=fun hn h=>zyT (Nat.le_trans hn (by decide)) h
theorem zkY:Rn.Worth Tryz.prog F.zbQ ⟨10,zbS,zbT⟩:=fun hn h=>zkO (Nat.le_trans hn (by decide)) h
theorem zHh:Rn.Worth Tryz.prog F.zsk ⟨6,zs3,zs4⟩:=fun hn h=>zD1 (Nat.le_trans hn (by decide)) h
theorem zyc:Rn.Worth Tryz.prog F.zgm ⟨3,zkP,zkQ⟩:=fun hn h=>zwi (Nat.le_trans hn (by decide)) h
theorem zBS:Rn.Worth Tryz.prog F.znE ⟨7,znY,znZ⟩:=fun hn h=>zAe (Nat.le_trans hn (by decide)) h
theorem zzk:Rn.Worth Tryz.prog F.zcL ⟨5,zlH,zlI⟩:=fun hn h=>zxS (Nat.le_trans hn (by decide)) h
theorem zwU:Rn.Worth Tryz.prog F.ze8 ⟨5,zjU,zjV⟩:=fun hn h=>zuY (Nat.le_trans hn (by decide)) h
theorem zkV:Rn.Worth Tryz.prog F.zar ⟨21,zbL,zbM⟩:=fun hn h=>zke (Nat.le_trans hn (by decide)) h
theorem zER:Rn.Worth Tryz.prog F.zqg ⟨12,zq7,zq8⟩:=fun hn h=>zCD (Nat.le_trans hn (by decide)) h
theorem zrY:Rn.Worth Tryz.prog F.zfJ ⟨7,zge,zgf⟩:=fun hn h=>zq9 (Nat.le_trans hn (by decide)) h
theorem zpR:Rn.Worth Tryz.prog F.zel ⟨7,zeG,zeH⟩:=fun hn h=>zo9 (Nat.le_trans hn (by decide)) h
theorem zAu:Rn.Worth Tryz.prog F.zmq ⟨3,zmU,zmV⟩:=fun hn h=>zyU (Nat.le_trans hn (by decide)) h
theorem zoo:Rn.Worth Tryz.prog F.zdf ⟨4,zdo,zdp⟩:=fun hn h=>zn0 (Nat.le_trans hn (by decide)) h
theorem zzl:Rn.Worth Tryz.prog F.zht ⟨5,zlJ,zlK⟩:=fun hn h=>zxT (Nat.le_trans hn (by decide)) h
theorem zhe:Rn.Worth Tryz.prog F.za5 ⟨8,za7,za8⟩:=fun hn h=>zgv (Nat.le_trans hn (by decide)) h
theorem zwV:Rn.Worth Tryz.prog F.ziT ⟨13,zjW,zjX⟩:=fun hn h=>zuZ (Nat.le_trans hn (by decide)) h
theorem zhf:Rn.Worth Tryz.prog F.za6 ⟨10,za9,zba⟩:=fun hn h=>zgw (Nat.le_trans hn (by decide)) h
theorem zrl:Rn.Worth Tryz.prog F.ze9 ⟨12,zfi,zfj⟩:=fun hn h=>zpB (Nat.le_trans hn (by decide)) h
theorem zDk:Rn.T.All (Rn.Worth Tryz.prog) zu := .no (.no (.no (.at zx2 (.no (.no (.no (.no (.at zzg (.nil) (.nil)) (.nil)) (.nil)) (.at zu1 (.at zrh (.at zph (.nil) (.nil)) (.nil)) (.at zmi (.nil) (.nil)))) (.no (.no (.at zAo (.at zEP (.nil) (.nil)) (.nil)) (.at ztp (.at zpR (.nil) (.nil)) (.nil))) (.at zzb (.at zBP (.at zgi (.nil) (.nil)) (.nil)) (.no (.at zhf (.nil) (.nil)) (.nil))))) (.at zAi (.at zws (.at zwx (.at zBO (.at zya (.nil) (.nil)) (.nil)) (.at zpe (.at zHh (.nil) (.nil)) (.nil))) (.at zrM (.at zHc (.at zeK (.nil) (.nil)) (.nil)) (.at znj (.nil) (.nil)))) (.at zwt (.at zCG (.at zwK (.nil) (.nil)) (.at zCH (.nil) (.nil))) (.no (.nil) (.at zEO (.at zrl (.nil) (.nil)) (.nil)))))) (.no (.no (.no (.no (.at zol (.at zkf (.nil) (.nil)) (.nil)) (.at zrU (.at zzj (.nil) (.nil)) (.nil))) (.at zwC (.no (.at zts (.nil) (.nil)) (.nil)) (.at zBQ (.nil) (.nil)))) (.no (.no (.at zx7 (.nil) (.nil)) (.at zvc (.nil) (.nil))) (.nil))) (.no (.at zy8 (.at zrJ (.at zwJ (.nil) (.nil)) (.at zEN (.at zwU (.nil) (.nil)) (.nil))) (.at zrN (.at zrT (.nil) (.nil)) (.at zmj (.nil) (.nil)))) (.at zwv (.at zy9 (.at zze (.nil) (.nil)) (.nil)) (.at zwH (.no (.at zwT (.nil) (.nil)) (.nil)) (.nil)))))) (.no (.no (.at zwr (.no (.no (.at zAm (.at zwQ (.nil) (.nil)) (.nil)) (.at zEM (.at zn8 (.nil) (.nil)) (.nil))) (.at zwB (.no (.at zwR (.nil) (.nil)) (.nil)) (.nil))) (.no (.no (.at zzc (.nil) (.nil)) (.at zva (.at zoo (.nil) (.nil)) (.nil))) (.at zpK (.nil) (.at zjY (.nil) (.nil))))) (.no (.no (.at zwy (.at zu4 (.at zpQ (.nil) (.nil)) (.nil)) (.no (.at zBS (.nil) (.nil)) (.nil))) (.at zn5 (.at zrR (.nil) (.nil)) (.at zon (.nil) (.nil)))) (.at zEE (.at zEH (.at zHb (.nil) (.nil)) (.at zpf (.nil) (.nil))) (.at zu3 (.nil) (.nil))))) (.no (.at zu0 (.no (.at zG9 (.at zn6 (.nil) (.nil)) (.at zpP (.at zkY (.nil) (.nil)) (.nil))) (.at zrL (.nil) (.at zri (.nil) (.nil)))) (.no (.at zrK (.at zzd (.nil) (.nil)) (.at zvd (.nil) (.nil))) (.no (.nil) (.at zve (.nil) (.nil))))) (.no (.no (.at ztj (.at zx6 (.at ztq (.nil) (.nil)) (.nil)) (.at zHd (.at zER (.nil) (.nil)) (.nil))) (.at zwF (.at zu7 (.nil) (.nil)) (.at zpg (.nil) (.nil)))) (.at zww (.at zEI (.no (.at zow (.nil) (.nil)) (.nil)) (.nil)) (.no (.at zwO (.nil) (.nil)) (.at zzf (.nil) (.nil)))))))) (.no (.no (.no (.no (.no (.no (.at zAl (.at zAs (.nil) (.nil)) (.nil)) (.nil)) (.at zpJ (.at zpL (.at zkU (.nil) (.nil)) (.nil)) (.at zx9 (.nil) (.nil)))) (.no (.no (.at zrO (.at ztr (.nil) (.nil)) (.nil)) (.at zu9 (.at zAu (.nil) (.nil)) (.nil))) (.at zwG (.at zeJ (.nil) (.nil)) (.at zhz (.nil) (.nil))))) (.no (.no (.at zti (.at zEK (.at zCL (.nil) (.nil)) (.nil)) (.at zx8 (.at zyc (.nil) (.nil)) (.nil))) (.at zza (.at zwN (.nil) (.nil)) (.at zrV (.nil) (.nil)))) (.at zED (.at zEG (.at zwL (.nil) (.nil)) (.at zCI (.at zhe (.nil) (.nil)) (.nil))) (.no (.no (.at zEQ (.nil) (.nil)) (.nil)) (.at zHf (.nil) (.nil)))))) (.no (.no (.no (.at zCF (.at zpc (.nil) (.nil)) (.at zpO (.at zAt (.nil) (.nil)) (.nil))) (.at zu2 (.at zwM (.at zwS (.nil) (.nil)) (.nil)) (.at zCK (.nil) (.nil)))) (.no (.no (.at zu6 (.nil) (.nil)) (.nil)) (.nil))) (.no (.at zAj (.at zwA (.at zu5 (.at zrj (.nil) (.nil)) (.nil)) (.at zAq (.at zkV (.nil) (.nil)) (.nil))) (.at zwE (.at zn7 (.nil) (.nil)) (.nil))) (.at zwq (.at zHa (.at znh (.nil) (.nil)) (.nil)) (.no (.at zom (.at ztt (.nil) (.nil)) (.nil)) (.nil)))))) (.no (.no (.no (.no (.at zBM (.at zwI (.at zzh (.nil) (.nil)) (.nil)) (.no (.at zBR (.nil) (.nil)) (.nil))) (.at zx4 (.nil) (.at zCJ (.at zwV (.nil) (.nil)) (.nil)))) (.no (.no (.at zEL (.at ziy (.nil) (.nil)) (.nil)) (.at zvb (.at zzl (.nil) (.nil)) (.nil))) (.at ztk (.at zhy (.nil) (.nil)) (.nil)))) (.no (.at zx3 (.at zwz (.at ztm (.at zyb (.nil) (.nil)) (.nil)) (.at zAp (.at zzk (.nil) (.nil)) (.nil))) (.at zwD (.at zrS (.nil) (.nil)) (.at zrW (.nil) (.nil)))) (.at zwu (.at zBN (.at zrP (.nil) (.nil)) (.at zni (.nil) (.nil))) (.at ztl (.at zpN (.nil) (.nil)) (.nil))))) (.at zAh (.at zy7 (.at zEC (.at zEF (.at zpd (.at zHg (.nil) (.nil)) (.nil)) (.at ztn (.nil) (.nil))) (.at zAk (.at zpM (.nil) (.nil)) (.at zwP (.nil) (.nil)))) (.at zBL (.no (.nil) (.at zHe (.nil) (.nil))) (.no (.at zu8 (.nil) (.nil)) (.at zrX (.nil) (.nil))))) (.no (.no (.no (.at zAn (.at zzi (.nil) (.nil)) (.nil)) (.at zto (.at zrY (.nil) (.nil)) (.nil))) (.at zx5 (.nil) (.nil))) (.at zok (.at zEJ (.at zrQ (.at zrk (.nil) (.nil)) (.nil)) (.at zAr (.nil) (.nil))) (.no (.nil) (.at zvf (.nil) (.nil))))))))
end Go.Proofs.YtpnhjkiligohnaaGreatDoor
namespace Go.Proofs.YtpnhjkiligohnaaGreatDoor
open Go Go.Vm
def bl (b:ByteArray):List UInt8:=b.data.toList
def zOf (a b:ByteArray):Bool:=Op.bytesLess a.toList b.toList
structure FileR where
 name:ByteArray
 safe:ByteArray
 tail:ByteArray
def FileR.all (f:FileR):ByteArray:=f.safe++f.tail
structure zyd where
 limit:Int
 l:List FileR
 left:Int
 down:Bool
def zDl (L:List FileR):Prop:=L.Pairwise fun x y=>zOf x.name y.name=true
def zOg (L:List FileR) (n:ByteArray):Option FileR:=L.find? fun f=>decide (f.name=n)
def zOh (L:List FileR):Nat:=(L.map fun f=>f.safe.size+f.tail.size).sum
structure zPu (D:zyd):Prop where
 sort:zDl D.l
 len:D.l.length≤64
 used:zOh D.l≤1048576
 limit:0≤D.limit∧D.limit≤1048576
 left : -1≤D.left∧D.left≤9223372036854775807
end Go.Proofs.YtpnhjkiligohnaaGreatDoor
