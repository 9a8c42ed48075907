/- Part of this proof;laid by program. -/
import Derived.Test.YtdogcflaekkdkaaGreatJ18
import Derived.Test.YtdogcflaekkdkaaGreatJ19
import Derived.Test.YtdogcflaekkdkaaGreatJ20
import Derived.Test.YtdogcflaekkdkaaGreatJ11
import Derived.Test.YtdogcflaekkdkaaGreatJ17
import Derived.Test.YtdogcflaekkdkaaGreatJ16
import Derived.Test.YtdogcflaekkdkaaGreatJ8
import Derived.Shelf.Spec.SlicesInsertGrow
import Derived.Sort.Grow
import Derived.Test.YtdogcflaekkdkaaGreatProg
set_option linter.unusedVariables false
set_option linter.unusedSimpArgs false
namespace Go.Proofs.YtdogcflaekkdkaaGreat
open Go.Vm Go.Vm.Rn
set_option maxRecDepth 20000
def tab:T FC := .n (.n (.n (.n (.n (.n (.n (.n (.n (.e) (some ⟨3,zpS,zpT⟩) (.e)) (some ⟨3,zkZ,zk0⟩) (.e)) (some ⟨1,zoI,zoJ⟩) (.n (.n (.e) (some ⟨50,zkc,zkd⟩) (.e)) (some ⟨2,zQ,zU⟩) (.e))) (some ⟨71,zow,zox⟩) (.n (.n (.n (.e) (some ⟨13,zdK,zdL⟩) (.e)) (some ⟨4,zg6,zg7⟩) (.e)) (some ⟨2,zfC,zfD⟩) (.n (.e) (some ⟨5,zC1,zC2⟩) (.e)))) (some ⟨3,zfo,zfp⟩) (.n (.n (.n (.e) (some ⟨7,zqn,zqo⟩) (.e)) (some ⟨8,zh5,zh6⟩) (.n (.e) (some ⟨7,zun,zuo⟩) (.e))) (some ⟨12,zdY,zdZ⟩) (.n (.n (.n (.e) (some ⟨2,zpU,zpV⟩) (.e)) (some ⟨17,zA6,zA7⟩) (.e)) (some ⟨3,zg0,zg1⟩) (.n (.e) (some ⟨6,zk5,zk6⟩) (.e))))) (some ⟨3,zAR,zAS⟩) (.n (.n (.n (.n (.n (.e) (some ⟨18,zC5,zC6⟩) (.e)) (some ⟨4,zeR,zeS⟩) (.e)) (some ⟨23,zkR,zkS⟩) (.n (.n (.e) (some ⟨12,zmP,zmQ⟩) (.e)) (some ⟨5,zif,zig⟩) (.e))) (some ⟨11,zkP,zkQ⟩) (.n (.n (.n (.e) (some ⟨13,ze5,ze6⟩) (.e)) (some ⟨10,zuj,zuk⟩) (.e)) (some ⟨5,zec,zed⟩) (.n (.e) (some ⟨11,zhk,zhl⟩) (.e)))) (some ⟨9,zu8,zu9⟩) (.n (.n (.n (.n (.e) (some ⟨13,zin,zio⟩) (.e)) (some ⟨8,zk3,zk4⟩) (.e)) (some ⟨10,zjt,zju⟩) (.n (.e) (some ⟨11,zj2,zj3⟩) (.e))) (some ⟨41,zd0,zd1⟩) (.n (.n (.n (.e) (some ⟨12,zkA,zkB⟩) (.e)) (some ⟨12,zoT,zoU⟩) (.e)) (some ⟨13,zkX,zkY⟩) (.n (.e) (some ⟨21,zaB,zaC⟩) (.e)))))) (some ⟨3,zsd,zse⟩) (.n (.n (.n (.n (.n (.n (.e) (some ⟨3,zyK,zyL⟩) (.e)) (some ⟨6,zyy,zyz⟩) (.e)) (some ⟨3,zeL,zeM⟩) (.n (.n (.e) (some ⟨11,zix,ziy⟩) (.e)) (some ⟨12,zpy,zpz⟩) (.e))) (some ⟨91,zfu,zfv⟩) (.n (.n (.n (.e) (some ⟨13,zky,zkz⟩) (.e)) (some ⟨9,zeV,zeW⟩) (.e)) (some ⟨3,zsZ,zs0⟩) (.n (.e) (some ⟨13,zhi,zhj⟩) (.e)))) (some ⟨5,zjh,zji⟩) (.n (.n (.n (.n (.e) (some ⟨13,ziO,ziP⟩) (.e)) (some ⟨5,zbo,zbp⟩) (.e)) (some ⟨13,zgS,zgT⟩) (.n (.e) (some ⟨50,zlH,zlI⟩) (.e))) (some ⟨9,zgO,zgP⟩) (.n (.n (.n (.e) (some ⟨9,zC9,zDa⟩) (.e)) (some ⟨6,zqp,zqq⟩) (.e)) (some ⟨4,zci,zcj⟩) (.n (.e) (some ⟨21,zaK,zaL⟩) (.e))))) (some ⟨8,zjf,zjg⟩) (.n (.n (.n (.n (.n (.e) (some ⟨9,zyM,zyN⟩) (.e)) (some ⟨1,zfK,zfL⟩) (.e)) (some ⟨30,zd4,zd5⟩) (.n (.n (.e) (some ⟨7,ziz,ziA⟩) (.e)) (some ⟨4,zjD,zjE⟩) (.e))) (some ⟨24,zgI,zgJ⟩) (.n (.n (.n (.e) (some ⟨9,zw9,zxa⟩) (.e)) (some ⟨9,zhc,zhd⟩) (.e)) (some ⟨6,zrv,zrw⟩) (.n (.e) (some ⟨10,zBa,zBb⟩) (.e)))) (some ⟨7,zqd,zqe⟩) (.n (.n (.n (.n (.e) (some ⟨13,ziQ,ziR⟩) (.e)) (some ⟨7,znC,znD⟩) (.e)) (some ⟨5,zms,zmt⟩) (.n (.e) (some ⟨9,zyE,zyF⟩) (.e))) (some ⟨25,zmq,zmr⟩) (.n (.n (.n (.e) (some ⟨9,zmF,zmG⟩) (.e)) (some ⟨5,zst,zsu⟩) (.e)) (some ⟨14,zeN,zeO⟩) (.n (.e) (some ⟨3,zk7,zk8⟩) (.e))))))) (none) (.n (.n (.n (.n (.n (.n (.n (.e) (some ⟨7,zj4,zj5⟩) (.e)) (some ⟨17,zk1,zk2⟩) (.e)) (some ⟨6,zd2,zd3⟩) (.n (.n (.e) (some ⟨11,zfj,zfk⟩) (.e)) (some ⟨2,zal,zam⟩) (.e))) (some ⟨3,zfs,zft⟩) (.n (.n (.n (.e) (some ⟨14,ziq,zir⟩) (.e)) (some ⟨6,zg8,zg9⟩) (.e)) (some ⟨6,zrt,zru⟩) (.n (.e) (some ⟨25,zqt,zqu⟩) (.e)))) (some ⟨6,zfq,zfr⟩) (.n (.n (.n (.n (.e) (some ⟨10,zae,zaf⟩) (.e)) (some ⟨58,znA,znB⟩) (.e)) (some ⟨4,zjr,zjs⟩) (.n (.e) (some ⟨11,zni,znj⟩) (.e))) (some ⟨5,zgM,zgN⟩) (.n (.n (.n (.e) (some ⟨9,ziu,ziv⟩) (.e)) (some ⟨6,zmy,zmz⟩) (.e)) (some ⟨52,zcg,zch⟩) (.n (.e) (some ⟨10,zaS,zaT⟩) (.e))))) (some ⟨12,zmo,zmp⟩) (.n (.n (.n (.n (.n (.e) (some ⟨4,zw3,zw4⟩) (.e)) (some ⟨5,zfG,zfH⟩) (.e)) (some ⟨5,zCR,zCS⟩) (.n (.n (.e) (some ⟨12,zlT,zlU⟩) (.e)) (some ⟨77,zdm,zdn⟩) (.e))) (some ⟨4,zjj,zjk⟩) (.n (.n (.n (.e) (some ⟨14,zj8,zj9⟩) (.e)) (some ⟨7,zzK,zzL⟩) (.e)) (some ⟨5,zyt,zyu⟩) (.n (.e) (some ⟨5,zw1,zw2⟩) (.e)))) (some ⟨3,zwN,zwO⟩) (.n (.n (.n (.n (.e) (some ⟨5,zw7,zw8⟩) (.e)) (some ⟨3,zh9,zia⟩) (.e)) (some ⟨10,zvh,zvi⟩) (.n (.e) (some ⟨3,zvv,zvw⟩) (.e))) (some ⟨4,zoE,zoF⟩) (.n (.n (.n (.e) (some ⟨13,zlP,zlQ⟩) (.e)) (some ⟨8,zjB,zjC⟩) (.e)) (some ⟨4,zjv,zjw⟩) (.n (.e) (some ⟨7,zem,zen⟩) (.e)))))) (some ⟨5,zyj,zyk⟩) (.n (.n (.n (.n (.n (.n (.e) (some ⟨8,zmD,zmE⟩) (.e)) (some ⟨29,zeP,zeQ⟩) (.e)) (some ⟨66,zfy,zfz⟩) (.n (.n (.e) (some ⟨6,zyO,zyP⟩) (.e)) (some ⟨3,znG,znH⟩) (.e))) (some ⟨3,zbP,zbQ⟩) (.n (.n (.n (.e) (some ⟨56,ziS,ziT⟩) (.e)) (some ⟨7,zuh,zui⟩) (.e)) (some ⟨26,zqj,zqk⟩) (.n (.e) (some ⟨12,zfU,zfV⟩) (.e)))) (some ⟨63,zgG,zgH⟩) (.n (.n (.n (.n (.e) (some ⟨10,zjJ,zjK⟩) (.e)) (some ⟨5,zqR,zqS⟩) (.e)) (some ⟨42,zqh,zqi⟩) (.n (.e) (some ⟨11,zhg,zhh⟩) (.e))) (some ⟨7,zoA,zoB⟩) (.n (.n (.n (.e) (some ⟨9,zgd,zge⟩) (.e)) (some ⟨7,zmA,zmB⟩) (.e)) (some ⟨5,zoN,zoO⟩) (.n (.e) (some ⟨3,zD8,zD9⟩) (.e))))) (some ⟨6,zgE,zgF⟩) (.n (.n (.n (.n (.n (.e) (some ⟨4,zbF,zbG⟩) (.e)) (some ⟨5,zvo,zvp⟩) (.e)) (some ⟨4,zjp,zjq⟩) (.n (.n (.e) (some ⟨3,zuv,zuw⟩) (.e)) (some ⟨5,zoV,zoW⟩) (.e))) (some ⟨7,zfw,zfx⟩) (.n (.n (.n (.e) (some ⟨19,zaM,zaN⟩) (.e)) (some ⟨96,zCX,zCY⟩) (.e)) (some ⟨3,zkV,zkW⟩) (.n (.e) (some ⟨13,zjF,zjG⟩) (.e)))) (some ⟨7,zzt,zzu⟩) (.n (.n (.n (.n (.e) (some ⟨56,zhy,zhz⟩) (.e)) (some ⟨5,znE,znF⟩) (.e)) (some ⟨1,zcN,zcO⟩) (.n (.e) (some ⟨6,zdo,zdp⟩) (.e))) (some ⟨4,zqf,zqg⟩) (.n (.n (.n (.e) (some ⟨11,zlR,zlS⟩) (.e)) (some ⟨17,zqr,zqs⟩) (.e)) (some ⟨25,zh7,zh8⟩) (.n (.e) (some ⟨7,zk9,zla⟩) (.e)))))))) (none) (.n (.n (.n (.n (.n (.n (.n (.n (.e) (some ⟨3,zqZ,zq0⟩) (.e)) (some ⟨10,zoP,zoQ⟩) (.e)) (some ⟨3,zbR,zbS⟩) (.n (.n (.e) (some ⟨8,zjL,zjM⟩) (.e)) (some ⟨5,zsv,zsw⟩) (.e))) (some ⟨6,zkN,zkO⟩) (.n (.n (.n (.e) (some ⟨13,zgb,zgc⟩) (.e)) (some ⟨5,zbq,zbr⟩) (.e)) (some ⟨1,zwT,zwU⟩) (.n (.e) (some ⟨10,zF3,zF4⟩) (.e)))) (some ⟨66,zdS,zdT⟩) (.n (.n (.n (.n (.e) (some ⟨2,zpB,zpC⟩) (.e)) (some ⟨9,zny,znz⟩) (.e)) (some ⟨5,zfA,zfB⟩) (.n (.e) (some ⟨8,zau,zav⟩) (.e))) (some ⟨10,zgK,zgL⟩) (.n (.n (.n (.e) (some ⟨12,zlN,zlO⟩) (.e)) (some ⟨1,zcT,zcU⟩) (.e)) (some ⟨3,zbT,zbU⟩) (.n (.e) (some ⟨13,zyI,zyJ⟩) (.e))))) (some ⟨6,zkJ,zkK⟩) (.n (.n (.n (.n (.n (.e) (some ⟨41,zC7,zC8⟩) (.e)) (some ⟨7,zeT,zeU⟩) (.e)) (some ⟨4,zkT,zkU⟩) (.n (.n (.e) (some ⟨12,zke,zkf⟩) (.e)) (some ⟨1,zqW,zqX⟩) (.e))) (some ⟨6,zdW,zdX⟩) (.n (.n (.n (.e) (some ⟨13,zhB,zhC⟩) (.e)) (some ⟨4,zzI,zzJ⟩) (.e)) (some ⟨46,zee,zef⟩) (.n (.e) (some ⟨16,ze3,ze4⟩) (.e)))) (some ⟨5,zwL,zwM⟩) (.n (.n (.n (.n (.e) (some ⟨14,zlp,zlq⟩) (.e)) (some ⟨19,za9,zba⟩) (.e)) (some ⟨5,zbm,zbn⟩) (.n (.e) (some ⟨12,zmL,zmM⟩) (.e))) (some ⟨5,zoC,zoD⟩) (.n (.n (.n (.e) (some ⟨9,zhD,zhE⟩) (.e)) (some ⟨5,zhe,zhf⟩) (.e)) (some ⟨11,zg2,zg3⟩) (.n (.e) (some ⟨7,zvz,zvA⟩) (.e)))))) (some ⟨13,zwI,zwJ⟩) (.n (.n (.n (.n (.n (.n (.e) (some ⟨5,zoZ,zo0⟩) (.e)) (some ⟨3,zAZ,zA0⟩) (.e)) (some ⟨14,zgQ,zgR⟩) (.n (.n (.e) (some ⟨12,zlr,zls⟩) (.e)) (some ⟨11,zid,zie⟩) (.e))) (some ⟨7,zCP,zCQ⟩) (.n (.n (.n (.e) (some ⟨13,zhP,zhQ⟩) (.e)) (some ⟨14,zcR,zcS⟩) (.e)) (some ⟨3,zcP,zcQ⟩) (.n (.e) (some ⟨3,zek,zel⟩) (.e)))) (some ⟨3,zhX,zhY⟩) (.n (.n (.n (.n (.e) (some ⟨56,zj6,zj7⟩) (.e)) (some ⟨6,zqP,zqQ⟩) (.e)) (some ⟨4,zgU,zgV⟩) (.n (.e) (some ⟨8,zln,zlo⟩) (.e))) (some ⟨21,zcJ,zcK⟩) (.n (.n (.n (.e) (some ⟨12,ziU,ziV⟩) (.e)) (some ⟨3,zib,zic⟩) (.e)) (some ⟨4,zmu,zmv⟩) (.n (.e) (some ⟨12,zoX,zoY⟩) (.e))))) (some ⟨11,zeJ,zeK⟩) (.n (.n (.n (.n (.n (.e) (some ⟨4,zw5,zw6⟩) (.e)) (some ⟨52,zfM,zfN⟩) (.e)) (some ⟨2,zd6,zd7⟩) (.n (.n (.e) (some ⟨11,zmR,zmS⟩) (.e)) (some ⟨3,znI,znJ⟩) (.e))) (some ⟨6,zhZ,zh0⟩) (.n (.n (.n (.e) (some ⟨10,zoe,zof⟩) (.e)) (some ⟨105,zFX,zFY⟩) (.e)) (some ⟨9,zqN,zqO⟩) (.n (.e) (some ⟨21,zD5,zD6⟩) (.e)))) (some ⟨6,zDP,zDQ⟩) (.n (.n (.n (.n (.e) (some ⟨13,zgg,zgh⟩) (.e)) (some ⟨5,zmw,zmx⟩) (.e)) (some ⟨12,zdi,zdj⟩) (.n (.e) (some ⟨3,ze1,ze2⟩) (.e))) (some ⟨17,zjn,zjo⟩) (.n (.n (.n (.e) (some ⟨8,zag,zah⟩) (.e)) (some ⟨5,zF0,zF1⟩) (.e)) (some ⟨3,zck,zcl⟩) (.n (.e) (some ⟨4,zbX,zbY⟩) (.e))))))) (none) (.n (.n (.n (.n (.n (.n (.n (.e) (some ⟨11,zoc,zod⟩) (.e)) (some ⟨3,zql,zqm⟩) (.e)) (some ⟨13,zcL,zcM⟩) (.n (.n (.e) (some ⟨5,zvB,zvC⟩) (.e)) (some ⟨5,zul,zum⟩) (.e))) (some ⟨11,zbz,zbA⟩) (.n (.n (.n (.e) (some ⟨10,z2,z5⟩) (.e)) (some ⟨89,zFV,zFW⟩) (.e)) (some ⟨4,zgW,zgX⟩) (.n (.e) (some ⟨16,zfS,zfT⟩) (.e)))) (some ⟨4,zcH,zcI⟩) (.n (.n (.n (.n (.e) (some ⟨13,zlK,zlL⟩) (.e)) (some ⟨5,zcm,zcn⟩) (.e)) (some ⟨2,zzB,zzC⟩) (.n (.e) (some ⟨11,zkv,zkw⟩) (.e))) (some ⟨12,zh1,zh2⟩) (.n (.n (.n (.e) (some ⟨13,zmN,zmO⟩) (.e)) (some ⟨6,zjx,zjy⟩) (.e)) (some ⟨37,zbD,zbE⟩) (.e)))) (some ⟨1,zkL,zkM⟩) (.n (.n (.n (.n (.n (.e) (some ⟨6,zBd,zBe⟩) (.e)) (some ⟨1,zfI,zfJ⟩) (.e)) (some ⟨6,zAV,zAW⟩) (.n (.n (.e) (some ⟨10,zlV,zlW⟩) (.e)) (some ⟨3,zeX,zeY⟩) (.e))) (some ⟨3,zbB,zbC⟩) (.n (.n (.n (.e) (some ⟨12,zdq,zdr⟩) (.e)) (some ⟨31,zbV,zbW⟩) (.e)) (some ⟨5,zce,zcf⟩) (.n (.e) (some ⟨7,zC3,zC4⟩) (.e)))) (some ⟨7,znw,znx⟩) (.n (.n (.n (.n (.e) (some ⟨10,zV,zW⟩) (.e)) (some ⟨5,zA3,zA4⟩) (.e)) (some ⟨30,zea,zeb⟩) (.n (.e) (some ⟨3,zfQ,zfR⟩) (.e))) (some ⟨5,zzx,zzy⟩) (.n (.n (.n (.e) (some ⟨7,zBh,zBi⟩) (.e)) (some ⟨2,zaE,zaF⟩) (.e)) (some ⟨18,zei,zej⟩) (.n (.e) (some ⟨7,zcX,zcY⟩) (.e)))))) (some ⟨5,zmm,zmn⟩) (.n (.n (.n (.n (.n (.n (.e) (some ⟨1,zbb,zbc⟩) (.e)) (some ⟨13,zg4,zg5⟩) (.e)) (some ⟨4,zh3,zh4⟩) (.n (.n (.e) (some ⟨9,zzR,zzS⟩) (.e)) (some ⟨4,zcV,zcW⟩) (.e))) (some ⟨16,zdU,zdV⟩) (.n (.n (.n (.e) (some ⟨10,zis,zit⟩) (.e)) (some ⟨7,zha,zhb⟩) (.e)) (some ⟨6,zgY,zgZ⟩) (.n (.e) (some ⟨8,zfW,zfX⟩) (.e)))) (some ⟨5,zsW,zsX⟩) (.n (.n (.n (.n (.e) (some ⟨13,zfh,zfi⟩) (.e)) (some ⟨6,zA1,zA2⟩) (.e)) (some ⟨11,zd8,zd9⟩) (.n (.e) (some ⟨5,zzM,zzN⟩) (.e))) (some ⟨7,zt6,zt7⟩) (.n (.n (.n (.e) (some ⟨13,zka,zkb⟩) (.e)) (some ⟨5,zjz,zjA⟩) (.e)) (some ⟨9,zfE,zfF⟩) (.n (.e) (some ⟨21,zan,zao⟩) (.e))))) (some ⟨10,zCM,zCN⟩) (.n (.n (.n (.n (.n (.e) (some ⟨3,zut,zuu⟩) (.e)) (some ⟨4,zfO,zfP⟩) (.e)) (some ⟨41,zoK,zoL⟩) (.n (.n (.e) (some ⟨10,zmT,zmU⟩) (.e)) (some ⟨5,zeZ,ze0⟩) (.e))) (some ⟨3,zjl,zjm⟩) (.n (.n (.n (.e) (some ⟨3,zBf,zBg⟩) (.e)) (some ⟨12,zoR,zoS⟩) (.e)) (some ⟨8,zeg,zeh⟩) (.n (.e) (some ⟨5,zjH,zjI⟩) (.e)))) (some ⟨4,zou,zov⟩) (.n (.n (.n (.n (.e) (some ⟨10,zhm,zhn⟩) (.e)) (some ⟨5,zdk,zdl⟩) (.e)) (some ⟨4,zrr,zrs⟩) (.n (.e) (some ⟨9,zco,zcp⟩) (.e))) (some ⟨15,zoG,zoH⟩) (.n (.n (.n (.e) (some ⟨11,ziW,ziX⟩) (.e)) (some ⟨4,zD2,zD3⟩) (.e)) (some ⟨6,zyw,zyx⟩) (.n (.e) (some ⟨10,znk,znl⟩) (.e))))))))
end Go.Proofs.YtdogcflaekkdkaaGreat
namespace Go.Proofs.YtdogcflaekkdkaaGreat
open Go Go.Vm
attribute [local irreducible] Brn Ob Grow CallsM inR zc4 zcB Mem.row Mem.cells Mem.setCells Mem.upd Go.Vm.Own zfl zkD zi2 zhp New SrcOk zaa NewSl Mem.textAt Mem.mapAt Mem.iterAt zcA kfind Wr zkr Elems
set_option maxRecDepth 10000
section
variable {M:Mem}
def zOh:Rn.T Rn.FC := .n (.n (.n (.e) none (.n (.e) none (.n (.e) none (.n (.e) none (.n (.n (.n (.e) (some ⟨9,zmF,zmG⟩) (.e)) none (.e)) none (.e)))))) none (.e)) none (.n (.n (.e) none (.n (.e) none (.n (.e) none (.n (.n (.e) none (.n (.e) (some ⟨3,ze1,ze2⟩) (.e))) none (.e))))) none (.e))
theorem zDb:Rn.Worth Tryz.prog F.zcx ⟨9,zmF,zmG⟩:=fun hn h=>zBj (Nat.le_trans hn (by decide)) h
theorem zqv:Rn.Worth Tryz.prog F.zF ⟨3,ze1,ze2⟩:=fun hn h=>zw0 (Nat.le_trans hn (by decide)) h
theorem zMN:Rn.T.All (Rn.Worth Tryz.prog) zOh := .no (.no (.no (.nil) (.no (.nil) (.no (.nil) (.no (.nil) (.no (.no (.at zDb (.nil) (.nil)) (.nil)) (.nil)))))) (.nil)) (.no (.no (.nil) (.no (.nil) (.no (.nil) (.no (.no (.nil) (.at zqv (.nil) (.nil))) (.nil))))) (.nil))
noncomputable def zOi:Rn.R:=Rn.run .e zOh 10 3 F.zcx [.c .nl] 0 .e
noncomputable def isF (c:Rn.C):Bool:=match c with | .t false=>true|_=>false
noncomputable def zLZ (r:Rn.R):Bool:=match r with|some (.rt (.ag l) _ _)=>Nat.beq l.length 128&&l.all isF|_=>false
theorem zIN:zLZ zOi=true:=by kernel_rfl
theorem zIO {l:List Rn.C} {σ:List Rn.E} {vs:List Value} (hl:l.all isF=true) (h:Rn.All2 (Rn.CR σ) l vs):vs=List.replicate l.length (.bool false):=by
 induction l generalizing vs with
 | nil=>cases vs with
  | nil=>rfl
  | cons _ _=>exact h.elim
 | cons c l ih=>cases vs with
  | nil=>exact h.elim
  | cons v vs=>
   rw[List.all_cons,Bool.and_eq_true] at hl
   rw[ih hl.2 h.2,List.length_cons,List.replicate_succ]
   have hc:=hl.1
   unfold isF at hc
   split at hc
   ·have h1:some (Value.bool false)=some v:=h.1
    cases h1;rfl
   ·cases hc
theorem has_nil:CallsM Tryz.prog F.zcx [.slice none 0 0] M fun v M'=>v = .agg (List.replicate 128 (.bool false)).toArray∧M.le M':=by
 have h1:CallsM Tryz.prog F.zcx [.slice none 0 0] Mem.empty fun v _=>v = .agg (List.replicate 128 (.bool false)).toArray:=by
  have hk:=zIN
  unfold zLZ at hk
  split at hk
  ·rename_i l n H hr
   have:=Rn.run_ok (P:=Tryz.prog) (prim := .e) trivial zMN 10 3 hr rfl (σ:=[]) (M:=Mem.empty) (vs:=[.slice none 0 0]) rfl ⟨fun _ _ h=>(by cases h),fun _ _ _ _ _ _ h=>(by cases h)⟩ ⟨rfl,trivial⟩
   refine this.mono ?_
   rintro v M' ⟨τ, -, h2, -⟩
   obtain⟨vs,h3,rfl⟩:=h2
   rw[Bool.and_eq_true] at hk
   rw[zIO hk.2 h3,Nat.eq_of_beq_eq_true hk.1]
  ·cases hk
 refine(h1.frame (Mem.empty_le M)).mono ?_
 rintro v M' ⟨A',rfl, -, h2⟩
 exact⟨rfl,fun b o hb=>(h2 b o rfl hb).1⟩
theorem zJR (base:Int):CallsM Tryz.prog F.zkH [.int .i64 base,.slice none 0 0] M fun v M'=>v = .slice none 0 0∧M.le M':=by
 refine zzc (by simp) ?_
 refine zR ?_
 refine has_nil.mono ?_
 rintro v M1 ⟨rfl,hle1⟩
 refine zR ?_
 refine(zEN base 128).mono ?_
 rintro v M2 ⟨B1,B2,rfl,hB1,hB2,hle2⟩
 (conv=>whnf);refine⟨rfl,?_⟩
 (conv=>whnf);refine new (fun b0 hb0=>?_)
 replace hb0:M2 b0=none:=hb0
 (conv=>whnf);refine new (fun b1 hb1=>?_)
 replace hb1:(M2.setCells b0 T.zcc (List.replicate 128 (.bool false))) b1=none:=hb1
 have hne:b1≠b0:=fun e=>by
  rw[e] at hb1
  have h1:=Mem.has_setCells (M:=M2) (b:=b0) (E:=T.zcc) (l:=List.replicate 128 (.bool false))
  unfold Mem.has at h1;rw[h1] at hb1;cases hb1
 have hle3:M2.le (M2.setCells b0 T.zcc (List.replicate 128 (.bool false))):=Mem.le_setCells hb0
 have hle4:(M2.setCells b0 T.zcc (List.replicate 128 (.bool false))).le ((M2.setCells b0 T.zcc (List.replicate 128 (.bool false))).setCells b1 T.zb8 [.slice none 0 0]):=Mem.le_setCells hb1
 have h1b0:=Mem.has.le hle4 (Mem.has_setCells (M:=M2) (b:=b0) (E:=T.zcc) (l:=List.replicate 128 (.bool false)))
 have h1b1:=Mem.has_setCells (M:=M2.setCells b0 T.zcc (List.replicate 128 (.bool false))) (b:=b1) (E:=T.zb8) (l:=[.slice none 0 0])
 have hb21:M2 b1=none:=by
  cases e:M2 b1 with
  | none=>rfl
  | some o=>rw[hle3 _ _ e] at hb1;cases hb1
 obtain⟨M3,hM3⟩:∃ M3,M3=(M2.setCells b0 T.zcc (List.replicate 128 (.bool false))).setCells b1 T.zb8 [.slice none 0 0]:=⟨_,rfl⟩
 rw[←hM3] at hle4 h1b1 h1b0
 obtain⟨M0,hM0⟩:∃ M0:Mem,M0=M3.minus (fun y=>y≠b1∧y≠b0):=⟨_,rfl⟩
 have h01:M0 b1=M3 b1:=by rw[hM0];unfold Mem.minus;rw[if_neg (by simp)]
 have h02:M0 b0=M3 b0:=by rw[hM0];unfold Mem.minus;rw[if_neg (by simp)]
 (conv=>whnf)
 erw [←hM3]
 refine zHY (zEp (A:=M2) hB1 hB2 (by omega)) (by kernel_rfl) rfl (Mem.le_trans hle3 hle4) (fun _=>rfl) (fun _ Mb=>Mb.has b1 T.zb8 [.slice none 0 0]∧Mb.has b0 T.zcc (List.replicate 128 (.bool false))) M0 (hM0▸Mem.minus_le _ _) (fun b hb=>?_) ⟨?_,?_⟩ ?_ ?_
 ·rw[hM0]
  refine Mem.minus_in ⟨fun e=>?_,fun e=>?_⟩
  ·rw[e] at hb;exact hb hb21
  ·rw[e] at hb;exact hb hb0
 ·unfold Mem.has at h1b1 ⊢; rw[h01];exact h1b1
 ·unfold Mem.has at h1b0 ⊢; rw[h02];exact h1b0
 ·rintro pre x Mb Mx Mc ⟨ho1,ho2⟩ hlt ⟨hx1,hx2⟩ hfr hle5 hle6
  have g1:=Mem.has.le hle5 ho1
  have g2:=Mem.has.le hle5 ho2
  refine zR ?_
  refine⟨rfl,?_⟩
  refine zR ?_
  refine ob ⟨by omega,by omega⟩ ?_
  refine zR ?_
  refine on (g2.c1 (v := .bool false) ?_) ?_
  ·rw[List.getElem?_replicate,if_pos (by omega)]
  (conv=>whnf)
  exact⟨rfl,Mc,⟨g1,g2⟩,Mem.le_refl _⟩
 ·rintro xs Mb Mc hD ⟨ho1,ho2⟩ hdj hle5 hle6
  have g1:=Mem.has.le hle5 ho1
  refine zR ?_
  refine on (g1.c1 rfl) ?_
  refine zR ?_
  exact⟨rfl,Mem.le_trans (Mem.le_trans hle1 hle2) hle6⟩
end
section
variable {M:Mem}
theorem zF6 {σ:List Rn.E} {H:Rn.T Rn.O} {M M':Mem} (h:Rn.HR σ H M) (hle:M.le M'):Rn.HR σ H M':=
 ⟨fun a o ha=>by
  obtain⟨e,h1,h2⟩:=h.has a o ha
  refine⟨e,h1,h2.frame fun hn=>?_⟩
  obtain⟨ob,h3⟩:=h2.some hn
  rw[h3];exact hle _ _ h3,h.inj⟩
def zpD (ws:List Rn.W) (n:Nat) (H:Rn.T Rn.O):Rn.R:=match ws with
 | [.c (.n .i64 _),.c .nl]=>some (.rt (.c .nl) n H)
 | _=>none
theorem zq1:Rn.Prim Tryz.prog F.zkH zpD:=by
 intro ws n H v n' H' h σ M vs hn hh hvs
 unfold zpD at h
 split at h
 ·rename_i b
  cases h
  match vs,hvs with
  | [v1,v2],hvs=>
   have e1:some (Value.int .i64 b)=some v1:=hvs.1
   have e2:some (Value.slice none 0 0)=some v2:=hvs.2.1
   cases e1;cases e2
   refine(zJR b).mono ?_
   rintro u M' ⟨rfl,hle⟩
   exact⟨[],by simpa using hn,by simp[Rn.OVR,Rn.CR,Rn.C.val],by simpa using zF6 hh hle⟩
  | [_],hvs=>exact hvs.2.elim
  | _::_::_::_,hvs=>exact hvs.2.2.elim
 ·cases h
noncomputable def znY (ws:List Rn.W) (n:Nat) (H:Rn.T Rn.O):Rn.R:=match ws with
 | [.c .np]=>some (.rt (.c .nl) n H)
 | [.c (.p a 0)]=>(match H.get a with
  | some (.row E [_,.n .i64 base,_,.n .i64 un])=>if E=T.zme ∧ -9223372036854775808≤un∧un<9223372036854775808 then (match zap un with
   | 0=>some (.rt (.c .nl) n H)
   | k+1=>H.set n (some (.gr T.int 1 ((zbM base (k+1)).map (Rn.C.n .i64)))) fun H'=>Rn.fN (fun n'=>some (.rt (.c (.g n 0 0 (k+1))) n' H')) (n+1)) else none
  | _=>none)
 | _=>none
theorem zDc (base:Int) (n:Nat):(zbM base n).length=n:=by simp[zbM]
theorem zOk {σ:List Rn.E} (l:List Int):Rn.All2 (Rn.CR σ) (l.map (Rn.C.n .i64)) (l.map (Value.int .i64)):=by
 induction l with
 | nil=>trivial
 | cons x l ih=>exact⟨rfl,ih⟩
theorem zpE:Rn.Prim Tryz.prog F.zaR znY:=by
 intro ws n H v n' H' h σ M vs hn hh hvs
 unfold znY at h
 split at h
 ·cases h
  match vs,hvs with
  | [v1],hvs=>
   have e1:some (Value.pointer none)=some v1:=hvs.1
   cases e1
   refine under_nil.mono ?_
   rintro u M' ⟨rfl,rfl⟩
   exact⟨[],by simpa using hn,by simp[Rn.OVR,Rn.CR,Rn.C.val],by simpa using hh⟩
  | _::_::_,hvs=>exact hvs.2.elim
 ·rename_i a
  split at h
  ·rename_i E c0 base c2 un hg
   split at h
   ·rename_i hc
    obtain⟨hE,hu⟩:=hc
    subst hE
    match vs,hvs with
    | [v1],hvs=>
     obtain⟨e,he,ho⟩:=hh.has a _ hg
     have h1:=hvs.1
     simp only[Rn.WR,Rn.CR,Rn.C.val,he,Option.map_some,Option.some.injEq] at h1
     subst h1
     obtain⟨h0,us,h2,h3⟩:=ho
     match us,h2 with
     | [w0,w1,w2,w3],h2=>
      have e1:some (Value.int .i64 base)=some w1:=h2.2.1
      have e3:some (Value.int .i64 un)=some w3:=h2.2.2.2.1
      cases e1;cases e3
      have hM:M.has e.addr T.zme [w0,.int .i64 base,w2,.int .i64 un]:=h3
      refine(zJQ hM hu).mono ?_
      rintro u M' ⟨q,c,rfl,hN,hnil⟩
      rw[zDc] at hN ⊢
      cases hk:zap un with
      | zero=>
       rw[hk] at h
       cases h
       obtain⟨rfl,rfl⟩:=hnil (List.length_eq_zero_iff.1 (by rw[zDc,hk]))
       exact⟨[],by simpa using hn,by simp[Rn.OVR,Rn.CR,Rn.C.val],by simpa using zF6 hh hN.le⟩
      | succ k=>
       rw[hk] at h hN
       dsimp only at h
       rw[Rn.T.set_put,Rn.fN_eq] at h
       cases h
       unfold NewSl at hN
       obtain⟨M0,hle,hown⟩:=hN
       obtain⟨e2,h5,h6⟩:=Rn.own_new (zF6 hh hle) (zOk (zbM base (k+1))) hown
       rw[hn] at h5 h6
       exact⟨[e2],by simp[hn],h6,h5⟩
     | [],h2=>exact h2.elim
     | [_],h2=>exact h2.2.elim
     | [_,_],h2=>exact h2.2.2.elim
     | [_,_,_],h2=>exact h2.2.2.2.elim
     | _::_::_::_::_::_,h2=>exact h2.2.2.2.2.elim
    | _::_::_,hvs=>exact hvs.2.elim
   ·cases h
  ·cases h
 ·cases h
end
end Go.Proofs.YtdogcflaekkdkaaGreat
namespace Go.Vm
open Go.RowKit Go.Shelf Go.Sort Go.Proofs
def zPk (M:Mem) (E:TypeId) (a:Option Addr) (c:Nat) (l:List Int):Prop:=
 (l.length≤c∧c≤maxLen)∧((a=none∧c=0)∨∃ b o cs,a=some ⟨b,o,none⟩∧M.has b E cs∧o+c≤cs.length∧(cs.drop o).take l.length=l.map (Value.int .i64))
def zmH (c:Array Value):Nat→List Value→Array Value
 | _,[]=>c
 | o,v::r=>zmH (c.setIfInBounds o v) (o+1) r
theorem zai (b:Nat):∀ (vs:List Value) (o:Nat) (w:World),w.setCells b o vs=mapBlock w b fun c=>zmH c o vs
 | [],o,w=>by
  show w=_
  rw[mapBlock_id]
  intro c e fr _;rfl
 | v::r,o,w=>by
  show (w.setCell ⟨b,o,none⟩ v).setCells b (o+1) r=_
  rw[zai b r (o+1),setCell_eq,mapBlock_mapBlock]
  rfl
theorem zlC:∀ (vs:List Value) (o:Nat) (cs:List Value),o+vs.length≤cs.length→zmH cs.toArray o vs=(splice cs o vs).toArray
 | [],o,cs,h=>by simp[zmH,splice]
 | v::r,o,cs,h=>by
  simp only[List.length_cons] at h
  have e:cs.toArray.setIfInBounds o v=(cs.set o v).toArray:=by simp
  rw[zmH,e,zlC r (o+1) (cs.set o v) (by simp;omega)]
  congr 1
  unfold splice
  have h1:(cs.set o v).take (o+1)=cs.take o++[v]:=by
   rw[List.take_add_one,List.take_set,List.set_eq_of_length_le (by simp;omega),List.getElem?_set_self (by omega)];rfl
  have h2:(cs.set o v).drop (o+1+r.length)=cs.drop (o+(v::r).length):=by
   rw[List.drop_set_of_lt (by omega)];congr 1;simp;omega
  rw[h1,h2];simp
theorem zwc {cs V:List Value} {o k:Nat} (h:o+k≤cs.length):(splice cs (o+k) V).drop o=splice (cs.drop o) k V:=by
 unfold splice
 rw[List.append_assoc,List.drop_append_of_le_length (by simp;omega),List.drop_take,show o+k - o=k by omega,List.drop_drop,←List.append_assoc]
 congr 2
 omega
theorem zMO {A l:List Value} {i:Nat} {x:Value} (ht:A.take l.length=l) (hi:i≤l.length) (ha:l.length+1≤A.length):(splice (splice A (i+1) (l.drop i)) i [x]).take (l.length+1)=l.take i++x::l.drop i:=by
 have h1:A.take i=l.take i:=by rw[←ht,List.take_take,Nat.min_eq_left hi]
 have h2:(splice A (i+1) (l.drop i)).take i=l.take i:=by
  unfold splice
  rw[List.append_assoc,List.take_append_of_le_length (by simp;omega),List.take_take,Nat.min_eq_left (by omega),h1]
 have h3:(splice A (i+1) (l.drop i)).drop (i+1)=l.drop i++A.drop (i+1+(l.drop i).length):=by
  unfold splice
  rw[List.append_assoc,List.drop_append_of_le_length (by simp;omega),List.drop_of_length_le (by simp;omega),List.nil_append]
 have e:splice (splice A (i+1) (l.drop i)) i [x]=(l.take i++x::l.drop i)++A.drop (i+1+(l.drop i).length):=by
  rw[splice,h2,show i+[x].length=i+1 from rfl,h3];simp
 rw[e,List.take_append_of_le_length (by simp;omega),List.take_of_length_le (by simp;omega)]
theorem zMP {A l:List Value} {i:Nat} {x:Value} (ht:A.take i=l.take i) (hi:i≤l.length) (ha:l.length+1≤A.length):(splice (splice A i [x]) (i+1) (l.drop i)).take (l.length+1)=l.take i++x::l.drop i:=by
 have h2:(splice A i [x]).take (i+1)=l.take i++[x]:=by
  unfold splice
  rw[List.take_append_of_le_length (by simp;omega),ht,List.take_of_length_le (by simp;omega)]
 have e:splice (splice A i [x]) (i+1) (l.drop i)=(l.take i++x::l.drop i)++(splice A i [x]).drop (i+1+(l.drop i).length):=by
  rw[splice,h2];simp
 rw[e,List.take_append_of_le_length (by simp;omega),List.take_of_length_le (by simp;omega)]
theorem zwd {h:Array Obj} {o:Obj} {f:Obj→Obj}:(h.push o).modify h.size f=h.push (f o):=by
 apply Array.ext_getElem?
 intro k
 rw[Array.getElem?_modify]
 by_cases hk:h.size=k
 ·subst hk;simp
 ·rw[if_neg hk]
  by_cases h2:k<h.size
  ·rw[Array.getElem?_push_lt h2,Array.getElem?_push_lt h2]
  ·rw[Array.getElem?_eq_none (by simp;omega),Array.getElem?_eq_none (by simp;omega)]
theorem zMQ {M F:Mem} {w w':World} (hM:M.le (zk w)) (hF:F.le (zk w)) (hdj:M.disj F) {b:Nat} {E:TypeId} {cs cs':List Value} (hh:M.has b E cs) (f:Array Value→Array Value) (hf:f cs.toArray=cs'.toArray) {q:Nat} (hw:w'=mapBlock (Sort.ahead w q) b f) :
  (M.setCells b E cs').le (zk w')∧F.le (zk w')∧(M.setCells b E cs').disj F∧w'.os=w.os∧w'.output=w.output∧w'.tape=w.tape∧w.heap.size≤w'.heap.size∧w.drawn≤w'.drawn:=by
 subst hw
 have hhb:w.heap[b]? = some (.cells cs.toArray E (0,0)):=hM _ _ hh
 have hb:b<w.heap.size:=(Array.getElem?_eq_some_iff.1 hhb).1
 have hFb:F b=none:=(hdj b).resolve_left (by unfold Mem.has at hh;rw[hh];simp)
 have other:∀ x o,x≠b→w.heap[x]? = some o→zk (mapBlock (Sort.ahead w q) b f) x=some o:=fun x o hx hxo=>by
  show (w.heap.modify b (onCells f))[x]? = some o
  rw[Array.getElem?_modify,if_neg (Ne.symm hx)]
  exact hxo
 refine⟨fun x o hx=>?_,fun x o hx=>?_,fun x=>?_,rfl,rfl,rfl,by simp[mapBlock],by simp[mapBlock]⟩
 ·by_cases e:x=b
  ·subst e
   simp only[Mem.setCells,Mem.upd_same,Option.some.injEq] at hx
   subst hx
   show (w.heap.modify x (onCells f))[x]? = _
   rw[Array.getElem?_modify,if_pos rfl,hhb]
   simp only[Option.map_some,onCells,hf]
  ·simp only[Mem.setCells,Mem.upd_ne _ _ e] at hx
   exact other x o e (hM x o hx)
 ·have e:x≠b:=fun e=>by subst e;rw[hFb] at hx;cases hx
  exact other x o e (hF x o hx)
 ·by_cases e:x=b
  ·subst e;exact .inr hFb
  ·simp only[Mem.setCells,Mem.upd_ne _ _ e];exact hdj x
theorem zO0 {M F:Mem} {w w':World} (hM:M.le (zk w)) (hF:F.le (zk w)) (hdj:M.disj F) {E:TypeId} {cs:List Value} (hh:w'.heap=w.heap.push (.cells cs.toArray E)) (ho:w'.os=w.os) (hp:w'.output=w.output) (ht:w'.tape=w.tape) (hd:w.drawn≤w'.drawn) :
  M w.heap.size=none∧(M.setCells w.heap.size E cs).le (zk w')∧F.le (zk w')∧(M.setCells w.heap.size E cs).disj F∧w'.os=w.os∧w'.output=w.output∧w'.tape=w.tape∧w.heap.size≤w'.heap.size∧w.drawn≤w'.drawn:=by
 have hn:∀ N:Mem,N.le (zk w)→N w.heap.size=none:=fun N hN=>Mem.none_of_le hN (Nat.le_refl _)
 have other:∀ x o,w.heap[x]? = some o→zk w' x=some o:=fun x o hx=>by
  show w'.heap[x]? = some o
  have hlt:x<w.heap.size:=(Array.getElem?_eq_some_iff.1 hx).1
  rw[hh,Array.getElem?_push_lt hlt,←Array.getElem?_eq_getElem hlt];exact hx
 refine⟨hn M hM,fun x o hx=>?_,fun x o hx=>other x o (hF x o hx),fun x=>?_,ho,hp,ht,by rw[hh];simp,hd⟩
 ·by_cases e:x=w.heap.size
  ·subst e
   simp only[Mem.setCells,Mem.upd_same,Option.some.injEq] at hx
   subst hx
   show w'.heap[w.heap.size]? = _
   rw[hh];simp
  ·simp only[Mem.setCells,Mem.upd_ne _ _ e] at hx
   exact other x o (hM x o hx)
 ·by_cases e:x=w.heap.size
  ·subst e;exact .inr (hn F hF)
  ·simp only[Mem.setCells,Mem.upd_ne _ _ e];exact hdj x
theorem zDd {M:Mem} {w:World} (hM:M.le (zk w)) {b:Nat} {E:TypeId} {cs:List Value} (hh:M.has b E cs) (j:Nat):w.cell? ⟨b,j,none⟩=cs[j]? ∧ w.frozen? ⟨b,j,none⟩=false∧w.shape? b=some (E,cs.length):=by
 have hhb:w.heap[b]? = some (.cells cs.toArray E (0,0)):=hM _ _ hh
 refine⟨by simp[World.cell?, hhb],by simp[World.frozen?, hhb],by simp[World.shape?, hhb]⟩
def zJS (M M':Mem) (E:TypeId) (a:Option Addr) (c b' o' c':Nat) (cs':List Value) (l':List Int):Prop:=
 (l'.length≤c'∧c'≤maxLen)∧M'=M.setCells b' E cs'∧o'+c'≤cs'.length∧(cs'.drop o').take l'.length=l'.map (Value.int .i64) ∧
  ((o'=0∧cs'.length=c'∧M b'=none)∨(a=some ⟨b',o',none⟩∧c'=c∧∃ cs0,M.has b' E cs0∧cs'.length=cs0.length))
section
variable {P:Program} {ρ:Ren}
theorem zMR (L:Lays2.n21 P ρ) (he:znK P (ρ.f 21)=true) {M:Mem} {a:Option Addr} {c:Nat} {l:List Int} (h:zPk M (ρ.t 3) a c l) (hc:l.length≤4194303) (i:Nat) (hi:i≤l.length) {vb vc:Nat} {x:Int} {E':TypeId} (hv:M.has vb E' [.int .i64 x]) (hne:∀ q,a=some q→q.block≠vb) :
  CallsM P (ρ.f 21) [.slice a l.length c,.int .i64 i,.slice (some ⟨vb,0,none⟩) 1 vc] M fun v M'=>∃ b' o' c' cs',v = .slice (some ⟨b',o',none⟩) (l.length+1) c'∧zJS M M' (ρ.t 3) a c b' o' c' cs' (l.take i++x::l.drop i):=by
 refine⟨he,fun F w hM hF hdj=>?_⟩
 have hvc:=fun j=>zDd hM hv j
 have hvs:∀ (j:Nat) v,([Value.int .i64 x]:List Value)[j]? = some v→w.cell? ⟨vb,0+j,none⟩=some v:=fun j v hj=>by rw[Nat.zero_add,(hvc j).1];exact hj
 have h1v:∀ v∈([Value.int .i64 x]:List Value),v.oneCell'=true:=by simp[Value.oneCell']
 have h1c:∀ v∈l.map (Value.int .i64),v.oneCell'=true:=by simp[Value.oneCell']
 have hll:(l.map (Value.int .i64)).length=l.length:=by simp
 have hnew:∀ (w':World) (cells:List Value) (c':Nat),cells.length=c'→(l.length+1≤c'∧c'≤maxLen)→cells.take (l.length+1)=(l.take i++x::l.drop i).map (Value.int .i64) →
   w'.heap=w.heap.push (.cells cells.toArray (ρ.t 3))→w'.os=w.os→w'.output=w.output→w'.tape=w.tape→w.drawn≤w'.drawn →
   ∃ v M',(Ending.returned (.slice (some ⟨w.heap.size,0,none⟩) (l.length+1) c')) = .returned v∧(∃ b' o' c' cs',v = .slice (some ⟨b',o',none⟩) (l.length+1) c'∧zJS M M' (ρ.t 3) a c b' o' c' cs' (l.take i++x::l.drop i)) ∧
    M'.le (zk w')∧F.le (zk w')∧M'.disj F∧w'.os=w.os∧w'.output=w.output∧w'.tape=w.tape∧w.heap.size≤w'.heap.size∧w.drawn≤w'.drawn:=fun w' cells c' hcl hcc ht hh ho hp htt hd=>by
  obtain⟨hn,hrest⟩:=zO0 hM hF hdj hh ho hp htt hd
  have hlen:(l.take i++x::l.drop i).length=l.length+1:=by simp;omega
  exact⟨_,M.setCells w.heap.size (ρ.t 3) cells,rfl,⟨_,_,_,_,rfl,⟨by rw[hlen];exact hcc,rfl,by omega,by rw[hlen];exact ht,.inl ⟨rfl,hcl,hn⟩⟩⟩,hrest⟩
 have hins:∀ cs:List Value,(cs.take l.length=l.map (Value.int .i64))→True:=fun _ _=>trivial
 obtain⟨⟨hlc,hcM⟩,⟨rfl,rfl⟩|⟨b,o,cs,rfl,hh,hoc,ht⟩⟩:=h
 ·have hl0:l=[]:=List.eq_nil_of_length_eq_zero (by omega)
  subst hl0
  have hi0:i=0:=by simpa using hi
  subst hi0
  refine Calls.mono (Any2.slices_Insert_int_end_grow L none 0 0 vb 0 1 vc [] [.int .i64 x] w (by decide) (by decide) (by decide) (by decide) rfl rfl (fun _=>rfl) (fun a ha=>by cases ha) hvs h1v) ?_
  rintro e w' ⟨rfl,rfl⟩
  have hge:0+1≤grownCap w (0+1) 0 (ρ.t 3)∧grownCap w (0+1) 0 (ρ.t 3)≤maxLen:=⟨grownCap_ge w (0+1) 0 (ρ.t 3),grownCap_le_maxLen w (0+1) 0 (ρ.t 3) (by simp[maxLen])⟩
  generalize grownCap w (0+1) 0 (ρ.t 3)=g at *
  refine hnew _ ([.int .i64 x]++(Builtin.zeroCells (Value.int .i64 0).cells (g - (0+1))).toList) g ?_ hge ?_ ?_ rfl rfl rfl (Nat.le_succ _)
  ·simp[Builtin.zeroCells,Value.cells];omega
  ·simp
  ·show (w.heap.push _)=_
   congr 2
   simp
 ·have hcell:=fun j=>zDd hM hh j
  have hget:∀ (j:Nat) v,(l.map (Value.int .i64))[j]? = some v→w.cell? ⟨b,o+j,none⟩=some v:=fun j v hj=>by
   rw[(hcell _).1]
   rw[←ht] at hj
   have hlt:=(List.getElem?_eq_some_iff.1 hj).1
   rw[List.getElem?_take_of_lt (by simp at hlt;omega),List.getElem?_drop] at hj
   exact hj
  have hbv:vb≠b:=fun e=>hne _ rfl e.symm
  by_cases hroom:l.length+1≤c
  ·
   have fin:∀ (w':World) (q:Nat) (f:Array Value→Array Value) (cs':List Value),f cs.toArray=cs'.toArray→w'=mapBlock (Sort.ahead w q) b f→cs'.length=cs.length→(cs'.drop o).take (l.length+1)=(l.take i++x::l.drop i).map (Value.int .i64) →
     ∃ v M',(Ending.returned (.slice (some ⟨b,o,none⟩) (l.length+1) c)) = .returned v∧(∃ b' o' c' cs',v = .slice (some ⟨b',o',none⟩) (l.length+1) c'∧zJS M M' (ρ.t 3) (some ⟨b,o,none⟩) c b' o' c' cs' (l.take i++x::l.drop i)) ∧
      M'.le (zk w')∧F.le (zk w')∧M'.disj F∧w'.os=w.os∧w'.output=w.output∧w'.tape=w.tape∧w.heap.size≤w'.heap.size∧w.drawn≤w'.drawn:=fun w' q f cs' hf hw hcl ht'=>by
    have hlen:(l.take i++x::l.drop i).length=l.length+1:=by simp;omega
    exact⟨_,M.setCells b (ρ.t 3) cs',rfl,⟨_,_,_,_,rfl,⟨by rw[hlen];exact⟨hroom,hcM⟩,rfl,by omega,by rw[hlen];exact ht',.inr ⟨rfl,rfl,cs,hh,hcl⟩⟩⟩,zMQ hM hF hdj hh f hf hw⟩
   by_cases hend:i=l.length
   ·subst hend
    refine Calls.mono (Any2.slices_Insert_int_end_room L b o l.length c vb 0 1 vc [.int .i64 x] w (by decide) hroom (by simp[maxLen] at hcM;omega) rfl (fun j hj=>by rw[(hcell _).1,List.getElem?_eq_getElem (by omega)];rfl) (fun j _=>(hcell _).2.1) hvs h1v) ?_
    rintro e w' ⟨rfl,rfl⟩
    rw[zai]
    refine fin _ 0 _ (splice cs (o+l.length) [.int .i64 x]) (zlC _ _ _ (by simp;omega)) rfl (by simp[splice];omega) ?_
    unfold splice
    rw[List.append_assoc,List.drop_append_of_le_length (by simp;omega),List.drop_take,show o+l.length - o=l.length by omega,ht]
    rw[List.take_append,List.take_of_length_le (by simp)]
    simp
   ·refine Calls.mono (Any2.slices_Insert_int_shift L b o l.length c i vb 0 1 vc (l.map (Value.int .i64)) [.int .i64 x] w (by omega) (by decide) hroom (by simp[maxLen] at hcM;omega) hbv hll rfl hget (fun j hj=>by rw[(hcell _).1,List.getElem?_eq_getElem (by omega)];rfl) (fun j _=>(hcell _).2.1) hvs h1c h1v E' (ρ.t 3) 1 cs.length (hvc 0).2.2 (hcell 0).2.2 (by omega) (hvc 0).2.1 (hvc 1).2.1) ?_
    rintro e w' ⟨rfl,rfl⟩
    rw[zai,zai,mapBlock_mapBlock]
    have hdl:((l.map (Value.int .i64)).drop i).length=l.length - i:=by simp
    have s1:(splice cs (o+(i+1)) ((l.map (Value.int .i64)).drop i)).length=cs.length:=by unfold splice;simp;omega
    refine fin _ 1 _ (splice (splice cs (o+(i+1)) ((l.map (Value.int .i64)).drop i)) (o+i) [.int .i64 x]) ?_ rfl (by unfold splice at s1 ⊢; simp at s1 ⊢; omega) ?_
    ·show zmH (zmH cs.toArray (o+(i+1)) ((l.map (Value.int .i64)).drop i)) (o+i) [.int .i64 x]=_
     rw[zlC ((l.map (Value.int .i64)).drop i) (o+(i+1)) cs (by rw[hdl];omega),zlC [.int .i64 x] (o+i) _ (by rw[s1];simp;omega)]
    ·have hz:=zMO (A:=cs.drop o) (l:=l.map (Value.int .i64)) (i:=i) (x := .int .i64 x) (by simpa using ht) (by simp;omega) (by simp;omega)
     rw[hll] at hz
     rw[zwc (by rw[s1];omega),zwc (by omega),hz]
     simp
  ·have hcl:c<l.length+1:=by omega
   have hge:l.length+1≤grownCap w (l.length+1) c (ρ.t 3)∧grownCap w (l.length+1) c (ρ.t 3)≤maxLen:=⟨grownCap_ge w (l.length+1) c (ρ.t 3),grownCap_le_maxLen w (l.length+1) c (ρ.t 3) (by simp[maxLen];omega)⟩
   by_cases hend:i=l.length
   ·subst hend
    refine Calls.mono (Any2.slices_Insert_int_end_grow L (some ⟨b,o,none⟩) l.length c vb 0 1 vc (l.map (Value.int .i64)) [.int .i64 x] w (by decide) hlc hcl (by omega) hll rfl (fun h=>by cases h) (fun a ha j v hj=>by cases ha;rw[Addr.add_lit];exact hget j v hj) hvs h1v) ?_
    rintro e w' ⟨rfl,rfl⟩
    refine hnew _ (l.map (Value.int .i64)++[.int .i64 x]++(Builtin.zeroCells (Value.int .i64 0).cells (grownCap w (l.length+1) c (ρ.t 3) - (l.length+1))).toList) (grownCap w (l.length+1) c (ρ.t 3)) ?_ hge ?_ ?_ rfl rfl rfl (Nat.le_succ _)
    ·simp[Builtin.zeroCells,Value.cells];omega
    ·rw[List.take_append_of_le_length (by simp),List.take_of_length_le (by simp)];simp
    ·show (w.heap.push _)=_
     congr 2
     simp
   ·refine Calls.mono (Any2.slices_Insert_int_grow L b o l.length c i vb 0 1 vc (l.map (Value.int .i64)) [.int .i64 x] w (by omega) (by decide) hlc hcl (by omega) hll rfl hget hvs h1c h1v) ?_
    rintro e w' ⟨rfl,rfl⟩
    generalize grownCap w (l.length+1) c (ρ.t 3)=g at *
    have hdl:((l.map (Value.int .i64)).drop i).length=l.length - i:=by simp
    obtain⟨C0,hC0⟩:∃ C0:List Value,C0=(l.map (Value.int .i64)).take i++(Builtin.zeroCells (Value.int .i64 0).cells (l.length+1 - i)).toList++(Builtin.zeroCells (Value.int .i64 0).cells (g - (l.length+1))).toList:=⟨_,rfl⟩
    have hC:(((l.map (Value.int .i64)).take i).toArray++Builtin.zeroCells (Value.int .i64 0).cells (l.length+1 - i)++Builtin.zeroCells (Value.int .i64 0).cells (g - (l.length+1)))=C0.toArray:=by rw[hC0];simp
    have hCl:C0.length=g:=by rw[hC0];simp[Builtin.zeroCells,Value.cells];omega
    have hCt:C0.take i=(l.map (Value.int .i64)).take i:=by rw[hC0,List.append_assoc,List.take_append_of_le_length (by simp;omega),List.take_of_length_le (by simp;omega)]
    have s1:(splice C0 i [Value.int .i64 x]).length=C0.length:=by unfold splice;simp;omega
    rw[hC]
    refine hnew _ (splice (splice C0 i [.int .i64 x]) (i+1) ((l.map (Value.int .i64)).drop i)) g ?_ hge ?_ ?_ ?_ ?_ ?_ ?_
    ·unfold splice at s1 ⊢; simp at s1 ⊢; omega
    ·have hz:=zMP (A:=C0) (l:=l.map (Value.int .i64)) (i:=i) (x := .int .i64 x) hCt (by simp;omega) (by simp;omega)
     rw[hll] at hz
     rw[hz]
     simp
    ·rw[zai,zai]
     show ((w.heap.push (Obj.cells C0.toArray (ρ.t 3))).modify w.heap.size _).modify w.heap.size _=_
     rw[zwd,zwd]
     congr 1
     show Obj.cells (zmH (zmH C0.toArray i [.int .i64 x]) (i+1) ((l.map (Value.int .i64)).drop i)) (ρ.t 3) _=_
     rw[zlC [.int .i64 x] i C0 (by simp;omega),zlC _ (i+1) _ (by rw[s1,hdl];omega)]
    ·rw[zai,zai];rfl
    ·rw[zai,zai];rfl
    ·rw[zai,zai];rfl
    ·rw[zai,zai];exact Nat.le_trans (Nat.le_succ _) (Nat.le_succ _)
end
end Go.Vm
namespace Go.Proofs.YtdogcflaekkdkaaGreat
open Go Go.Proofs Go.Shelf
def Tryz.laysIns_ren:Go.Shelf.Ren:=⟨fun|21=>242|27=>271|28=>272|35=>303|39=>269|n=>n,fun|22=>84|3=>3|4=>4|0=>0|n=>n,fun|n=>n⟩
theorem Tryz.laysIns:Go.Proofs.Lays2.n21 Tryz.prog Tryz.laysIns_ren:={
 mixed:=by kernel_rfl
 f21:=Tryz.func242.trans (congrArg some (by kernel_rfl))
 f27:=Tryz.func271.trans (congrArg some (by kernel_rfl))
 f28:=Tryz.func272.trans (congrArg some (by kernel_rfl))
 f35:=Tryz.func303.trans (congrArg some (by kernel_rfl))
 f39:=Tryz.func269.trans (congrArg some (by kernel_rfl))
 t0:=Tryz.underlying0
 a0:=Tryz.isAgg0
 z0:=Tryz.sizeOf0
 v0:=Tryz.zeroValue0
 t3:=Tryz.underlying3
 a3:=Tryz.isAgg3
 z3:=Tryz.sizeOf3
 v3:=Tryz.zeroValue3
 t4:=Tryz.underlying4
 a4:=Tryz.isAgg4
 z4:=Tryz.sizeOf4
 v4:=Tryz.zeroValue4
 t22:=Tryz.underlying84
 a22:=Tryz.isAgg84
 z22:=Tryz.sizeOf84
 v22:=Tryz.zeroValue84
 i3:=by kernel_rfl }
end Go.Proofs.YtdogcflaekkdkaaGreat
namespace Go.Proofs.YtdogcflaekkdkaaGreat
open Go Go.Vm
attribute [local irreducible] Brn Ob Grow CallsM inR zc4 zcB Mem.row Mem.cells Mem.setCells Mem.upd Go.Vm.Own zfl zkD zi2 zhp New SrcOk zaa NewSl Mem.textAt Mem.mapAt Mem.iterAt zcA kfind Wr zkr Elems
set_option maxRecDepth 10000
variable {M:Mem}
noncomputable def zrB (ws:List Rn.W) (n:Nat) (H:Rn.T Rn.O):Rn.R:=match ws with
 | [.c .nl,.c (.n .i64 0),.c (.l b 0 1 _)]=>(match H.get b with
  | some (.row _ [.n .i64 x])=>H.set n (some (.gr T.int 1 [.n .i64 x])) fun H'=>Rn.fN (fun n'=>some (.rt (.c (.g n 0 0 1)) n' H')) (n+1)
  | _=>none)
 | _=>none
theorem zsz:Rn.Prim Tryz.prog F.zjP zrB:=by
 intro ws n H v n' H' h σ M vs hn hh hvs
 unfold zrB at h
 split at h
 ·rename_i b c
  split at h
  ·rename_i E0 x hb
   match vs,hvs with
   | [v1,v2,v3],hvs=>
    obtain⟨e,he,ho⟩:=hh.has b _ hb
    have h3:=hvs.2.2.1
    simp only[Rn.WR,Rn.CR,Rn.C.val,he,Option.map_some,Option.some.injEq] at h3
    subst h3
    have e1:some (Value.slice none 0 0)=some v1:=hvs.1
    have e2:some (Value.int .i64 0)=some v2:=hvs.2.1
    cases e1;cases e2
    obtain⟨h0,us,h5,h6⟩:=ho
    match us,h5 with
    | [w0],h5=>
     have e3:some (Value.int .i64 x)=some w0:=h5.1
     cases e3
     have hv:M.has e.addr E0 [.int .i64 x]:=h6
     refine(zMR (vc:=c) Tryz.laysIns (by kernel_rfl) (M:=M) (a:=none) (c:=0) (l:=[]) ⟨⟨Nat.le_refl _,by decide⟩,.inl ⟨rfl,rfl⟩⟩ (by decide) 0 (by decide) hv (fun q hq=>by cases hq)).mono ?_
     rintro u M' ⟨b',o',c',cs',rfl,h7,rfl,h8,h9,h10⟩
     rcases h10 with ⟨rfl,h11,h12⟩|⟨h11, -, -⟩
     ·rw[Rn.T.set_put,Rn.fN_eq] at h
      cases h
      have ho:Vm.Own M T.int 1 (some ⟨b',0,none⟩) 1 c' [.int .i64 x] (M.setCells b' T.int cs'):=by unfold Vm.Own;exact⟨rfl,h7.1,.inr ⟨b',cs',rfl,h12,rfl,by omega,h9⟩⟩
      obtain⟨e2,h13,h14⟩:=Rn.own_new hh (l:=[.n .i64 x]) (L:=[.int .i64 x]) ⟨rfl,trivial⟩ ho
      rw[hn] at h13 h14
      exact⟨[e2],by simp[hn],h14,h13⟩
     ·cases h11
    | [],h5=>exact h5.elim
    | _::_::_,h5=>exact h5.2.elim
   | [],hvs=>exact hvs.elim
   | [_],hvs=>exact hvs.2.elim
   | [_,_],hvs=>exact hvs.2.2.elim
   | _::_::_::_::_,hvs=>exact hvs.2.2.2.elim
  ·cases h
 ·cases h
end Go.Proofs.YtdogcflaekkdkaaGreat
