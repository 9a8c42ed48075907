/- Part of this proof;laid by program. -/
import Derived.Test.YtdgikhhkgnjalaaGreatJ10
import Derived.Test.YtdgikhhkgnjalaaGreatJ11
import Derived.Test.YtdgikhhkgnjalaaGreatJ12
import Derived.Test.YtdgikhhkgnjalaaGreatJ13
set_option linter.unusedVariables false
set_option linter.unusedSimpArgs false
namespace Go.Proofs.YtdgikhhkgnjalaaGreat
open Go.Vm Go.Vm.Rn
set_option maxRecDepth 20000
def tab:T FC := .n (.n (.n (.n (.n (.n (.n (.n (.n (.e) (some ⟨5,zoO,zoP⟩) (.e)) (some ⟨1,zcs,zct⟩) (.e)) (some ⟨3,zbn,zbo⟩) (.n (.n (.e) (some ⟨5,zxH,zxI⟩) (.e)) (some ⟨10,zoH,zoI⟩) (.e))) (some ⟨12,zgu,zgv⟩) (.n (.n (.n (.e) (some ⟨5,zjE,zjF⟩) (.e)) (some ⟨5,zb0,zb1⟩) (.e)) (some ⟨12,zos,zot⟩) (.n (.e) (some ⟨4,zxz,zxA⟩) (.e)))) (some ⟨10,zgo,zgp⟩) (.n (.n (.n (.n (.e) (some ⟨9,zzp,zzq⟩) (.e)) (some ⟨3,zia,zib⟩) (.e)) (some ⟨9,zxp,zxq⟩) (.n (.n (.e) (some ⟨56,zkc,zkd⟩) (.e)) (some ⟨11,zlD,zlE⟩) (.e))) (some ⟨3,zgC,zgD⟩) (.n (.n (.n (.e) (some ⟨56,ziV,ziW⟩) (.e)) (some ⟨1,zfu,zfv⟩) (.e)) (some ⟨2,zAe,zAf⟩) (.n (.e) (some ⟨9,zeA,zeB⟩) (.e))))) (some ⟨3,zxa,zxb⟩) (.n (.n (.n (.n (.n (.e) (some ⟨11,zmZ,zm0⟩) (.e)) (some ⟨26,zp5,zp6⟩) (.e)) (some ⟨12,zdx,zdy⟩) (.n (.n (.e) (some ⟨12,zkw,zkx⟩) (.e)) (some ⟨5,zcO,zcP⟩) (.e))) (some ⟨6,zvv,zvw⟩) (.n (.n (.n (.e) (some ⟨56,zhw,zhx⟩) (.e)) (some ⟨25,zmh,zmi⟩) (.e)) (some ⟨7,zp1,zp2⟩) (.n (.e) (some ⟨6,zkW,zkX⟩) (.e)))) (some ⟨15,zvl,zvm⟩) (.n (.n (.n (.n (.e) (some ⟨3,zpJ,zpK⟩) (.e)) (some ⟨10,zBo,zBp⟩) (.e)) (some ⟨4,zoq,zor⟩) (.n (.n (.e) (some ⟨7,zBD,zBE⟩) (.e)) (some ⟨3,zvZ,zv0⟩) (.e))) (some ⟨4,zoj,zok⟩) (.n (.n (.n (.e) (some ⟨3,zk0,zk1⟩) (.e)) (some ⟨5,zqF,zqG⟩) (.e)) (some ⟨30,zdH,zdI⟩) (.n (.e) (some ⟨11,zig,zih⟩) (.e)))))) (some ⟨3,zyZ,zy0⟩) (.n (.n (.n (.n (.n (.n (.e) (some ⟨5,zsg,zsh⟩) (.e)) (some ⟨6,zrb,zrc⟩) (.e)) (some ⟨3,zgI,zgJ⟩) (.n (.n (.e) (some ⟨2,zpL,zpM⟩) (.e)) (some ⟨5,zBt,zBu⟩) (.e))) (some ⟨58,zei,zej⟩) (.n (.n (.n (.e) (some ⟨13,zhm,zhn⟩) (.e)) (some ⟨5,zsd,zse⟩) (.e)) (some ⟨29,zeo,zep⟩) (.n (.e) (some ⟨4,zbr,zbs⟩) (.e)))) (some ⟨6,zh0,zh1⟩) (.n (.n (.n (.n (.e) (some ⟨89,zEZ,zE0⟩) (.e)) (some ⟨25,zp7,zp8⟩) (.e)) (some ⟨5,zsN,zsO⟩) (.n (.n (.e) (some ⟨14,zll,zlm⟩) (.e)) (some ⟨11,zeW,zeX⟩) (.e))) (some ⟨4,zbY,zbZ⟩) (.n (.n (.n (.e) (some ⟨14,zj6,zj7⟩) (.e)) (some ⟨58,zni,znj⟩) (.e)) (some ⟨11,zdF,zdG⟩) (.n (.e) (some ⟨21,zan,zao⟩) (.e))))) (some ⟨9,zxc,zxd⟩) (.n (.n (.n (.n (.n (.e) (some ⟨11,zhk,zhl⟩) (.e)) (some ⟨11,zbp,zbq⟩) (.e)) (some ⟨3,zji,zjj⟩) (.n (.n (.e) (some ⟨9,zxJ,zxK⟩) (.e)) (some ⟨5,zzg,zzh⟩) (.e))) (some ⟨6,zy2,zy3⟩) (.n (.n (.n (.e) (some ⟨14,ziu,ziv⟩) (.e)) (some ⟨4,zes,zet⟩) (.e)) (some ⟨41,zow,zox⟩) (.n (.e) (some ⟨3,zie,zif⟩) (.e)))) (some ⟨3,zvp,zvq⟩) (.n (.n (.n (.n (.e) (some ⟨3,zt8,zt9⟩) (.e)) (some ⟨9,zfo,zfp⟩) (.e)) (some ⟨9,zgU,zgV⟩) (.n (.n (.e) (some ⟨13,zmG,zmH⟩) (.e)) (some ⟨41,zCB,zCC⟩) (.e))) (some ⟨16,zdt,zdu⟩) (.n (.n (.n (.e) (some ⟨10,zm1,zm2⟩) (.e)) (some ⟨3,zb4,zb5⟩) (.e)) (some ⟨4,zh8,zh9⟩) (.n (.e) (some ⟨5,zii,zij⟩) (.e))))))) (none) (.n (.n (.n (.n (.n (.n (.n (.e) (some ⟨7,zt4,zt5⟩) (.e)) (some ⟨2,zfk,zfl⟩) (.e)) (some ⟨91,zfc,zfd⟩) (.n (.n (.e) (some ⟨6,zzu,zzv⟩) (.e)) (some ⟨3,zqd,zqe⟩) (.e))) (some ⟨5,zgy,zgz⟩) (.n (.n (.e) (some ⟨4,zju,zjv⟩) (.e)) (some ⟨18,zdz,zdA⟩) (.n (.e) (some ⟨9,zzl,zzm⟩) (.e)))) (some ⟨7,zgs,zgt⟩) (.n (.n (.n (.n (.e) (some ⟨6,zcS,zcT⟩) (.e)) (some ⟨3,zdN,zdO⟩) (.e)) (some ⟨10,ztM,ztN⟩) (.n (.n (.e) (some ⟨13,zeY,zeZ⟩) (.e)) (some ⟨50,zj1,zj2⟩) (.e))) (some ⟨52,zbW,zbX⟩) (.n (.n (.n (.e) (some ⟨13,zeI,zeJ⟩) (.e)) (some ⟨5,zvU,zvV⟩) (.e)) (some ⟨4,zg0,zg1⟩) (.n (.e) (some ⟨7,zhi,zhj⟩) (.e))))) (some ⟨6,ze4,ze5⟩) (.n (.n (.n (.n (.n (.e) (some ⟨50,zlF,zlG⟩) (.e)) (some ⟨5,zdJ,zdK⟩) (.e)) (some ⟨5,zgQ,zgR⟩) (.n (.n (.e) (some ⟨13,zlK,zlL⟩) (.e)) (some ⟨5,zbd,zbe⟩) (.e))) (some ⟨5,zvz,zvA⟩) (.n (.n (.n (.e) (some ⟨13,zdg,zdh⟩) (.e)) (some ⟨15,zoD,zoE⟩) (.e)) (some ⟨2,zdD,zdE⟩) (.e))) (some ⟨17,zje,zjf⟩) (.n (.n (.n (.n (.e) (some ⟨7,zis,zit⟩) (.e)) (some ⟨13,zjq,zjr⟩) (.e)) (some ⟨7,ztP,ztQ⟩) (.n (.n (.e) (some ⟨12,zlQ,zlR⟩) (.e)) (some ⟨5,zoJ,zoK⟩) (.e))) (some ⟨7,zgE,zgF⟩) (.n (.n (.n (.e) (some ⟨21,zay,zaz⟩) (.e)) (some ⟨8,zkQ,zkR⟩) (.e)) (some ⟨14,zg2,zg3⟩) (.n (.e) (some ⟨4,zcw,zcx⟩) (.e)))))) (some ⟨14,zgm,zgn⟩) (.n (.n (.n (.n (.n (.n (.e) (some ⟨17,zqh,zqi⟩) (.e)) (some ⟨3,zsR,zsS⟩) (.e)) (some ⟨28,zh2,zh3⟩) (.n (.n (.e) (some ⟨9,zfR,zfS⟩) (.e)) (some ⟨5,zmj,zmk⟩) (.e))) (some ⟨6,zek,zel⟩) (.n (.n (.n (.e) (some ⟨13,ziT,ziU⟩) (.e)) (some ⟨5,ztW,ztX⟩) (.e)) (some ⟨3,zkI,zkJ⟩) (.n (.e) (some ⟨6,zml,zmm⟩) (.e)))) (some ⟨3,zvj,zvk⟩) (.n (.n (.n (.n (.e) (some ⟨7,zAp,zAq⟩) (.e)) (some ⟨7,zp9,zqa⟩) (.e)) (some ⟨1,zaX,zaY⟩) (.n (.n (.e) (some ⟨12,zke,zkf⟩) (.e)) (some ⟨11,ziq,zir⟩) (.e))) (some ⟨41,zdr,zds⟩) (.n (.n (.n (.e) (some ⟨7,zdR,zdS⟩) (.e)) (some ⟨5,zbb,zbc⟩) (.e)) (some ⟨5,za9,zba⟩) (.n (.e) (some ⟨4,zmq,zmr⟩) (.e))))) (some ⟨7,zxe,zxf⟩) (.n (.n (.n (.n (.n (.e) (some ⟨11,zj4,zj5⟩) (.e)) (some ⟨8,zmf,zmg⟩) (.e)) (some ⟨21,zcm,zcn⟩) (.n (.n (.e) (some ⟨13,zlM,zlN⟩) (.e)) (some ⟨9,zqH,zqI⟩) (.e))) (some ⟨12,ze8,ze9⟩) (.n (.n (.n (.e) (some ⟨13,zku,zkv⟩) (.e)) (some ⟨5,zfq,zfr⟩) (.e)) (some ⟨5,zfg,zfh⟩) (.n (.e) (some ⟨5,zjC,zjD⟩) (.e)))) (some ⟨1,zkE,zkF⟩) (.n (.n (.n (.n (.e) (some ⟨3,zBB,zBC⟩) (.e)) (some ⟨3,zbG,zbH⟩) (.e)) (some ⟨105,zEM,zEN⟩) (.n (.e) (some ⟨11,zhc,zhd⟩) (.e))) (some ⟨6,zdv,zdw⟩) (.n (.n (.n (.e) (some ⟨11,znX,znY⟩) (.e)) (some ⟨6,zze,zzf⟩) (.e)) (some ⟨4,zkM,zkN⟩) (.n (.e) (some ⟨77,zcQ,zcR⟩) (.e)))))))) (none) (.n (.n (.n (.n (.n (.n (.n (.n (.e) (some ⟨5,zeE,zeF⟩) (.e)) (some ⟨4,zq9,zra⟩) (.e)) (some ⟨24,zgG,zgH⟩) (.n (.n (.e) (some ⟨10,zmE,zmF⟩) (.e)) (some ⟨17,zkU,zkV⟩) (.e))) (some ⟨3,zgw,zgx⟩) (.n (.n (.n (.e) (some ⟨3,zua,zub⟩) (.e)) (some ⟨11,zg8,zg9⟩) (.e)) (some ⟨17,zBl,zBm⟩) (.n (.e) (some ⟨6,zBw,zBx⟩) (.e)))) (some ⟨44,zgq,zgr⟩) (.n (.n (.n (.n (.e) (some ⟨3,zeG,zeH⟩) (.e)) (some ⟨8,zfm,zfn⟩) (.e)) (some ⟨7,zxr,zxs⟩) (.n (.n (.e) (some ⟨10,zjG,zjH⟩) (.e)) (some ⟨11,ziQ,ziR⟩) (.e))) (some ⟨3,zbC,zbD⟩) (.n (.n (.n (.e) (some ⟨10,ziw,zix⟩) (.e)) (some ⟨52,zfw,zfx⟩) (.e)) (some ⟨13,zgY,zgZ⟩) (.n (.e) (some ⟨5,zhg,zhh⟩) (.e))))) (some ⟨5,zz4,zz5⟩) (.n (.n (.n (.n (.n (.e) (some ⟨11,zks,zkt⟩) (.e)) (some ⟨6,zg6,zg7⟩) (.e)) (some ⟨10,zgO,zgP⟩) (.n (.n (.e) (some ⟨9,zhB,zhC⟩) (.e)) (some ⟨4,zha,zhb⟩) (.e))) (some ⟨34,zvx,zvy⟩) (.n (.n (.n (.e) (some ⟨10,zho,zhp⟩) (.e)) (some ⟨4,zqb,zqc⟩) (.e)) (some ⟨71,zou,zov⟩) (.n (.e) (some ⟨10,zaF,zaG⟩) (.e)))) (some ⟨5,zvn,zvo⟩) (.n (.n (.n (.n (.e) (some ⟨3,zqN,zqO⟩) (.e)) (some ⟨21,zDF,zDG⟩) (.e)) (some ⟨14,zco,zcp⟩) (.n (.n (.e) (some ⟨9,zms,zmt⟩) (.e)) (some ⟨3,zfA,zfB⟩) (.e))) (some ⟨4,zol,zom⟩) (.n (.n (.n (.e) (some ⟨4,zbI,zbJ⟩) (.e)) (some ⟨6,zBr,zBs⟩) (.e)) (some ⟨3,zeq,zer⟩) (.n (.e) (some ⟨3,znq,znr⟩) (.e)))))) (some ⟨6,zgk,zgl⟩) (.n (.n (.n (.n (.n (.n (.e) (some ⟨5,zEW,zEX⟩) (.e)) (some ⟨4,zg4,zg5⟩) (.e)) (some ⟨13,zgK,zgL⟩) (.n (.n (.e) (some ⟨12,ziX,ziY⟩) (.e)) (some ⟨7,znk,znl⟩) (.e))) (some ⟨63,zgA,zgB⟩) (.n (.n (.n (.e) (some ⟨10,zK,zL⟩) (.e)) (some ⟨2,z5,z6⟩) (.e)) (some ⟨13,zgW,zgX⟩) (.n (.e) (some ⟨3,zno,znp⟩) (.e)))) (some ⟨7,ze6,ze7⟩) (.n (.n (.n (.n (.e) (some ⟨10,zt6,zt7⟩) (.e)) (some ⟨7,zCt,zCu⟩) (.e)) (some ⟨16,zfe,zff⟩) (.n (.n (.e) (some ⟨10,znZ,zn0⟩) (.e)) (some ⟨5,zvX,zvY⟩) (.e))) (some ⟨30,zdp,zdq⟩) (.n (.n (.n (.e) (some ⟨3,zzs,zzt⟩) (.e)) (some ⟨5,zb2,zb3⟩) (.e)) (some ⟨10,zjo,zjp⟩) (.n (.e) (some ⟨7,zv5,zv6⟩) (.e))))) (some ⟨7,zsG,zsH⟩) (.n (.n (.n (.n (.n (.e) (some ⟨5,zAn,zAo⟩) (.e)) (some ⟨7,zoz,zoA⟩) (.e)) (some ⟨9,zgS,zgT⟩) (.n (.n (.e) (some ⟨10,zY,zZ⟩) (.e)) (some ⟨6,zre,zrf⟩) (.e))) (some ⟨5,zmb,zmc⟩) (.n (.n (.n (.e) (some ⟨10,zO,zP⟩) (.e)) (some ⟨7,zeu,zev⟩) (.e)) (some ⟨8,zh6,zh7⟩) (.n (.e) (some ⟨7,zmo,zmp⟩) (.e)))) (some ⟨5,zxj,zxk⟩) (.n (.n (.n (.n (.e) (some ⟨18,zCF,zCG⟩) (.e)) (some ⟨8,zjs,zjt⟩) (.e)) (some ⟨4,zAb,zAc⟩) (.n (.n (.e) (some ⟨12,zmI,zmJ⟩) (.e)) (some ⟨13,zzj,zzk⟩) (.e))) (some ⟨11,zkG,zkH⟩) (.n (.n (.n (.e) (some ⟨7,zj8,zj9⟩) (.e)) (some ⟨25,zic,zid⟩) (.e)) (some ⟨23,zkK,zkL⟩) (.n (.e) (some ⟨1,zqL,zqM⟩) (.e))))))) (none) (.n (.n (.n (.n (.n (.n (.n (.e) (some ⟨2,zar,zas⟩) (.e)) (some ⟨1,zxv,zxw⟩) (.e)) (some ⟨4,zck,zcl⟩) (.n (.n (.e) (some ⟨9,zAt,zAu⟩) (.e)) (some ⟨19,zaZ,za0⟩) (.e))) (some ⟨66,zdn,zdo⟩) (.n (.n (.n (.e) (some ⟨2,zpq,zpr⟩) (.e)) (some ⟨2,zI,zJ⟩) (.e)) (some ⟨13,zcq,zcr⟩) (.n (.e) (some ⟨4,zxB,zxC⟩) (.e)))) (some ⟨5,zz7,zz8⟩) (.n (.n (.n (.n (.e) (some ⟨9,zb6,zb7⟩) (.e)) (some ⟨12,zoB,zoC⟩) (.e)) (some ⟨3,zy6,zy7⟩) (.n (.n (.e) (some ⟨13,ziz,ziA⟩) (.e)) (some ⟨8,zjw,zjx⟩) (.e))) (some ⟨37,zbl,zbm⟩) (.n (.n (.n (.e) (some ⟨13,zhz,zhA⟩) (.e)) (some ⟨4,zfy,zfz⟩) (.e)) (some ⟨42,zp3,zp4⟩) (.n (.e) (some ⟨21,z7,z8⟩) (.e))))) (some ⟨5,zve,zvf⟩) (.n (.n (.n (.n (.n (.e) (some ⟨8,zlj,zlk⟩) (.e)) (some ⟨46,zdL,zdM⟩) (.e)) (some ⟨12,zh4,zh5⟩) (.n (.n (.e) (some ⟨12,zcU,zcV⟩) (.e)) (some ⟨6,zdP,zdQ⟩) (.e))) (some ⟨6,zsK,zsL⟩) (.n (.n (.n (.e) (some ⟨13,zfP,zfQ⟩) (.e)) (some ⟨1,zoF,zoG⟩) (.e)) (some ⟨4,zjk,zjl⟩) (.n (.e) (some ⟨6,zqf,zqg⟩) (.e)))) (some ⟨3,zbA,zbB⟩) (.n (.n (.n (.n (.e) (some ⟨11,zmC,zmD⟩) (.e)) (some ⟨9,zng,znh⟩) (.e)) (some ⟨31,zbE,zbF⟩) (.n (.n (.e) (some ⟨9,ziB,ziC⟩) (.e)) (some ⟨4,zjy,zjz⟩) (.e))) (some ⟨3,zfa,zfb⟩) (.n (.n (.n (.e) (some ⟨12,zoQ,zoR⟩) (.e)) (some ⟨14,zew,zex⟩) (.e)) (some ⟨66,zfi,zfj⟩) (.n (.e) (some ⟨1,zcy,zcz⟩) (.e)))))) (some ⟨3,zvc,zvd⟩) (.n (.n (.n (.n (.n (.n (.e) (some ⟨8,zaf,zag⟩) (.e)) (some ⟨3,zcu,zcv⟩) (.e)) (some ⟨6,zgM,zgN⟩) (.n (.n (.e) (some ⟨13,zka,zkb⟩) (.e)) (some ⟨5,znm,znn⟩) (.e))) (some ⟨6,zxl,zxm⟩) (.n (.n (.n (.e) (some ⟨13,zfU,zfV⟩) (.e)) (some ⟨12,zpo,zpp⟩) (.e)) (some ⟨8,zdB,zdC⟩) (.n (.e) (some ⟨6,zjA,zjB⟩) (.e)))) (some ⟨28,zxh,zxi⟩) (.n (.n (.n (.n (.e) (some ⟨10,zlH,zlI⟩) (.e)) (some ⟨5,zCv,zCw⟩) (.e)) (some ⟨5,zoo,zop⟩) (.n (.n (.e) (some ⟨12,zlO,zlP⟩) (.e)) (some ⟨12,zlg,zlh⟩) (.e))) (some ⟨5,zmd,zme⟩) (.n (.n (.n (.e) (some ⟨7,zcA,zcB⟩) (.e)) (some ⟨6,zqD,zqE⟩) (.e)) (some ⟨10,zvO,zvP⟩) (.n (.e) (some ⟨5,zoM,zoN⟩) (.e))))) (some ⟨3,zkC,zkD⟩) (.n (.n (.n (.n (.n (.e) (some ⟨12,zmA,zmB⟩) (.e)) (some ⟨19,zaw,zax⟩) (.e)) (some ⟨11,zem,zen⟩) (.n (.n (.e) (some ⟨13,ziZ,zi0⟩) (.e)) (some ⟨8,zW,zX⟩) (.e))) (some ⟨7,zne,znf⟩) (.n (.n (.n (.e) (some ⟨13,zhS,zhT⟩) (.e)) (some ⟨1,zfs,zft⟩) (.e)) (some ⟨4,zjm,zjn⟩) (.n (.e) (some ⟨6,zhe,zhf⟩) (.e)))) (some ⟨126,zog,zoh⟩) (.n (.n (.n (.n (.e) (some ⟨7,zkY,zkZ⟩) (.e)) (some ⟨13,zkO,zkP⟩) (.e)) (some ⟨96,zCr,zCs⟩) (.n (.e) (some ⟨16,zey,zez⟩) (.e))) (some ⟨4,zjg,zjh⟩) (.n (.n (.n (.e) (some ⟨10,zE1,zE2⟩) (.e)) (some ⟨3,zkS,zkT⟩) (.e)) (some ⟨12,zcM,zcN⟩) (.n (.e) (some ⟨3,zeC,zeD⟩) (.e))))))))
end Go.Proofs.YtdgikhhkgnjalaaGreat
namespace Go.Vm.Rn
open Go.Vm
def All2 {α β:Type} (Q:α→β→Prop):List α→List β→Prop
 | [],[]=>True
 | a::l,b::r=>Q a b∧All2 Q l r
 | _,_=>False
namespace All2
variable {α β γ:Type} {Q Q':α→β→Prop}
theorem len:∀ {l:List α} {r:List β},All2 Q l r→l.length=r.length
 | [],[],_=>rfl
 | _::_,_::_,h=>congrArg (· + 1) (len h.2)
 | [],_::_,h=>h.elim
 | _::_,[],h=>h.elim
theorem imp (hq:∀ a b,Q a b→Q' a b):∀ {l:List α} {r:List β},All2 Q l r→All2 Q' l r
 | [],[],_=>trivial
 | _::_,_::_,h=>⟨hq _ _ h.1,imp hq h.2⟩
 | [],_::_,h=>h.elim
 | _::_,[],h=>h.elim
theorem drop:∀ (n:Nat) {l:List α} {r:List β},All2 Q l r→All2 Q (l.drop n) (r.drop n)
 | 0,_,_,h=>h
 | _+1,[],[],_=>trivial
 | n+1,_::_,_::_,h=>drop n h.2
 | _+1,[],_::_,h=>h.elim
 | _+1,_::_,[],h=>h.elim
theorem take:∀ (n:Nat) {l:List α} {r:List β},All2 Q l r→All2 Q (l.take n) (r.take n)
 | 0,_,_,_=>by simp[All2]
 | _+1,[],[],_=>trivial
 | n+1,_::_,_::_,h=>⟨h.1,take n h.2⟩
 | _+1,[],_::_,h=>h.elim
 | _+1,_::_,[],h=>h.elim
theorem append:∀ {l l':List α} {r r':List β},All2 Q l r→All2 Q l' r'→All2 Q (l++l') (r++r')
 | [],_,[],_,_,h=>h
 | _::_,_,_::_,_,h,h'=>⟨h.1,append h.2 h'⟩
 | [],_,_::_,_,h,_=>h.elim
 | _::_,_,[],_,h,_=>h.elim
theorem at_:∀ {l:List α} {r:List β},All2 Q l r→∀ {k:Nat} {a:α},l[k]? = some a→∃ b,r[k]? = some b∧Q a b
 | _::_,_::_,h,0,a,ha=>⟨_,rfl,by simp at ha;subst ha;exact h.1⟩
 | _::_,_::_,h,k+1,a,ha=>by simpa using at_ h.2 (k:=k) (a:=a) (by simpa using ha)
 | [],[],_,_,_,ha=>by simp at ha
 | [],_::_,h,_,_,_=>h.elim
 | _::_,[],h,_,_,_=>h.elim
theorem set:∀ {l:List α} {r:List β},All2 Q l r→∀ {k:Nat} {a:α} {b:β},Q a b→All2 Q (l.set k a) (r.set k b)
 | [],[],_,_,_,_,_=>trivial
 | _::_,_::_,h,0,_,_,hq=>⟨hq,h.2⟩
 | _::_,_::_,h,_+1,_,_,hq=>⟨h.1,set h.2 hq⟩
 | [],_::_,h,_,_,_,_=>h.elim
 | _::_,[],h,_,_,_,_=>h.elim
theorem map {f:β→γ} {Q'':α→γ→Prop} (hf:∀ a b,Q a b→Q'' a (f b)):∀ {l:List α} {r:List β},All2 Q l r→All2 Q'' l (r.map f)
 | [],[],_=>trivial
 | _::_,_::_,h=>⟨hf _ _ h.1,map hf h.2⟩
 | [],_::_,h=>h.elim
 | _::_,[],h=>h.elim
theorem fn (hq:∀ a b b',Q a b→Q a b'→b=b'):∀ {l:List α} {r r':List β},All2 Q l r→All2 Q l r'→r=r'
 | [],[],[],_,_=>rfl
 | _::_,_::_,_::_,h,h'=>by rw[hq _ _ _ h.1 h'.1,fn hq h.2 h'.2]
 | [],_::_,_,h,_=>h.elim
 | [],[],_::_,_,h=>h.elim
 | _::_,[],_,h,_=>h.elim
 | _::_,_::_,[],_,h=>h.elim
end All2
theorem zn {b:Bool} {t:R} {y:Out} (h:cB b t fail=some y):b=true∧t=some y:=by cases b<;>simp_all [cB,fail]
theorem zhV {α:Type} {x:Option α} {K:α→R} {y:Out} (h:oV x K=some y):∃ v,x=some v∧K v=some y:=by cases x<;>simp_all [oV,fail]
theorem fN_eq (k:Nat→R) (n:Nat):fN k n=k n:=by cases n<;>rfl
theorem zNB (k:Int→R) (n:Int):fI k n=k n:=by cases n<;>simp only[fI,fN_eq]
theorem zqR {b:Bool} {K:V→R}:kB b K=K (.c (.t b)):=by cases b<;>rfl
theorem za8 {α:Type} (l:List α) (K:Nat→R):zdi l K=K l.length:=by
 unfold zdi;rw[fN_eq];congr 1
 induction l with
 | nil=>rfl
 | cons a r ih=>simp only[List.length_cons,←ih]
theorem zlt {α:Type}:∀ (l r:List α) (K:List α→R),appK l r K=K (l++r)
 | [],_,_=>rfl
 | a::l,r,K=>zlt l r fun r'=>K (a::r')
theorem zuH {α:Type} (l:List α):∀ (n:Nat) (K:List α→R),zxL l n K=K (List.replicate n l).flatten
 | 0,_=>rfl
 | n+1,K=>by
  have h:zxL l (n+1) K=zxL l n fun r=>appK l r K:=rfl
  rw[h,zuH l n,zlt];rfl
theorem zAz {α:Type} {y:Out}:∀ {n:Nat} {l:List α} {K:List α→R},zE3 n l K=some y→n≤l.length∧K (l.drop n)=some y
 | 0,_,_,h=>⟨Nat.zero_le _,h⟩
 | _+1,[],_,h=>by cases h
 | n+1,_::l,K,h=>by
  obtain⟨h1,h2⟩:=zAz (n:=n) (l:=l) (K:=K) h
  exact⟨Nat.succ_le_succ h1,h2⟩
theorem zrj {α:Type} {y:Out}:∀ {n:Nat} {l:List α} {K:List α→R},zoU n l K=some y→n≤l.length∧K (l.take n)=some y
 | 0,_,_,h=>⟨Nat.zero_le _,h⟩
 | _+1,[],_,h=>by cases h
 | n+1,a::l,K,h=>by
  obtain⟨h1,h2⟩:=zrj (n:=n) (l:=l) (K:=fun r=>K (a::r)) h
  exact⟨Nat.succ_le_succ h1,h2⟩
theorem zEe {α:Type} {y:Out}:∀ {vs l:List α} {K:List α→R},zKc vs l K=some y→vs.length≤l.length∧K (vs++l.drop vs.length)=some y
 | [],_,_,h=>⟨Nat.zero_le _,h⟩
 | _::_,[],_,h=>by cases h
 | v::vs,a::l,K,h=>by
  obtain⟨h1,h2⟩:=zEe (vs:=vs) (l:=l) (K:=fun r=>K (v::r)) h
  exact⟨Nat.succ_le_succ h1,h2⟩
theorem zug {α:Type} {y:Out}:∀ {o:Nat} {l vs:List α} {K:List α→R},zAv o l vs K=some y→o+vs.length≤l.length∧K (splice l o vs)=some y
 | 0,l,vs,K,h=>by
  obtain⟨h1,h2⟩:=zEe (vs:=vs) (l:=l) (K:=K) h
  exact⟨by omega,by simpa[splice] using h2⟩
 | _+1,[],_,_,h=>by cases h
 | o+1,a::l,vs,K,h=>by
  obtain⟨h1,h2⟩:=zug (o:=o) (l:=l) (vs:=vs) (K:=fun r=>K (a::r)) h
  refine⟨by simp only[List.length_cons];omega,?_⟩
  have e:splice (a::l) (o+1) vs=a::splice l o vs:=by simp[splice,Nat.add_right_comm o 1]
  rw[e];exact h2
theorem zrk {α:Type} {y:Out}:∀ {l:List α} {k:Nat} {K:α→R},zuc l k K=some y→∃ a,l[k]? = some a∧K a=some y
 | [],_,_,h=>by cases h
 | a::_,0,_,h=>⟨a,rfl,h⟩
 | _::l,k+1,K,h=>by simpa using zrk (l:=l) (k:=k) (K:=K) h
theorem zCU {α:Type} {y:Out}:∀ {l:List α} {k:Nat} {x:α} {K:List α→R},setK l k x K=some y→k<l.length∧K (l.set k x)=some y
 | [],_,_,_,h=>by cases h
 | _::l,0,_,_,h=>⟨by simp,h⟩
 | a::l,k+1,x,K,h=>by
  obtain⟨h1,h2⟩:=zCU (l:=l) (k:=k) (x:=x) (K:=fun r=>K (a::r)) h
  exact⟨by simp only[List.length_cons];omega,h2⟩
theorem zHu {α:Type} {y:Out}:∀ {l:List α} {k:Nat} {K:List α→R},zIy l k K=some y→k<l.length∧K (l.eraseIdx k)=some y
 | [],_,_,h=>by cases h
 | _::l,0,_,h=>⟨by simp,h⟩
 | a::l,k+1,K,h=>by
  obtain⟨h1,h2⟩:=zHu (l:=l) (k:=k) (K:=fun r=>K (a::r)) h
  exact⟨by simp only[List.length_cons];omega,h2⟩
theorem zrl {cs:List C} {o n:Nat} {K:List C→R} {y:Out} (h:takeC cs o n K=some y):o+n≤cs.length∧K ((cs.drop o).take n)=some y:=by
 obtain⟨h1,h2⟩:=zAz h
 obtain⟨h3,h4⟩:=zrj h2
 rw[List.length_drop] at h3
 exact⟨by omega,h4⟩
namespace T
variable {α:Type}
theorem get_1 (l r:T α) (v:Option α) (m:Nat):(T.n l v r).get (m+1)=if Nat.beq (m % 2) 1 then r.get (m / 2) else l.get (m / 2):=by
 show (Bool.rec (l.get (m / 2)) (r.get (m / 2)) (Nat.beq (m % 2) 1):Option α)=_
 cases Nat.beq (m % 2) 1<;>rfl
noncomputable def put (t:T α) (k:Nat) (x:Option α):T α:=t.set k x id
theorem set_put {ρ:Type}:∀ (t:T α) (k:Nat) (x:Option α) (K:T α→ρ),t.set k x K=K (t.put k x)
 | .e,_,_,_=>rfl
 | .n _ _ _,0,_,_=>rfl
 | .n l v r,m+1,x,K=>by
  unfold put
  show (Bool.rec (l.set (m / 2) x fun l'=>K (.n l' v r)) (r.set (m / 2) x fun r'=>K (.n l v r')) (Nat.beq (m % 2) 1):ρ)=K (Bool.rec (motive:=fun _=>T α) (l.set (m / 2) x fun l'=>id (.n l' v r)) (r.set (m / 2) x fun r'=>id (.n l v r')) (Nat.beq (m % 2) 1))
  cases Nat.beq (m % 2) 1
  ·show l.set (m / 2) x _=K (l.set (m / 2) x _)
   rw[set_put l,set_put l];rfl
  ·show r.set (m / 2) x _=K (r.set (m / 2) x _)
   rw[set_put r,set_put r];rfl
theorem zKk (l r:T α) (v:Option α) (m:Nat) (x:Option α):(T.n l v r).put (m+1) x=if Nat.beq (m % 2) 1 then .n l v (r.put (m / 2) x) else .n (l.put (m / 2) x) v r:=by
 unfold put
 show (Bool.rec (l.set (m / 2) x fun l'=>id (.n l' v r)) (r.set (m / 2) x fun r'=>id (.n l v r')) (Nat.beq (m % 2) 1):T α)=_
 cases Nat.beq (m % 2) 1
 ·show l.set (m / 2) x _=_
  rw[set_put l];rfl
 ·show r.set (m / 2) x _=_
  rw[set_put r];rfl
theorem zAA:∀ {f k j:Nat} {x:Option α} {y:α},(T.one f k x).get j=some y→j=k∧x=some y
 | 0,_,_,_,_,h=>by cases h
 | _+1,0,0,x,y,h=>⟨rfl,h⟩
 | _+1,0,j+1,x,y,h=>by
  have e:∀ f,(T.one (f+1) 0 x:T α) = .n .e x .e:=fun _=>rfl
  rw[e,get_1] at h
  split at h<;>cases h
 | f+1,m+1,j,x,y,h=>by
  have e:(T.one (f+1) (m+1) x:T α)=Bool.rec (.n (T.one f (m / 2) x) none .e) (.n .e none (T.one f (m / 2) x)) (Nat.beq (m % 2) 1):=rfl
  rw[e] at h
  cases hm:Nat.beq (m % 2) 1 with
  | true=>
   rw[hm] at h
   have hm':m % 2=1:=Nat.eq_of_beq_eq_true hm
   cases j with
   | zero=>cases h
   | succ j=>
    replace h:(T.n .e none (T.one f (m / 2) x):T α).get (j+1)=some y:=h
    rw[get_1] at h
    split at h
    ·rename_i hj
     have hj':j % 2=1:=Nat.eq_of_beq_eq_true hj
     obtain⟨h1,h2⟩:=zAA h
     exact⟨by omega,h2⟩
    ·cases h
  | false=>
   rw[hm] at h
   have hm':m % 2≠1:=fun e=>by rw[e] at hm;cases hm
   cases j with
   | zero=>cases h
   | succ j=>
    replace h:(T.n (T.one f (m / 2) x) none .e:T α).get (j+1)=some y:=h
    rw[get_1] at h
    split at h
    ·cases h
    ·rename_i hj
     have hj':j % 2≠1:=fun e=>by rw[e] at hj;exact hj rfl
     obtain⟨h1,h2⟩:=zAA h
     exact⟨by omega,h2⟩
theorem get_put:∀ {t:T α} {k j:Nat} {x:Option α} {y:α},(t.put k x).get j=some y→(j=k∧x=some y)∨(j≠k∧t.get j=some y)
 | .e,k,j,x,y,h => .inl (zAA (f:=40) (show (T.one 40 k x).get j=some y from h))
 | .n _ _ _,0,0,x,y,h => .inl ⟨rfl,h⟩
 | .n l v r,0,j+1,x,y,h=>by
  have e:(T.n l v r).put 0 x = .n l x r:=rfl
  rw[e,get_1] at h
  exact .inr ⟨by omega,by rw[get_1];exact h⟩
 | .n l v r,m+1,0,x,y,h=>by
  rw[zKk] at h
  refine .inr ⟨by omega,?_⟩
  split at h<;>exact h
 | .n l v r,m+1,j+1,x,y,h=>by
  rw[zKk] at h
  rw[get_1]
  cases hm:Nat.beq (m % 2) 1<;>cases hj:Nat.beq (j % 2) 1<;>simp only[hm,Bool.false_eq_true,if_false,if_true] at h<;>rw[get_1,hj] at h<;>simp only[Bool.false_eq_true,if_false,if_true] at h ⊢
  ·have hm':m % 2≠1:=fun e=>by rw[e] at hm;cases hm
   have hj':j % 2≠1:=fun e=>by rw[e] at hj;cases hj
   rcases get_put h with ⟨h1,h2⟩|⟨h1,h2⟩
   ·exact .inl ⟨by omega,h2⟩
   ·exact .inr ⟨by omega,h2⟩
  ·have hm':m % 2≠1:=fun e=>by rw[e] at hm;cases hm
   have hj':j % 2=1:=Nat.eq_of_beq_eq_true hj
   exact .inr ⟨by omega,h⟩
  ·have hj':j % 2≠1:=fun e=>by rw[e] at hj;cases hj
   have hm':m % 2=1:=Nat.eq_of_beq_eq_true hm
   exact .inr ⟨by omega,h⟩
  ·have hm':m % 2=1:=Nat.eq_of_beq_eq_true hm
   have hj':j % 2=1:=Nat.eq_of_beq_eq_true hj
   rcases get_put h with ⟨h1,h2⟩|⟨h1,h2⟩
   ·exact .inl ⟨by omega,h2⟩
   ·exact .inr ⟨by omega,h2⟩
end T
structure E where
 addr:Nat
 cap:Nat
 nil:Bool
 sp:List Value
def zG (l:List Nat):ByteArray:=⟨(l.map UInt8.ofNat).toArray⟩
def C.val (σ:List E):C→Option Value
 | .n q x=>some (.int q x)
 | .t x=>some (.bool x)
 | .s x=>some (.string (zG x))
 | .p a o=>(σ[a]?).map fun e => .pointer (some ⟨e.addr,o,none⟩)
 | .np=>some (.pointer none)
 | .l a o x y=>(σ[a]?).map fun e => .slice (some ⟨e.addr,o,none⟩) x y
 | .g a o d x=>(σ[a]?).bind fun e=>if e.nil=true then (if x=0∧o=0∧d=0 then some (.slice none 0 0) else none) else (if d+x≤e.cap then some (.slice (some ⟨e.addr,o,none⟩) x (e.cap - d)) else none)
 | .nl=>some (.slice none 0 0)
 | .m a=>(σ[a]?).map fun e => .map (some e.addr)
 | .nm=>some (.map none)
 | .b _ _=>none
 | .f x=>some (.func (.func x) #[] #[])
 | .fm x a o=>(σ[a]?).map fun e => .func (.func x) #[.pointer (some ⟨e.addr,o,none⟩)] #[]
 | .h a o d k z w=>(σ[a]?).bind fun e=>if e.nil=false∧d+k≤e.cap then some (.slice (zap (some ⟨e.addr,o,none⟩) k (e.cap - d) z) 0 (if w then 0 else e.cap - d - k)) else none
 | .ni=>some .nilIface
 | .nf=>some .nilFunc
def CR (σ:List E) (c:C) (v:Value):Prop:=c.val σ=some v
def SCR (σ:List E) (nb:Nat) (c:C) (x:SC):Prop:=match c with | .b j o=>j<nb∧x = .bx j o|c=>∃ v,c.val σ=some v∧x = .v v
def WR (σ:List E) (w:W) (v:Value):Prop:=match w with | .c x=>CR σ x v | .ag l=>∃ vs,All2 (CR σ) l vs∧v = .agg vs.toArray | .fn g l=>∃ vs,All2 (CR σ) l vs∧v = .func (.func g) #[] vs.toArray
def VR (σ:List E) (nb:Nat) (v:V) (sv:SV):Prop:=
 match v with
 | .c x=>(∃ sc,SCR σ nb x sc∧sv = .c sc)∨(∃ b,x = .t b∧sv = .sb b)
 | .ag l=>∃ cs,All2 (SCR σ nb) l cs∧sv = .ag cs
 | .fn g l=>(∃ cs,All2 (SCR σ nb) l cs∧sv = .fn g cs)∨(∃ vs,All2 (CR σ) l vs∧sv = .c (.v (.func (.func g) #[] vs.toArray)))
 | .tp l=>∃ vs,All2 (WR σ) l vs∧sv = .c (.v (.tuple vs.toArray))
 | .sl j n=>j<nb∧sv = .sl j n
 | .dead=>sv = .dead
def OVR (σ:List E) (v:V) (x:Value):Prop:=match v with | .c c=>CR σ c x | .ag l=>WR σ (.ag l) x | .fn g l=>WR σ (.fn g l) x | .tp l=>∃ vs,All2 (WR σ) l vs∧x = .tuple vs.toArray|_=>False
def EnR (σ:List E) (e:En) (m:MapEntry):Prop:=WR σ e.key m.key∧WR σ e.val m.val∧m.born=e.born
def mR (σ:List E) (m:Option Nat) (x:Option Nat):Prop:=match m with|none=>x=none|some a=>∃ e,σ[a]? = some e∧x=some e.addr
def OR (σ:List E) (e:E) (o:O) (M:Mem):Prop:=
 match o with
 | .row T l=>e.nil=false∧∃ vs,All2 (CR σ) l vs∧M e.addr=some (.cells vs.toArray T (0,0))
 | .ro T l=>e.nil=false∧∃ vs,All2 (CR σ) l vs∧M e.addr=some (.cells vs.toArray T (vs.length,vs.length+1))
 | .gr T z l=>∃ vs,All2 (CR σ) l vs∧((e.nil=true∧l=[]∧e.cap=0)∨(e.nil=false∧M e.addr=some (.cells (vs++e.sp).toArray T (0,0))∧(vs++e.sp).length=e.cap*z))
 | .mp es c=>e.nil=false∧∃ ms,All2 (EnR σ) es ms∧M e.addr=some (.map ms.toArray c)
 | .it m a s t=>e.nil=false∧∃ x,mR σ m x∧M e.addr=some (.mapIter x a s.toArray t)
 | .si l p=>e.nil=false∧M e.addr=some (.stringIter (zG l) p)
def BR (σ:List E) (nb:Nat) (b:B) (x:BE):Prop:=match b with | .live T l=>∃ cs,All2 (SCR σ nb) l cs∧x = .live T cs | .gone a=>∃ e,σ[a]? = some e∧x = .gone e.addr | .dark=>∃ a,x = .gone a
def FR (σ:List E) (nb:Nat) (s:S) (fr:List (Nat×SV)):Prop:=∀ d v,s.fget d=some v→v ≠ .dead∧∃ sv,lk fr d=some sv∧VR σ nb v sv
structure HR (σ:List E) (H:T O) (M:Mem):Prop where
 has:∀ a o,H.get a=some o→∃ e,σ[a]? = some e∧OR σ e o M
 inj:∀ a b oa ob ea eb,H.get a=some oa→H.get b=some ob→σ[a]? = some ea→σ[b]? = some eb→ea.nil=false→eb.nil=false→ea.addr=eb.addr→a=b
structure SR (σ:List E) (s:S) (t:St):Prop where
 n:s.n=σ.length
 fr:FR σ t.bx.length s t.fr
 bx:All2 (BR σ t.bx.length) s.bx t.bx
 h:HR σ s.H t.M
def S.rd (s:S) (a:Nat):Prop:=match s.g with|none=>True|some l=>mem a l=true
structure QR (σ:List E) (nb:Nat) (s:S) (t:St):Prop where
 fr:FR σ nb s t.fr
 bx:All2 (BR σ nb) s.bx t.bx
 h:∀ a o,s.rd a→s.H.get a=some o→∃ e,σ[a]? = some e∧OR σ e o t.M
theorem SR.q {σ:List E} {s:S} {t:St} (h:SR σ s t):QR σ t.bx.length s t:=⟨h.fr,h.bx,fun a o _ ha=>h.h.has a o ha⟩
theorem C.val_mono {σ:List E} (τ:List E) {c:C} {v:Value} (h:c.val σ=some v):c.val (σ++τ)=some v:=by
 have key:∀ {a:Nat} {e:E},σ[a]? = some e→(σ++τ)[a]? = some e:=fun {a e} he=>by
  rw[List.getElem?_append_left (List.getElem?_eq_some_iff.1 he).1];exact he
 cases c with
 | p a o=>simp only[C.val,Option.map_eq_some_iff] at h ⊢; obtain⟨e,h1,h2⟩:=h;exact⟨e,key h1,h2⟩
 | l a o n c=>simp only[C.val,Option.map_eq_some_iff] at h ⊢; obtain⟨e,h1,h2⟩:=h;exact⟨e,key h1,h2⟩
 | m a=>simp only[C.val,Option.map_eq_some_iff] at h ⊢; obtain⟨e,h1,h2⟩:=h;exact⟨e,key h1,h2⟩
 | g a o d n=>simp only[C.val,Option.bind_eq_some_iff] at h ⊢; obtain⟨e,h1,h2⟩:=h;exact⟨e,key h1,h2⟩
 | fm g a o=>simp only[C.val,Option.map_eq_some_iff] at h ⊢; obtain⟨e,h1,h2⟩:=h;exact⟨e,key h1,h2⟩
 | h a o d k z w=>simp only[C.val,Option.bind_eq_some_iff] at h ⊢; obtain⟨e,h1,h2⟩:=h;exact⟨e,key h1,h2⟩
 | _=>exact h
theorem CR.mono {σ:List E} (τ:List E) {c:C} {v:Value} (h:CR σ c v):CR (σ++τ) c v:=C.val_mono τ h
theorem SCR.mono {σ:List E} {nb nb':Nat} (τ:List E) (hn:nb≤nb') {c:C} {x:SC} (h:SCR σ nb c x):SCR (σ++τ) nb' c x:=by
 cases c with
 | b j o=>exact⟨Nat.lt_of_lt_of_le h.1 hn,h.2⟩
 | _=>obtain⟨v,h1,h2⟩:=h;exact⟨v,C.val_mono τ h1,h2⟩
theorem WR.mono {σ:List E} (τ:List E) {w:W} {v:Value} (h:WR σ w v):WR (σ++τ) w v:=by
 cases w with
 | c x=>exact CR.mono τ h
 | ag l=>obtain⟨vs,h1,h2⟩:=h;exact⟨vs,h1.imp fun _ _=>CR.mono τ,h2⟩
 | fn g l=>obtain⟨vs,h1,h2⟩:=h;exact⟨vs,h1.imp fun _ _=>CR.mono τ,h2⟩
theorem VR.mono {σ:List E} {nb nb':Nat} (τ:List E) (hn:nb≤nb') {v:V} {sv:SV} (h:VR σ nb v sv):VR (σ++τ) nb' v sv:=by
 cases v with
 | c x=>exact h.imp (fun ⟨sc,h1,h2⟩=>⟨sc,h1.mono τ hn,h2⟩) id
 | ag l=>obtain⟨cs,h1,h2⟩:=h;exact⟨cs,h1.imp fun _ _=>SCR.mono τ hn,h2⟩
 | fn g l=>exact h.imp (fun ⟨cs,h1,h2⟩=>⟨cs,h1.imp fun _ _=>SCR.mono τ hn,h2⟩) (fun ⟨vs,h1,h2⟩=>⟨vs,h1.imp fun _ _=>CR.mono τ,h2⟩)
 | tp l=>obtain⟨vs,h1,h2⟩:=h;exact⟨vs,h1.imp fun _ _=>WR.mono τ,h2⟩
 | sl j n=>exact⟨Nat.lt_of_lt_of_le h.1 hn,h.2⟩
 | dead=>exact h
theorem zm5 {σ:List E} (τ:List E) {a:Nat} {e:E} (he:σ[a]? = some e):(σ++τ)[a]? = some e:=by
 rw[List.getElem?_append_left (List.getElem?_eq_some_iff.1 he).1];exact he
theorem EnR.mono {σ:List E} (τ:List E) {e:En} {m:MapEntry} (h:EnR σ e m):EnR (σ++τ) e m:=⟨h.1.mono τ,h.2.1.mono τ,h.2.2⟩
theorem OR.mono {σ:List E} (τ:List E) {e:E} {o:O} {M:Mem} (h:OR σ e o M):OR (σ++τ) e o M:=by
 cases o with
 | row T l=>obtain⟨h0,vs,h1,h2⟩:=h;exact⟨h0,vs,h1.imp fun _ _=>CR.mono τ,h2⟩
 | ro T l=>obtain⟨h0,vs,h1,h2⟩:=h;exact⟨h0,vs,h1.imp fun _ _=>CR.mono τ,h2⟩
 | gr T z l=>obtain⟨vs,h1,h2⟩:=h;exact⟨vs,h1.imp fun _ _=>CR.mono τ,h2⟩
 | mp es c=>obtain⟨h0,ms,h1,h2⟩:=h;exact⟨h0,ms,h1.imp fun _ _=>EnR.mono τ,h2⟩
 | it m a s t=>
  obtain⟨h0,x,h1,h2⟩:=h
  refine⟨h0,x,?_,h2⟩
  cases m with
  | none=>exact h1
  | some a=>obtain⟨e,h3,h4⟩:=h1;exact⟨e,zm5 τ h3,h4⟩
 | si l p=>exact h
theorem BR.mono {σ:List E} {nb nb':Nat} (τ:List E) (hn:nb≤nb') {b:B} {x:BE} (h:BR σ nb b x):BR (σ++τ) nb' b x:=by
 cases b with
 | live T l=>obtain⟨cs,h1,h2⟩:=h;exact⟨cs,h1.imp fun _ _=>SCR.mono τ hn,h2⟩
 | gone a=>obtain⟨e,h1,h2⟩:=h;exact⟨e,zm5 τ h1,h2⟩
 | dark=>exact h
theorem FR.mono {σ:List E} {nb nb':Nat} (τ:List E) (hn:nb≤nb') {s:S} {fr:List (Nat×SV)} (h:FR σ nb s fr):FR (σ++τ) nb' s fr:=fun d v hd=>by
 obtain⟨h0,sv,h1,h2⟩:=h d v hd
 exact⟨h0,sv,h1,h2.mono τ hn⟩
theorem CR.fn {σ:List E} {c:C} {v v':Value} (h:CR σ c v) (h':CR σ c v'):v=v':=by unfold CR at h h';rw[h] at h';exact Option.some.inj h'
theorem CR.sc {σ:List E} {nb:Nat} {c:C} {v:Value} (h:CR σ c v):SCR σ nb c (.v v):=by
 cases c with
 | b j o=>cases h
 | _=>exact⟨v,h,rfl⟩
theorem CR.one {σ:List E} {c:C} {v:Value} (h:CR σ c v):v.oneCell'=true:=by
 unfold CR at h
 cases c<;>simp only[C.val,Option.map_eq_some_iff,Option.bind_eq_some_iff,Option.some.injEq,reduceCtorEq] at h<;>first
  | (subst h;rfl)
  | (obtain⟨e, -, rfl⟩:=h;rfl)
  | (obtain⟨e, -, h⟩:=h;split at h<;>split at h<;>first|(cases h;rfl)|cases h)
  | (obtain⟨e, -, h⟩:=h;split at h<;>first|(cases h;rfl)|cases h)
theorem zuh {σ:List E} {nb:Nat} {c:C} {v:Value} (h:CR σ c v):VR σ nb (.c c) (zeK v):=by
 have h1:=h.one
 cases v with
 | bool b=>
  right
  refine⟨b,?_,rfl⟩
  unfold CR at h
  cases c<;>simp only[C.val,Option.map_eq_some_iff,Option.bind_eq_some_iff,Option.some.injEq,reduceCtorEq,and_false,exists_false] at h<;>first
   | (cases h;rfl)
   | (obtain⟨e, -, h⟩:=h;split at h<;>split at h<;>cases h)
   | (obtain⟨e, -, h⟩:=h;split at h<;>cases h)
 | agg cs=>cases h1
 | tuple cs=>cases h1
 | _=>exact .inl ⟨_,h.sc,rfl⟩
theorem zuI {σ:List E} {nb:Nat} {w:W} {v:Value} (h:WR σ w v):VR σ nb (V.ofW w) (zeK v):=by
 cases w with
 | c x=>exact zuh h
 | ag l=>
  obtain⟨vs,h1,rfl⟩:=h
  exact⟨vs.map .v,h1.map fun _ _ h=>CR.sc h,by simp[zeK]⟩
 | fn g l=>
  obtain⟨vs,h1,rfl⟩:=h
  exact .inr ⟨vs,h1,rfl⟩
theorem zND {σ:List E} {nb:Nat} {v:V} {x:Value} (h:OVR σ v x):VR σ nb v (zeK x):=by
 cases v with
 | c c=>exact zuh h
 | ag l=>exact zuI (w := .ag l) h
 | fn g l=>exact zuI (w := .fn g l) h
 | tp l=>obtain⟨vs,h1,rfl⟩:=h;exact⟨vs,h1,rfl⟩
 | sl j n=>exact h.elim
 | dead=>exact h.elim
theorem zLi (s:ByteArray):zG (s.toList.map UInt8.toNat)=s:=by
 unfold zG
 have:(s.toList.map UInt8.toNat).map UInt8.ofNat=s.toList:=by
  rw[List.map_map]
  conv=>rhs;rw[←List.map_id s.toList]
  apply List.map_congr_left
  intro a _
  simp
 rw[this,ByteArray.toList_eq]
theorem C.ofV_s {v:Value} {c:C} (h:C.ofV v=some c) (σ:List E):CR σ c v:=by
 unfold C.ofV at h
 split at h<;>first
  | (cases h;rfl)
  | (cases h;simp only[CR,C.val,zLi])
  | cases h
theorem zpu {y:Out} (σ:List E):∀ {vs:List Value} {K:List C→R},zud vs K=some y→∃ l,All2 (CR σ) l vs∧K l=some y
 | [],K,h=>⟨[],trivial,h⟩
 | v::vs,K,h=>by
  obtain⟨c,h1,h2⟩:=zhV (K:=fun c=>zud vs fun r=>K (c::r)) h
  obtain⟨l,h3,h4⟩:=zpu σ (vs:=vs) (K:=fun r=>K (c::r)) h2
  exact⟨c::l,⟨C.ofV_s h1 σ,h3⟩,h4⟩
theorem ofV_s {v:Value} {K:V→R} {y:Out} (h:V.ofV v K=some y) (σ:List E) (nb:Nat):∃ x,(∃ w,(x = .c w∧CR σ w v∨∃ l cs,x = .ag l∧v = .agg cs∧All2 (CR σ) l cs.toList))∧VR σ nb x (zBU v)∧K x=some y:=by
 unfold V.ofV at h
 split at h
 ·rename_i cs
  obtain⟨l,h1,h2⟩:=zpu σ h
  exact⟨.ag l,⟨.ni,.inr ⟨l,cs,rfl,rfl,h1⟩⟩,⟨cs.toList.map .v,h1.map fun _ _ h=>CR.sc h,rfl⟩,h2⟩
 ·rename_i hv
  obtain⟨c,h1,h2⟩:=zhV h
  have h3:=C.ofV_s h1 σ
  refine⟨.c c,⟨c,.inl ⟨rfl,h3⟩⟩,.inl ⟨.v v,h3.sc,?_⟩,h2⟩
  cases v<;>first|rfl|exact absurd rfl (hv _)
section
variable {σ:List E} {s:S} {t:St} {y:Out} {nb:Nat}
theorem zD {x:Operand} {K:V→R} (h:ev s x K=some y) (hf:FR σ nb s t.fr) {k:SV→Prop} (hk:∀ v sv,v ≠ .dead→VR σ nb v sv→K v=some y→k sv):Vm.ev t x k:=by
 cases x with
 | tmp d=>
  obtain⟨v,h1,h2⟩:=zhV (K:=K) h
  obtain⟨h0,sv,h3,h4⟩:=hf d v h1
  show evO (lk t.fr d) k
  rw[h3]
  have h5:=hk v sv h0 h4 h2
  cases sv with
  | dead=>
   exfalso
   cases v with
   | c x=>rcases h4 with ⟨_,_,h⟩|⟨_,_,h⟩<;>cases h
   | ag l=>obtain⟨_,_,h⟩:=h4;cases h
   | fn g l=>rcases h4 with ⟨_,_,h⟩|⟨_,_,h⟩<;>cases h
   | tp l=>obtain⟨_,_,h⟩:=h4;cases h
   | sl j n=>cases h4.2
   | dead=>exact h0 rfl
  | _=>exact h5
 | const v=>
  obtain⟨x,⟨w,hx⟩,h1,h2⟩:=ofV_s (K:=K) h σ nb
  refine hk x _ ?_ h1 h2
  rintro rfl
  rcases hx with ⟨h,_⟩|⟨_,_,h,_⟩<;>cases h
 | func f=>exact hk (.c (.f f)) _ (by simp) (.inl ⟨.v (.func (.func f) #[] #[]),CR.sc (c := .f f) rfl,rfl⟩) h
 | global g=>cases h
end
end Go.Vm.Rn
