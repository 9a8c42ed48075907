/- Part of this proof;laid by program. -/
import Derived.Test.YtdogcflaekkdkaaGreatJ10
import Derived.Test.YtdogcflaekkdkaaGreatJ11
import Derived.Test.YtdogcflaekkdkaaGreatJ12
import Derived.Test.YtdogcflaekkdkaaGreatJ13
set_option linter.unusedVariables false
set_option linter.unusedSimpArgs false
namespace Go.Proofs.YtdogcflaekkdkaaGreat
open Go.Vm Go.Vm.Rn
set_option maxRecDepth 20000
def tab:T FC := .n (.n (.n (.n (.n (.n (.n (.n (.n (.e) (some ⟨3,zo3,zo4⟩) (.e)) (some ⟨3,zkn,zko⟩) (.e)) (some ⟨1,znV,znW⟩) (.n (.n (.e) (some ⟨50,zjE,zjF⟩) (.e)) (some ⟨2,zL,zM⟩) (.e))) (some ⟨71,znJ,znK⟩) (.n (.n (.n (.e) (some ⟨13,zdl,zdm⟩) (.e)) (some ⟨4,zgI,zgJ⟩) (.e)) (some ⟨2,zfg,zfh⟩) (.n (.e) (some ⟨5,zBl,zBm⟩) (.e)))) (some ⟨3,ze2,ze3⟩) (.n (.n (.n (.e) (some ⟨7,zpu,zpv⟩) (.e)) (some ⟨8,zhB,zhC⟩) (.n (.e) (some ⟨7,ztq,ztr⟩) (.e))) (some ⟨12,zdA,zdB⟩) (.n (.n (.n (.e) (some ⟨2,zo5,zo6⟩) (.e)) (some ⟨17,zz6,zz7⟩) (.e)) (some ⟨3,zgC,zgD⟩) (.n (.e) (some ⟨6,zkt,zku⟩) (.e))))) (some ⟨3,zzR,zzS⟩) (.n (.n (.n (.n (.n (.e) (some ⟨18,zBp,zBq⟩) (.e)) (some ⟨4,zev,zew⟩) (.e)) (some ⟨23,zkf,zkg⟩) (.n (.n (.e) (some ⟨12,zl4,zl5⟩) (.e)) (some ⟨5,zhL,zhM⟩) (.e))) (some ⟨11,zkd,zke⟩) (.n (.n (.n (.e) (some ⟨13,zeJ,zeK⟩) (.e)) (some ⟨10,ztm,ztn⟩) (.e)) (some ⟨5,zdO,zdP⟩) (.n (.e) (some ⟨11,zgW,zgX⟩) (.e)))) (some ⟨9,zuu,zuv⟩) (.n (.n (.n (.n (.e) (some ⟨13,zhS,zhT⟩) (.e)) (some ⟨8,zkr,zks⟩) (.e)) (some ⟨10,ziU,ziV⟩) (.n (.e) (some ⟨11,zju,zjv⟩) (.e))) (some ⟨41,zdC,zdD⟩) (.n (.n (.n (.e) (some ⟨12,zjY,zjZ⟩) (.e)) (some ⟨12,zn6,zn7⟩) (.e)) (some ⟨13,zkl,zkm⟩) (.n (.e) (some ⟨21,zar,zas⟩) (.e)))))) (some ⟨3,zrk,zrl⟩) (.n (.n (.n (.n (.n (.n (.e) (some ⟨3,zxX,zxY⟩) (.e)) (some ⟨6,zxL,zxM⟩) (.e)) (some ⟨3,zep,zeq⟩) (.n (.n (.e) (some ⟨11,zh1,zh2⟩) (.e)) (some ⟨12,zoH,zoI⟩) (.e))) (some ⟨91,ze8,ze9⟩) (.n (.n (.n (.e) (some ⟨13,zjW,zjX⟩) (.e)) (some ⟨9,zez,zeA⟩) (.e)) (some ⟨3,zr8,zr9⟩) (.n (.e) (some ⟨13,zgU,zgV⟩) (.e)))) (some ⟨5,zyy,zyz⟩) (.n (.n (.n (.n (.e) (some ⟨13,zih,zii⟩) (.e)) (some ⟨5,zbe,zbf⟩) (.e)) (some ⟨13,zgu,zgv⟩) (.n (.e) (some ⟨50,zk1,zk2⟩) (.e))) (some ⟨9,zgq,zgr⟩) (.n (.n (.n (.e) (some ⟨9,zBt,zBu⟩) (.e)) (some ⟨6,zpw,zpx⟩) (.e)) (some ⟨4,zb4,zb5⟩) (.n (.e) (some ⟨21,zaB,zaC⟩) (.e))))) (some ⟨8,ziI,ziJ⟩) (.n (.n (.n (.n (.n (.e) (some ⟨9,zxZ,zx0⟩) (.e)) (some ⟨1,zfo,zfp⟩) (.e)) (some ⟨30,zdG,zdH⟩) (.n (.n (.e) (some ⟨7,zh3,zh4⟩) (.e)) (some ⟨4,zi4,zi5⟩) (.e))) (some ⟨24,zgk,zgl⟩) (.n (.n (.n (.e) (some ⟨9,zwo,zwp⟩) (.e)) (some ⟨9,zgO,zgP⟩) (.e)) (some ⟨6,zqC,zqD⟩) (.n (.e) (some ⟨10,zAa,zAb⟩) (.e)))) (some ⟨7,zpk,zpl⟩) (.n (.n (.n (.n (.e) (some ⟨13,zij,zik⟩) (.e)) (some ⟨7,zmO,zmP⟩) (.e)) (some ⟨5,zlF,zlG⟩) (.n (.e) (some ⟨9,zxR,zxS⟩) (.e))) (some ⟨25,zlD,zlE⟩) (.n (.n (.n (.e) (some ⟨9,zlS,zlT⟩) (.e)) (some ⟨5,zrA,zrB⟩) (.e)) (some ⟨14,zer,zes⟩) (.n (.e) (some ⟨3,zkv,zkw⟩) (.e))))))) (none) (.n (.n (.n (.n (.n (.n (.n (.e) (some ⟨7,zjw,zjx⟩) (.e)) (some ⟨17,zkp,zkq⟩) (.e)) (some ⟨6,zdE,zdF⟩) (.n (.n (.e) (some ⟨11,zeX,zeY⟩) (.e)) (some ⟨2,zaa,zab⟩) (.e))) (some ⟨3,ze6,ze7⟩) (.n (.n (.n (.e) (some ⟨14,zhU,zhV⟩) (.e)) (some ⟨6,zgK,zgL⟩) (.e)) (some ⟨6,zqA,zqB⟩) (.n (.e) (some ⟨25,zpA,zpB⟩) (.e)))) (some ⟨6,ze4,ze5⟩) (.n (.n (.n (.n (.e) (some ⟨10,z1,z2⟩) (.e)) (some ⟨58,zmM,zmN⟩) (.e)) (some ⟨4,ziS,ziT⟩) (.n (.e) (some ⟨11,zmo,zmp⟩) (.e))) (some ⟨5,zgo,zgp⟩) (.n (.n (.n (.e) (some ⟨9,zhY,zhZ⟩) (.e)) (some ⟨6,zlL,zlM⟩) (.e)) (some ⟨52,zb2,zb3⟩) (.n (.e) (some ⟨10,zaJ,zaK⟩) (.e))))) (some ⟨12,zlB,zlC⟩) (.n (.n (.n (.n (.n (.e) (some ⟨4,zwi,zwj⟩) (.e)) (some ⟨5,zfk,zfl⟩) (.e)) (some ⟨5,zBb,zBc⟩) (.n (.n (.e) (some ⟨12,zld,zle⟩) (.e)) (some ⟨77,zcZ,zc0⟩) (.e))) (some ⟨4,ziK,ziL⟩) (.n (.n (.n (.e) (some ⟨14,zjA,zjB⟩) (.e)) (some ⟨7,zyR,zyS⟩) (.e)) (some ⟨5,zxG,zxH⟩) (.n (.e) (some ⟨5,zwg,zwh⟩) (.e)))) (some ⟨3,zv2,zv3⟩) (.n (.n (.n (.n (.e) (some ⟨5,zwm,zwn⟩) (.e)) (some ⟨3,zhF,zhG⟩) (.e)) (some ⟨10,zuD,zuE⟩) (.n (.e) (some ⟨3,zuR,zuS⟩) (.e))) (some ⟨4,znR,znS⟩) (.n (.n (.n (.e) (some ⟨13,zk9,zla⟩) (.e)) (some ⟨8,zi2,zi3⟩) (.e)) (some ⟨4,ziW,ziX⟩) (.n (.e) (some ⟨7,zdY,zdZ⟩) (.e)))))) (some ⟨5,zxv,zxw⟩) (.n (.n (.n (.n (.n (.n (.e) (some ⟨8,zlQ,zlR⟩) (.e)) (some ⟨29,zet,zeu⟩) (.e)) (some ⟨66,zfc,zfd⟩) (.n (.n (.e) (some ⟨6,zx1,zx2⟩) (.e)) (some ⟨3,zmS,zmT⟩) (.e))) (some ⟨3,zbD,zbE⟩) (.n (.n (.n (.e) (some ⟨56,zil,zim⟩) (.e)) (some ⟨7,ztk,ztl⟩) (.e)) (some ⟨26,zpq,zpr⟩) (.n (.e) (some ⟨12,zfy,zfz⟩) (.e)))) (some ⟨63,zgi,zgj⟩) (.n (.n (.n (.n (.e) (some ⟨10,zja,zjb⟩) (.e)) (some ⟨5,zp1,zp2⟩) (.e)) (some ⟨42,zpo,zpp⟩) (.n (.e) (some ⟨11,zgS,zgT⟩) (.e))) (some ⟨7,znN,znO⟩) (.n (.n (.n (.e) (some ⟨9,zfP,zfQ⟩) (.e)) (some ⟨7,zlN,zlO⟩) (.e)) (some ⟨5,zn0,zn1⟩) (.n (.e) (some ⟨3,zCC,zCD⟩) (.e))))) (some ⟨6,zgg,zgh⟩) (.n (.n (.n (.n (.n (.e) (some ⟨4,zbv,zbw⟩) (.e)) (some ⟨5,zuK,zuL⟩) (.e)) (some ⟨4,ziQ,ziR⟩) (.n (.n (.e) (some ⟨3,zty,ztz⟩) (.e)) (some ⟨5,zn8,zn9⟩) (.e))) (some ⟨7,zfa,zfb⟩) (.n (.n (.n (.e) (some ⟨19,zaD,zaE⟩) (.e)) (some ⟨96,zBh,zBi⟩) (.e)) (some ⟨3,zkj,zkk⟩) (.n (.e) (some ⟨13,zi6,zi7⟩) (.e)))) (some ⟨7,zyA,zyB⟩) (.n (.n (.n (.n (.e) (some ⟨56,zg6,zg7⟩) (.e)) (some ⟨5,zmQ,zmR⟩) (.e)) (some ⟨1,zcv,zcw⟩) (.n (.e) (some ⟨6,zc1,zc2⟩) (.e))) (some ⟨4,zpm,zpn⟩) (.n (.n (.n (.e) (some ⟨11,zlb,zlc⟩) (.e)) (some ⟨17,zpy,zpz⟩) (.e)) (some ⟨25,zhD,zhE⟩) (.n (.e) (some ⟨7,zkx,zky⟩) (.e)))))))) (none) (.n (.n (.n (.n (.n (.n (.n (.n (.e) (some ⟨3,zp9,zqa⟩) (.e)) (some ⟨10,zn2,zn3⟩) (.e)) (some ⟨3,zbF,zbG⟩) (.n (.n (.e) (some ⟨8,zjc,zjd⟩) (.e)) (some ⟨5,zrC,zrD⟩) (.e))) (some ⟨6,zkb,zkc⟩) (.n (.n (.n (.e) (some ⟨13,zfN,zfO⟩) (.e)) (some ⟨5,zbg,zbh⟩) (.e)) (some ⟨1,zv8,zv9⟩) (.n (.e) (some ⟨10,zDP,zDQ⟩) (.e)))) (some ⟨66,zdu,zdv⟩) (.n (.n (.n (.n (.e) (some ⟨2,zoK,zoL⟩) (.e)) (some ⟨9,zmK,zmL⟩) (.e)) (some ⟨5,zfe,zff⟩) (.n (.e) (some ⟨8,zak,zal⟩) (.e))) (some ⟨10,zgm,zgn⟩) (.n (.n (.n (.e) (some ⟨12,zk7,zk8⟩) (.e)) (some ⟨1,zcB,zcC⟩) (.e)) (some ⟨3,zbH,zbI⟩) (.n (.e) (some ⟨13,zxV,zxW⟩) (.e))))) (some ⟨6,zj7,zj8⟩) (.n (.n (.n (.n (.n (.e) (some ⟨41,zBr,zBs⟩) (.e)) (some ⟨7,zex,zey⟩) (.e)) (some ⟨4,zkh,zki⟩) (.n (.n (.e) (some ⟨12,zjG,zjH⟩) (.e)) (some ⟨1,zp6,zp7⟩) (.e))) (some ⟨6,zdy,zdz⟩) (.n (.n (.n (.e) (some ⟨13,zg9,zha⟩) (.e)) (some ⟨4,zyP,zyQ⟩) (.e)) (some ⟨46,zdQ,zdR⟩) (.n (.e) (some ⟨16,zeH,zeI⟩) (.e)))) (some ⟨5,zv0,zv1⟩) (.n (.n (.n (.n (.e) (some ⟨14,zkK,zkL⟩) (.e)) (some ⟨19,za0,za1⟩) (.e)) (some ⟨5,zbc,zbd⟩) (.n (.e) (some ⟨12,zl0,zl1⟩) (.e))) (some ⟨5,znP,znQ⟩) (.n (.n (.n (.e) (some ⟨9,zhb,zhc⟩) (.e)) (some ⟨5,zgQ,zgR⟩) (.e)) (some ⟨11,zgE,zgF⟩) (.n (.e) (some ⟨7,zuV,zuW⟩) (.e)))))) (some ⟨13,zvY,zvZ⟩) (.n (.n (.n (.n (.n (.n (.e) (some ⟨5,zoc,zod⟩) (.e)) (some ⟨3,zzZ,zz0⟩) (.e)) (some ⟨14,zgs,zgt⟩) (.n (.n (.e) (some ⟨12,zkM,zkN⟩) (.e)) (some ⟨11,zhJ,zhK⟩) (.e))) (some ⟨7,zA9,zBa⟩) (.n (.n (.n (.e) (some ⟨13,zhn,zho⟩) (.e)) (some ⟨14,zcz,zcA⟩) (.e)) (some ⟨3,zcx,zcy⟩) (.n (.e) (some ⟨3,zdW,zdX⟩) (.e)))) (some ⟨3,zxy,zxz⟩) (.n (.n (.n (.n (.e) (some ⟨56,zjy,zjz⟩) (.e)) (some ⟨6,zpZ,zp0⟩) (.e)) (some ⟨4,zgw,zgx⟩) (.n (.e) (some ⟨8,zkI,zkJ⟩) (.e))) (some ⟨21,zcr,zcs⟩) (.n (.n (.n (.e) (some ⟨12,zin,zio⟩) (.e)) (some ⟨3,zhH,zhI⟩) (.e)) (some ⟨4,zlH,zlI⟩) (.n (.e) (some ⟨12,zoa,zob⟩) (.e))))) (some ⟨11,zen,zeo⟩) (.n (.n (.n (.n (.n (.e) (some ⟨4,zwk,zwl⟩) (.e)) (some ⟨52,zfq,zfr⟩) (.e)) (some ⟨2,zdI,zdJ⟩) (.n (.n (.e) (some ⟨11,zl6,zl7⟩) (.e)) (some ⟨3,zmU,zmV⟩) (.e))) (some ⟨6,zhv,zhw⟩) (.n (.n (.n (.e) (some ⟨10,znq,znr⟩) (.e)) (some ⟨105,zDJ,zDK⟩) (.e)) (some ⟨9,zpX,zpY⟩) (.n (.e) (some ⟨21,zCz,zCA⟩) (.e)))) (some ⟨6,zCj,zCk⟩) (.n (.n (.n (.n (.e) (some ⟨13,zfS,zfT⟩) (.e)) (some ⟨5,zlJ,zlK⟩) (.e)) (some ⟨12,zcV,zcW⟩) (.n (.e) (some ⟨3,zeF,zeG⟩) (.e))) (some ⟨17,ziO,ziP⟩) (.n (.n (.n (.e) (some ⟨8,z5,z6⟩) (.e)) (some ⟨5,zDM,zDN⟩) (.e)) (some ⟨3,zb6,zb7⟩) (.n (.e) (some ⟨4,zbL,zbM⟩) (.e))))))) (none) (.n (.n (.n (.n (.n (.n (.n (.e) (some ⟨11,zno,znp⟩) (.e)) (some ⟨3,zps,zpt⟩) (.e)) (some ⟨13,zct,zcu⟩) (.n (.n (.e) (some ⟨5,zuX,zuY⟩) (.e)) (some ⟨5,zto,ztp⟩) (.e))) (some ⟨11,zbp,zbq⟩) (.n (.n (.n (.e) (some ⟨10,zS,zT⟩) (.e)) (some ⟨89,zDH,zDI⟩) (.e)) (some ⟨4,zgy,zgz⟩) (.n (.e) (some ⟨16,zfw,zfx⟩) (.e)))) (some ⟨4,zcp,zcq⟩) (.n (.n (.n (.n (.e) (some ⟨13,zk4,zk5⟩) (.e)) (some ⟨5,zb8,zb9⟩) (.e)) (some ⟨2,zyI,zyJ⟩) (.n (.e) (some ⟨11,zjT,zjU⟩) (.e))) (some ⟨12,zhx,zhy⟩) (.n (.n (.n (.e) (some ⟨13,zl2,zl3⟩) (.e)) (some ⟨6,ziY,ziZ⟩) (.e)) (some ⟨37,zbt,zbu⟩) (.e)))) (some ⟨1,zj9,zka⟩) (.n (.n (.n (.n (.n (.e) (some ⟨6,zAd,zAe⟩) (.e)) (some ⟨1,zfm,zfn⟩) (.e)) (some ⟨6,zzV,zzW⟩) (.n (.n (.e) (some ⟨10,zlf,zlg⟩) (.e)) (some ⟨3,zeB,zeC⟩) (.e))) (some ⟨3,zbr,zbs⟩) (.n (.n (.n (.e) (some ⟨12,zc3,zc4⟩) (.e)) (some ⟨31,zbJ,zbK⟩) (.e)) (some ⟨5,zb0,zb1⟩) (.n (.e) (some ⟨7,zBn,zBo⟩) (.e)))) (some ⟨7,zmI,zmJ⟩) (.n (.n (.n (.n (.e) (some ⟨10,zN,zO⟩) (.e)) (some ⟨5,zz3,zz4⟩) (.e)) (some ⟨30,zdM,zdN⟩) (.n (.e) (some ⟨3,zfu,zfv⟩) (.e))) (some ⟨5,zyE,zyF⟩) (.n (.n (.n (.e) (some ⟨7,zAh,zAi⟩) (.e)) (some ⟨2,zav,zaw⟩) (.e)) (some ⟨18,zdU,zdV⟩) (.n (.e) (some ⟨7,zcF,zcG⟩) (.e)))))) (some ⟨5,zlz,zlA⟩) (.n (.n (.n (.n (.n (.n (.e) (some ⟨1,za2,za3⟩) (.e)) (some ⟨13,zgG,zgH⟩) (.e)) (some ⟨4,zhz,zhA⟩) (.n (.n (.e) (some ⟨9,zyY,zyZ⟩) (.e)) (some ⟨4,zcD,zcE⟩) (.e))) (some ⟨16,zdw,zdx⟩) (.n (.n (.n (.e) (some ⟨10,zhW,zhX⟩) (.e)) (some ⟨7,zgM,zgN⟩) (.e)) (some ⟨6,zgA,zgB⟩) (.n (.e) (some ⟨8,zfA,zfB⟩) (.e)))) (some ⟨5,zr5,zr6⟩) (.n (.n (.n (.n (.e) (some ⟨13,zeV,zeW⟩) (.e)) (some ⟨6,zz1,zz2⟩) (.e)) (some ⟨11,zdK,zdL⟩) (.n (.e) (some ⟨5,zyT,zyU⟩) (.e))) (some ⟨7,zs9,zta⟩) (.n (.n (.n (.e) (some ⟨13,zjC,zjD⟩) (.e)) (some ⟨5,zi0,zi1⟩) (.e)) (some ⟨9,zfi,zfj⟩) (.n (.e) (some ⟨21,zac,zad⟩) (.e))))) (some ⟨10,zA6,zA7⟩) (.n (.n (.n (.n (.n (.e) (some ⟨3,ztw,ztx⟩) (.e)) (some ⟨4,zfs,zft⟩) (.e)) (some ⟨41,znX,znY⟩) (.n (.n (.e) (some ⟨10,zl8,zl9⟩) (.e)) (some ⟨5,zeD,zeE⟩) (.e))) (some ⟨3,ziM,ziN⟩) (.n (.n (.n (.e) (some ⟨3,zAf,zAg⟩) (.e)) (some ⟨12,zn4,zn5⟩) (.e)) (some ⟨8,zdS,zdT⟩) (.n (.e) (some ⟨5,zi8,zi9⟩) (.e)))) (some ⟨4,znH,znI⟩) (.n (.n (.n (.n (.e) (some ⟨10,zgY,zgZ⟩) (.e)) (some ⟨5,zcX,zcY⟩) (.e)) (some ⟨4,zqy,zqz⟩) (.n (.e) (some ⟨9,zca,zcb⟩) (.e))) (some ⟨15,znT,znU⟩) (.n (.n (.n (.e) (some ⟨11,ziq,zir⟩) (.e)) (some ⟨4,zCw,zCx⟩) (.e)) (some ⟨6,zxJ,zxK⟩) (.n (.e) (some ⟨10,zmq,zmr⟩) (.e))))))))
end Go.Proofs.YtdogcflaekkdkaaGreat
namespace Go.Vm.Rn
open Go.Vm
def All2 {α β:Type} (Q:α→β→Prop):List α→List β→Prop
 | [],[]=>True
 | a::l,b::r=>Q a b∧All2 Q l r
 | _,_=>False
namespace All2
variable {α β γ:Type} {Q Q':α→β→Prop}
theorem len:∀ {l:List α} {r:List β},All2 Q l r→l.length=r.length
 | [],[],_=>rfl
 | _::_,_::_,h=>congrArg (· + 1) (len h.2)
 | [],_::_,h=>h.elim
 | _::_,[],h=>h.elim
theorem imp (hq:∀ a b,Q a b→Q' a b):∀ {l:List α} {r:List β},All2 Q l r→All2 Q' l r
 | [],[],_=>trivial
 | _::_,_::_,h=>⟨hq _ _ h.1,imp hq h.2⟩
 | [],_::_,h=>h.elim
 | _::_,[],h=>h.elim
theorem drop:∀ (n:Nat) {l:List α} {r:List β},All2 Q l r→All2 Q (l.drop n) (r.drop n)
 | 0,_,_,h=>h
 | _+1,[],[],_=>trivial
 | n+1,_::_,_::_,h=>drop n h.2
 | _+1,[],_::_,h=>h.elim
 | _+1,_::_,[],h=>h.elim
theorem take:∀ (n:Nat) {l:List α} {r:List β},All2 Q l r→All2 Q (l.take n) (r.take n)
 | 0,_,_,_=>by simp[All2]
 | _+1,[],[],_=>trivial
 | n+1,_::_,_::_,h=>⟨h.1,take n h.2⟩
 | _+1,[],_::_,h=>h.elim
 | _+1,_::_,[],h=>h.elim
theorem append:∀ {l l':List α} {r r':List β},All2 Q l r→All2 Q l' r'→All2 Q (l++l') (r++r')
 | [],_,[],_,_,h=>h
 | _::_,_,_::_,_,h,h'=>⟨h.1,append h.2 h'⟩
 | [],_,_::_,_,h,_=>h.elim
 | _::_,_,[],_,h,_=>h.elim
theorem at_:∀ {l:List α} {r:List β},All2 Q l r→∀ {k:Nat} {a:α},l[k]? = some a→∃ b,r[k]? = some b∧Q a b
 | _::_,_::_,h,0,a,ha=>⟨_,rfl,by simp at ha;subst ha;exact h.1⟩
 | _::_,_::_,h,k+1,a,ha=>by simpa using at_ h.2 (k:=k) (a:=a) (by simpa using ha)
 | [],[],_,_,_,ha=>by simp at ha
 | [],_::_,h,_,_,_=>h.elim
 | _::_,[],h,_,_,_=>h.elim
theorem set:∀ {l:List α} {r:List β},All2 Q l r→∀ {k:Nat} {a:α} {b:β},Q a b→All2 Q (l.set k a) (r.set k b)
 | [],[],_,_,_,_,_=>trivial
 | _::_,_::_,h,0,_,_,hq=>⟨hq,h.2⟩
 | _::_,_::_,h,_+1,_,_,hq=>⟨h.1,set h.2 hq⟩
 | [],_::_,h,_,_,_,_=>h.elim
 | _::_,[],h,_,_,_,_=>h.elim
theorem map {f:β→γ} {Q'':α→γ→Prop} (hf:∀ a b,Q a b→Q'' a (f b)):∀ {l:List α} {r:List β},All2 Q l r→All2 Q'' l (r.map f)
 | [],[],_=>trivial
 | _::_,_::_,h=>⟨hf _ _ h.1,map hf h.2⟩
 | [],_::_,h=>h.elim
 | _::_,[],h=>h.elim
theorem fn (hq:∀ a b b',Q a b→Q a b'→b=b'):∀ {l:List α} {r r':List β},All2 Q l r→All2 Q l r'→r=r'
 | [],[],[],_,_=>rfl
 | _::_,_::_,_::_,h,h'=>by rw[hq _ _ _ h.1 h'.1,fn hq h.2 h'.2]
 | [],_::_,_,h,_=>h.elim
 | [],[],_::_,_,h=>h.elim
 | _::_,[],_,h,_=>h.elim
 | _::_,_::_,[],_,h=>h.elim
end All2
theorem zn {b:Bool} {t:R} {y:Out} (h:cB b t fail=some y):b=true∧t=some y:=by cases b<;>simp_all [cB,fail]
theorem zit {α:Type} {x:Option α} {K:α→R} {y:Out} (h:oV x K=some y):∃ v,x=some v∧K v=some y:=by cases x<;>simp_all [oV,fail]
theorem fN_eq (k:Nat→R) (n:Nat):fN k n=k n:=by cases n<;>rfl
theorem zLc (k:Int→R) (n:Int):fI k n=k n:=by cases n<;>simp only[fI,fN_eq]
theorem zqb {b:Bool} {K:V→R}:kB b K=K (.c (.t b)):=by cases b<;>rfl
theorem zbb {α:Type} (l:List α) (K:Nat→R):zdn l K=K l.length:=by
 unfold zdn;rw[fN_eq];congr 1
 induction l with
 | nil=>rfl
 | cons a r ih=>simp only[List.length_cons,←ih]
theorem zkU {α:Type}:∀ (l r:List α) (K:List α→R),appK l r K=K (l++r)
 | [],_,_=>rfl
 | a::l,r,K=>zkU l r fun r'=>K (a::r')
theorem zt0 {α:Type} (l:List α):∀ (n:Nat) (K:List α→R),zwq l n K=K (List.replicate n l).flatten
 | 0,_=>rfl
 | n+1,K=>by
  have h:zwq l (n+1) K=zwq l n fun r=>appK l r K:=rfl
  rw[h,zt0 l n,zkU];rfl
theorem zy3 {α:Type} {y:Out}:∀ {n:Nat} {l:List α} {K:List α→R},zDS n l K=some y→n≤l.length∧K (l.drop n)=some y
 | 0,_,_,h=>⟨Nat.zero_le _,h⟩
 | _+1,[],_,h=>by cases h
 | n+1,_::l,K,h=>by
  obtain⟨h1,h2⟩:=zy3 (n:=n) (l:=l) (K:=K) h
  exact⟨Nat.succ_le_succ h1,h2⟩
theorem zqI {α:Type} {y:Out}:∀ {n:Nat} {l:List α} {K:List α→R},zog n l K=some y→n≤l.length∧K (l.take n)=some y
 | 0,_,_,h=>⟨Nat.zero_le _,h⟩
 | _+1,[],_,h=>by cases h
 | n+1,a::l,K,h=>by
  obtain⟨h1,h2⟩:=zqI (n:=n) (l:=l) (K:=fun r=>K (a::r)) h
  exact⟨Nat.succ_le_succ h1,h2⟩
theorem zC0 {α:Type} {y:Out}:∀ {vs l:List α} {K:List α→R},zIw vs l K=some y→vs.length≤l.length∧K (vs++l.drop vs.length)=some y
 | [],_,_,h=>⟨Nat.zero_le _,h⟩
 | _::_,[],_,h=>by cases h
 | v::vs,a::l,K,h=>by
  obtain⟨h1,h2⟩:=zC0 (vs:=vs) (l:=l) (K:=fun r=>K (v::r)) h
  exact⟨Nat.succ_le_succ h1,h2⟩
theorem ztE {α:Type} {y:Out}:∀ {o:Nat} {l vs:List α} {K:List α→R},zy0 o l vs K=some y→o+vs.length≤l.length∧K (splice l o vs)=some y
 | 0,l,vs,K,h=>by
  obtain⟨h1,h2⟩:=zC0 (vs:=vs) (l:=l) (K:=K) h
  exact⟨by omega,by simpa[splice] using h2⟩
 | _+1,[],_,_,h=>by cases h
 | o+1,a::l,vs,K,h=>by
  obtain⟨h1,h2⟩:=ztE (o:=o) (l:=l) (vs:=vs) (K:=fun r=>K (a::r)) h
  refine⟨by simp only[List.length_cons];omega,?_⟩
  have e:splice (a::l) (o+1) vs=a::splice l o vs:=by simp[splice,Nat.add_right_comm o 1]
  rw[e];exact h2
theorem zqJ {α:Type} {y:Out}:∀ {l:List α} {k:Nat} {K:α→R},ztA l k K=some y→∃ a,l[k]? = some a∧K a=some y
 | [],_,_,h=>by cases h
 | a::_,0,_,h=>⟨a,rfl,h⟩
 | _::l,k+1,K,h=>by simpa using zqJ (l:=l) (k:=k) (K:=K) h
theorem zBG {α:Type} {y:Out}:∀ {l:List α} {k:Nat} {x:α} {K:List α→R},setK l k x K=some y→k<l.length∧K (l.set k x)=some y
 | [],_,_,_,h=>by cases h
 | _::l,0,_,_,h=>⟨by simp,h⟩
 | a::l,k+1,x,K,h=>by
  obtain⟨h1,h2⟩:=zBG (l:=l) (k:=k) (x:=x) (K:=fun r=>K (a::r)) h
  exact⟨by simp only[List.length_cons];omega,h2⟩
theorem zF5 {α:Type} {y:Out}:∀ {l:List α} {k:Nat} {K:List α→R},zG9 l k K=some y→k<l.length∧K (l.eraseIdx k)=some y
 | [],_,_,h=>by cases h
 | _::l,0,_,h=>⟨by simp,h⟩
 | a::l,k+1,K,h=>by
  obtain⟨h1,h2⟩:=zF5 (l:=l) (k:=k) (K:=fun r=>K (a::r)) h
  exact⟨by simp only[List.length_cons];omega,h2⟩
theorem zqK {cs:List C} {o n:Nat} {K:List C→R} {y:Out} (h:takeC cs o n K=some y):o+n≤cs.length∧K ((cs.drop o).take n)=some y:=by
 obtain⟨h1,h2⟩:=zy3 h
 obtain⟨h3,h4⟩:=zqI h2
 rw[List.length_drop] at h3
 exact⟨by omega,h4⟩
namespace T
variable {α:Type}
theorem get_1 (l r:T α) (v:Option α) (m:Nat):(T.n l v r).get (m+1)=if Nat.beq (m % 2) 1 then r.get (m / 2) else l.get (m / 2):=by
 show (Bool.rec (l.get (m / 2)) (r.get (m / 2)) (Nat.beq (m % 2) 1):Option α)=_
 cases Nat.beq (m % 2) 1<;>rfl
noncomputable def put (t:T α) (k:Nat) (x:Option α):T α:=t.set k x id
theorem set_put {ρ:Type}:∀ (t:T α) (k:Nat) (x:Option α) (K:T α→ρ),t.set k x K=K (t.put k x)
 | .e,_,_,_=>rfl
 | .n _ _ _,0,_,_=>rfl
 | .n l v r,m+1,x,K=>by
  unfold put
  show (Bool.rec (l.set (m / 2) x fun l'=>K (.n l' v r)) (r.set (m / 2) x fun r'=>K (.n l v r')) (Nat.beq (m % 2) 1):ρ)=K (Bool.rec (motive:=fun _=>T α) (l.set (m / 2) x fun l'=>id (.n l' v r)) (r.set (m / 2) x fun r'=>id (.n l v r')) (Nat.beq (m % 2) 1))
  cases Nat.beq (m % 2) 1
  ·show l.set (m / 2) x _=K (l.set (m / 2) x _)
   rw[set_put l,set_put l];rfl
  ·show r.set (m / 2) x _=K (r.set (m / 2) x _)
   rw[set_put r,set_put r];rfl
theorem zIC (l r:T α) (v:Option α) (m:Nat) (x:Option α):(T.n l v r).put (m+1) x=if Nat.beq (m % 2) 1 then .n l v (r.put (m / 2) x) else .n (l.put (m / 2) x) v r:=by
 unfold put
 show (Bool.rec (l.set (m / 2) x fun l'=>id (.n l' v r)) (r.set (m / 2) x fun r'=>id (.n l v r')) (Nat.beq (m % 2) 1):T α)=_
 cases Nat.beq (m % 2) 1
 ·show l.set (m / 2) x _=_
  rw[set_put l];rfl
 ·show r.set (m / 2) x _=_
  rw[set_put r];rfl
theorem zy4:∀ {f k j:Nat} {x:Option α} {y:α},(T.one f k x).get j=some y→j=k∧x=some y
 | 0,_,_,_,_,h=>by cases h
 | _+1,0,0,x,y,h=>⟨rfl,h⟩
 | _+1,0,j+1,x,y,h=>by
  have e:∀ f,(T.one (f+1) 0 x:T α) = .n .e x .e:=fun _=>rfl
  rw[e,get_1] at h
  split at h<;>cases h
 | f+1,m+1,j,x,y,h=>by
  have e:(T.one (f+1) (m+1) x:T α)=Bool.rec (.n (T.one f (m / 2) x) none .e) (.n .e none (T.one f (m / 2) x)) (Nat.beq (m % 2) 1):=rfl
  rw[e] at h
  cases hm:Nat.beq (m % 2) 1 with
  | true=>
   rw[hm] at h
   have hm':m % 2=1:=Nat.eq_of_beq_eq_true hm
   cases j with
   | zero=>cases h
   | succ j=>
    replace h:(T.n .e none (T.one f (m / 2) x):T α).get (j+1)=some y:=h
    rw[get_1] at h
    split at h
    ·rename_i hj
     have hj':j % 2=1:=Nat.eq_of_beq_eq_true hj
     obtain⟨h1,h2⟩:=zy4 h
     exact⟨by omega,h2⟩
    ·cases h
  | false=>
   rw[hm] at h
   have hm':m % 2≠1:=fun e=>by rw[e] at hm;cases hm
   cases j with
   | zero=>cases h
   | succ j=>
    replace h:(T.n (T.one f (m / 2) x) none .e:T α).get (j+1)=some y:=h
    rw[get_1] at h
    split at h
    ·cases h
    ·rename_i hj
     have hj':j % 2≠1:=fun e=>by rw[e] at hj;exact hj rfl
     obtain⟨h1,h2⟩:=zy4 h
     exact⟨by omega,h2⟩
theorem get_put:∀ {t:T α} {k j:Nat} {x:Option α} {y:α},(t.put k x).get j=some y→(j=k∧x=some y)∨(j≠k∧t.get j=some y)
 | .e,k,j,x,y,h => .inl (zy4 (f:=40) (show (T.one 40 k x).get j=some y from h))
 | .n _ _ _,0,0,x,y,h => .inl ⟨rfl,h⟩
 | .n l v r,0,j+1,x,y,h=>by
  have e:(T.n l v r).put 0 x = .n l x r:=rfl
  rw[e,get_1] at h
  exact .inr ⟨by omega,by rw[get_1];exact h⟩
 | .n l v r,m+1,0,x,y,h=>by
  rw[zIC] at h
  refine .inr ⟨by omega,?_⟩
  split at h<;>exact h
 | .n l v r,m+1,j+1,x,y,h=>by
  rw[zIC] at h
  rw[get_1]
  cases hm:Nat.beq (m % 2) 1<;>cases hj:Nat.beq (j % 2) 1<;>simp only[hm,Bool.false_eq_true,if_false,if_true] at h<;>rw[get_1,hj] at h<;>simp only[Bool.false_eq_true,if_false,if_true] at h ⊢
  ·have hm':m % 2≠1:=fun e=>by rw[e] at hm;cases hm
   have hj':j % 2≠1:=fun e=>by rw[e] at hj;cases hj
   rcases get_put h with ⟨h1,h2⟩|⟨h1,h2⟩
   ·exact .inl ⟨by omega,h2⟩
   ·exact .inr ⟨by omega,h2⟩
  ·have hm':m % 2≠1:=fun e=>by rw[e] at hm;cases hm
   have hj':j % 2=1:=Nat.eq_of_beq_eq_true hj
   exact .inr ⟨by omega,h⟩
  ·have hj':j % 2≠1:=fun e=>by rw[e] at hj;cases hj
   have hm':m % 2=1:=Nat.eq_of_beq_eq_true hm
   exact .inr ⟨by omega,h⟩
  ·have hm':m % 2=1:=Nat.eq_of_beq_eq_true hm
   have hj':j % 2=1:=Nat.eq_of_beq_eq_true hj
   rcases get_put h with ⟨h1,h2⟩|⟨h1,h2⟩
   ·exact .inl ⟨by omega,h2⟩
   ·exact .inr ⟨by omega,h2⟩
end T
structure E where
 addr:Nat
 cap:Nat
 nil:Bool
 sp:List Value
def zI (l:List Nat):ByteArray:=⟨(l.map UInt8.ofNat).toArray⟩
def C.val (σ:List E):C→Option Value
 | .n q x=>some (.int q x)
 | .t x=>some (.bool x)
 | .s x=>some (.string (zI x))
 | .p a o=>(σ[a]?).map fun e => .pointer (some ⟨e.addr,o,none⟩)
 | .np=>some (.pointer none)
 | .l a o x y=>(σ[a]?).map fun e => .slice (some ⟨e.addr,o,none⟩) x y
 | .g a o d x=>(σ[a]?).bind fun e=>if e.nil=true then (if x=0∧o=0∧d=0 then some (.slice none 0 0) else none) else (if d+x≤e.cap then some (.slice (some ⟨e.addr,o,none⟩) x (e.cap - d)) else none)
 | .nl=>some (.slice none 0 0)
 | .m a=>(σ[a]?).map fun e => .map (some e.addr)
 | .nm=>some (.map none)
 | .b _ _=>none
 | .f x=>some (.func (.func x) #[] #[])
 | .fm x a o=>(σ[a]?).map fun e => .func (.func x) #[.pointer (some ⟨e.addr,o,none⟩)] #[]
 | .h a o d k z w=>(σ[a]?).bind fun e=>if e.nil=false∧d+k≤e.cap then some (.slice (zat (some ⟨e.addr,o,none⟩) k (e.cap - d) z) 0 (if w then 0 else e.cap - d - k)) else none
 | .ni=>some .nilIface
 | .nf=>some .nilFunc
def CR (σ:List E) (c:C) (v:Value):Prop:=c.val σ=some v
def SCR (σ:List E) (nb:Nat) (c:C) (x:SC):Prop:=match c with | .b j o=>j<nb∧x = .bx j o|c=>∃ v,c.val σ=some v∧x = .v v
def WR (σ:List E) (w:W) (v:Value):Prop:=match w with | .c x=>CR σ x v | .ag l=>∃ vs,All2 (CR σ) l vs∧v = .agg vs.toArray | .fn g l=>∃ vs,All2 (CR σ) l vs∧v = .func (.func g) #[] vs.toArray
def VR (σ:List E) (nb:Nat) (v:V) (sv:SV):Prop:=
 match v with
 | .c x=>(∃ sc,SCR σ nb x sc∧sv = .c sc)∨(∃ b,x = .t b∧sv = .sb b)
 | .ag l=>∃ cs,All2 (SCR σ nb) l cs∧sv = .ag cs
 | .fn g l=>(∃ cs,All2 (SCR σ nb) l cs∧sv = .fn g cs)∨(∃ vs,All2 (CR σ) l vs∧sv = .c (.v (.func (.func g) #[] vs.toArray)))
 | .tp l=>∃ vs,All2 (WR σ) l vs∧sv = .c (.v (.tuple vs.toArray))
 | .sl j n=>j<nb∧sv = .sl j n
 | .dead=>sv = .dead
def OVR (σ:List E) (v:V) (x:Value):Prop:=match v with | .c c=>CR σ c x | .ag l=>WR σ (.ag l) x | .fn g l=>WR σ (.fn g l) x | .tp l=>∃ vs,All2 (WR σ) l vs∧x = .tuple vs.toArray|_=>False
def EnR (σ:List E) (e:En) (m:MapEntry):Prop:=WR σ e.key m.key∧WR σ e.val m.val∧m.born=e.born
def mR (σ:List E) (m:Option Nat) (x:Option Nat):Prop:=match m with|none=>x=none|some a=>∃ e,σ[a]? = some e∧x=some e.addr
def OR (σ:List E) (e:E) (o:O) (M:Mem):Prop:=
 match o with
 | .row T l=>e.nil=false∧∃ vs,All2 (CR σ) l vs∧M e.addr=some (.cells vs.toArray T (0,0))
 | .ro T l=>e.nil=false∧∃ vs,All2 (CR σ) l vs∧M e.addr=some (.cells vs.toArray T (vs.length,vs.length+1))
 | .gr T z l=>∃ vs,All2 (CR σ) l vs∧((e.nil=true∧l=[]∧e.cap=0)∨(e.nil=false∧M e.addr=some (.cells (vs++e.sp).toArray T (0,0))∧(vs++e.sp).length=e.cap*z))
 | .mp es c=>e.nil=false∧∃ ms,All2 (EnR σ) es ms∧M e.addr=some (.map ms.toArray c)
 | .it m a s t=>e.nil=false∧∃ x,mR σ m x∧M e.addr=some (.mapIter x a s.toArray t)
 | .si l p=>e.nil=false∧M e.addr=some (.stringIter (zI l) p)
def BR (σ:List E) (nb:Nat) (b:B) (x:BE):Prop:=match b with | .live T l=>∃ cs,All2 (SCR σ nb) l cs∧x = .live T cs | .gone a=>∃ e,σ[a]? = some e∧x = .gone e.addr | .dark=>∃ a,x = .gone a
def FR (σ:List E) (nb:Nat) (s:S) (fr:List (Nat×SV)):Prop:=∀ d v,s.fget d=some v→v ≠ .dead∧∃ sv,lk fr d=some sv∧VR σ nb v sv
structure HR (σ:List E) (H:T O) (M:Mem):Prop where
 has:∀ a o,H.get a=some o→∃ e,σ[a]? = some e∧OR σ e o M
 inj:∀ a b oa ob ea eb,H.get a=some oa→H.get b=some ob→σ[a]? = some ea→σ[b]? = some eb→ea.nil=false→eb.nil=false→ea.addr=eb.addr→a=b
structure SR (σ:List E) (s:S) (t:St):Prop where
 n:s.n=σ.length
 fr:FR σ t.bx.length s t.fr
 bx:All2 (BR σ t.bx.length) s.bx t.bx
 h:HR σ s.H t.M
def S.rd (s:S) (a:Nat):Prop:=match s.g with|none=>True|some l=>mem a l=true
structure QR (σ:List E) (nb:Nat) (s:S) (t:St):Prop where
 fr:FR σ nb s t.fr
 bx:All2 (BR σ nb) s.bx t.bx
 h:∀ a o,s.rd a→s.H.get a=some o→∃ e,σ[a]? = some e∧OR σ e o t.M
theorem SR.q {σ:List E} {s:S} {t:St} (h:SR σ s t):QR σ t.bx.length s t:=⟨h.fr,h.bx,fun a o _ ha=>h.h.has a o ha⟩
theorem C.val_mono {σ:List E} (τ:List E) {c:C} {v:Value} (h:c.val σ=some v):c.val (σ++τ)=some v:=by
 have key:∀ {a:Nat} {e:E},σ[a]? = some e→(σ++τ)[a]? = some e:=fun {a e} he=>by
  rw[List.getElem?_append_left (List.getElem?_eq_some_iff.1 he).1];exact he
 cases c with
 | p a o=>simp only[C.val,Option.map_eq_some_iff] at h ⊢; obtain⟨e,h1,h2⟩:=h;exact⟨e,key h1,h2⟩
 | l a o n c=>simp only[C.val,Option.map_eq_some_iff] at h ⊢; obtain⟨e,h1,h2⟩:=h;exact⟨e,key h1,h2⟩
 | m a=>simp only[C.val,Option.map_eq_some_iff] at h ⊢; obtain⟨e,h1,h2⟩:=h;exact⟨e,key h1,h2⟩
 | g a o d n=>simp only[C.val,Option.bind_eq_some_iff] at h ⊢; obtain⟨e,h1,h2⟩:=h;exact⟨e,key h1,h2⟩
 | fm g a o=>simp only[C.val,Option.map_eq_some_iff] at h ⊢; obtain⟨e,h1,h2⟩:=h;exact⟨e,key h1,h2⟩
 | h a o d k z w=>simp only[C.val,Option.bind_eq_some_iff] at h ⊢; obtain⟨e,h1,h2⟩:=h;exact⟨e,key h1,h2⟩
 | _=>exact h
theorem CR.mono {σ:List E} (τ:List E) {c:C} {v:Value} (h:CR σ c v):CR (σ++τ) c v:=C.val_mono τ h
theorem SCR.mono {σ:List E} {nb nb':Nat} (τ:List E) (hn:nb≤nb') {c:C} {x:SC} (h:SCR σ nb c x):SCR (σ++τ) nb' c x:=by
 cases c with
 | b j o=>exact⟨Nat.lt_of_lt_of_le h.1 hn,h.2⟩
 | _=>obtain⟨v,h1,h2⟩:=h;exact⟨v,C.val_mono τ h1,h2⟩
theorem WR.mono {σ:List E} (τ:List E) {w:W} {v:Value} (h:WR σ w v):WR (σ++τ) w v:=by
 cases w with
 | c x=>exact CR.mono τ h
 | ag l=>obtain⟨vs,h1,h2⟩:=h;exact⟨vs,h1.imp fun _ _=>CR.mono τ,h2⟩
 | fn g l=>obtain⟨vs,h1,h2⟩:=h;exact⟨vs,h1.imp fun _ _=>CR.mono τ,h2⟩
theorem VR.mono {σ:List E} {nb nb':Nat} (τ:List E) (hn:nb≤nb') {v:V} {sv:SV} (h:VR σ nb v sv):VR (σ++τ) nb' v sv:=by
 cases v with
 | c x=>exact h.imp (fun ⟨sc,h1,h2⟩=>⟨sc,h1.mono τ hn,h2⟩) id
 | ag l=>obtain⟨cs,h1,h2⟩:=h;exact⟨cs,h1.imp fun _ _=>SCR.mono τ hn,h2⟩
 | fn g l=>exact h.imp (fun ⟨cs,h1,h2⟩=>⟨cs,h1.imp fun _ _=>SCR.mono τ hn,h2⟩) (fun ⟨vs,h1,h2⟩=>⟨vs,h1.imp fun _ _=>CR.mono τ,h2⟩)
 | tp l=>obtain⟨vs,h1,h2⟩:=h;exact⟨vs,h1.imp fun _ _=>WR.mono τ,h2⟩
 | sl j n=>exact⟨Nat.lt_of_lt_of_le h.1 hn,h.2⟩
 | dead=>exact h
theorem zmv {σ:List E} (τ:List E) {a:Nat} {e:E} (he:σ[a]? = some e):(σ++τ)[a]? = some e:=by
 rw[List.getElem?_append_left (List.getElem?_eq_some_iff.1 he).1];exact he
theorem EnR.mono {σ:List E} (τ:List E) {e:En} {m:MapEntry} (h:EnR σ e m):EnR (σ++τ) e m:=⟨h.1.mono τ,h.2.1.mono τ,h.2.2⟩
theorem OR.mono {σ:List E} (τ:List E) {e:E} {o:O} {M:Mem} (h:OR σ e o M):OR (σ++τ) e o M:=by
 cases o with
 | row T l=>obtain⟨h0,vs,h1,h2⟩:=h;exact⟨h0,vs,h1.imp fun _ _=>CR.mono τ,h2⟩
 | ro T l=>obtain⟨h0,vs,h1,h2⟩:=h;exact⟨h0,vs,h1.imp fun _ _=>CR.mono τ,h2⟩
 | gr T z l=>obtain⟨vs,h1,h2⟩:=h;exact⟨vs,h1.imp fun _ _=>CR.mono τ,h2⟩
 | mp es c=>obtain⟨h0,ms,h1,h2⟩:=h;exact⟨h0,ms,h1.imp fun _ _=>EnR.mono τ,h2⟩
 | it m a s t=>
  obtain⟨h0,x,h1,h2⟩:=h
  refine⟨h0,x,?_,h2⟩
  cases m with
  | none=>exact h1
  | some a=>obtain⟨e,h3,h4⟩:=h1;exact⟨e,zmv τ h3,h4⟩
 | si l p=>exact h
theorem BR.mono {σ:List E} {nb nb':Nat} (τ:List E) (hn:nb≤nb') {b:B} {x:BE} (h:BR σ nb b x):BR (σ++τ) nb' b x:=by
 cases b with
 | live T l=>obtain⟨cs,h1,h2⟩:=h;exact⟨cs,h1.imp fun _ _=>SCR.mono τ hn,h2⟩
 | gone a=>obtain⟨e,h1,h2⟩:=h;exact⟨e,zmv τ h1,h2⟩
 | dark=>exact h
theorem FR.mono {σ:List E} {nb nb':Nat} (τ:List E) (hn:nb≤nb') {s:S} {fr:List (Nat×SV)} (h:FR σ nb s fr):FR (σ++τ) nb' s fr:=fun d v hd=>by
 obtain⟨h0,sv,h1,h2⟩:=h d v hd
 exact⟨h0,sv,h1,h2.mono τ hn⟩
theorem CR.fn {σ:List E} {c:C} {v v':Value} (h:CR σ c v) (h':CR σ c v'):v=v':=by unfold CR at h h';rw[h] at h';exact Option.some.inj h'
theorem CR.sc {σ:List E} {nb:Nat} {c:C} {v:Value} (h:CR σ c v):SCR σ nb c (.v v):=by
 cases c with
 | b j o=>cases h
 | _=>exact⟨v,h,rfl⟩
theorem CR.one {σ:List E} {c:C} {v:Value} (h:CR σ c v):v.oneCell'=true:=by
 unfold CR at h
 cases c<;>simp only[C.val,Option.map_eq_some_iff,Option.bind_eq_some_iff,Option.some.injEq,reduceCtorEq] at h<;>first
  | (subst h;rfl)
  | (obtain⟨e, -, rfl⟩:=h;rfl)
  | (obtain⟨e, -, h⟩:=h;split at h<;>split at h<;>first|(cases h;rfl)|cases h)
  | (obtain⟨e, -, h⟩:=h;split at h<;>first|(cases h;rfl)|cases h)
theorem ztF {σ:List E} {nb:Nat} {c:C} {v:Value} (h:CR σ c v):VR σ nb (.c c) (zeL v):=by
 have h1:=h.one
 cases v with
 | bool b=>
  right
  refine⟨b,?_,rfl⟩
  unfold CR at h
  cases c<;>simp only[C.val,Option.map_eq_some_iff,Option.bind_eq_some_iff,Option.some.injEq,reduceCtorEq,and_false,exists_false] at h<;>first
   | (cases h;rfl)
   | (obtain⟨e, -, h⟩:=h;split at h<;>split at h<;>cases h)
   | (obtain⟨e, -, h⟩:=h;split at h<;>cases h)
 | agg cs=>cases h1
 | tuple cs=>cases h1
 | _=>exact .inl ⟨_,h.sc,rfl⟩
theorem zt1 {σ:List E} {nb:Nat} {w:W} {v:Value} (h:WR σ w v):VR σ nb (V.ofW w) (zeL v):=by
 cases w with
 | c x=>exact ztF h
 | ag l=>
  obtain⟨vs,h1,rfl⟩:=h
  exact⟨vs.map .v,h1.map fun _ _ h=>CR.sc h,by simp[zeL]⟩
 | fn g l=>
  obtain⟨vs,h1,rfl⟩:=h
  exact .inr ⟨vs,h1,rfl⟩
theorem zLe {σ:List E} {nb:Nat} {v:V} {x:Value} (h:OVR σ v x):VR σ nb v (zeL x):=by
 cases v with
 | c c=>exact ztF h
 | ag l=>exact zt1 (w := .ag l) h
 | fn g l=>exact zt1 (w := .fn g l) h
 | tp l=>obtain⟨vs,h1,rfl⟩:=h;exact⟨vs,h1,rfl⟩
 | sl j n=>exact h.elim
 | dead=>exact h.elim
theorem zJh (s:ByteArray):zI (s.toList.map UInt8.toNat)=s:=by
 unfold zI
 have:(s.toList.map UInt8.toNat).map UInt8.ofNat=s.toList:=by
  rw[List.map_map]
  conv=>rhs;rw[←List.map_id s.toList]
  apply List.map_congr_left
  intro a _
  simp
 rw[this,ByteArray.toList_eq]
theorem C.ofV_s {v:Value} {c:C} (h:C.ofV v=some c) (σ:List E):CR σ c v:=by
 unfold C.ofV at h
 split at h<;>first
  | (cases h;rfl)
  | (cases h;simp only[CR,C.val,zJh])
  | cases h
theorem zoO {y:Out} (σ:List E):∀ {vs:List Value} {K:List C→R},ztB vs K=some y→∃ l,All2 (CR σ) l vs∧K l=some y
 | [],K,h=>⟨[],trivial,h⟩
 | v::vs,K,h=>by
  obtain⟨c,h1,h2⟩:=zit (K:=fun c=>ztB vs fun r=>K (c::r)) h
  obtain⟨l,h3,h4⟩:=zoO σ (vs:=vs) (K:=fun r=>K (c::r)) h2
  exact⟨c::l,⟨C.ofV_s h1 σ,h3⟩,h4⟩
theorem ofV_s {v:Value} {K:V→R} {y:Out} (h:V.ofV v K=some y) (σ:List E) (nb:Nat):∃ x,(∃ w,(x = .c w∧CR σ w v∨∃ l cs,x = .ag l∧v = .agg cs∧All2 (CR σ) l cs.toList))∧VR σ nb x (zAz v)∧K x=some y:=by
 unfold V.ofV at h
 split at h
 ·rename_i cs
  obtain⟨l,h1,h2⟩:=zoO σ h
  exact⟨.ag l,⟨.ni,.inr ⟨l,cs,rfl,rfl,h1⟩⟩,⟨cs.toList.map .v,h1.map fun _ _ h=>CR.sc h,rfl⟩,h2⟩
 ·rename_i hv
  obtain⟨c,h1,h2⟩:=zit h
  have h3:=C.ofV_s h1 σ
  refine⟨.c c,⟨c,.inl ⟨rfl,h3⟩⟩,.inl ⟨.v v,h3.sc,?_⟩,h2⟩
  cases v<;>first|rfl|exact absurd rfl (hv _)
section
variable {σ:List E} {s:S} {t:St} {y:Out} {nb:Nat}
theorem zD {x:Operand} {K:V→R} (h:ev s x K=some y) (hf:FR σ nb s t.fr) {k:SV→Prop} (hk:∀ v sv,v ≠ .dead→VR σ nb v sv→K v=some y→k sv):Vm.ev t x k:=by
 cases x with
 | tmp d=>
  obtain⟨v,h1,h2⟩:=zit (K:=K) h
  obtain⟨h0,sv,h3,h4⟩:=hf d v h1
  show evO (lk t.fr d) k
  rw[h3]
  have h5:=hk v sv h0 h4 h2
  cases sv with
  | dead=>
   exfalso
   cases v with
   | c x=>rcases h4 with ⟨_,_,h⟩|⟨_,_,h⟩<;>cases h
   | ag l=>obtain⟨_,_,h⟩:=h4;cases h
   | fn g l=>rcases h4 with ⟨_,_,h⟩|⟨_,_,h⟩<;>cases h
   | tp l=>obtain⟨_,_,h⟩:=h4;cases h
   | sl j n=>cases h4.2
   | dead=>exact h0 rfl
  | _=>exact h5
 | const v=>
  obtain⟨x,⟨w,hx⟩,h1,h2⟩:=ofV_s (K:=K) h σ nb
  refine hk x _ ?_ h1 h2
  rintro rfl
  rcases hx with ⟨h,_⟩|⟨_,_,h,_⟩<;>cases h
 | func f=>exact hk (.c (.f f)) _ (by simp) (.inl ⟨.v (.func (.func f) #[] #[]),CR.sc (c := .f f) rfl,rfl⟩) h
 | global g=>cases h
end
end Go.Vm.Rn
