/- Part of this proof;laid by program. -/
import Derived.Test.YtdogcflaekkdkaaGreatJ10
import Derived.Test.YtdogcflaekkdkaaGreatJ11
import Derived.Test.YtdogcflaekkdkaaGreatJ12
import Derived.Test.YtdogcflaekkdkaaGreatJ13
set_option linter.unusedVariables false
set_option linter.unusedSimpArgs false
namespace Go.Proofs.YtdogcflaekkdkaaGreat
open Go.Vm Go.Vm.Rn
set_option maxRecDepth 20000
def tab:T FC := .n (.n (.n (.n (.n (.n (.n (.n (.n (.e) (some ⟨3,zo7,zo8⟩) (.e)) (some ⟨3,zkk,zkl⟩) (.e)) (some ⟨1,znW,znX⟩) (.n (.n (.e) (some ⟨50,zjB,zjC⟩) (.e)) (some ⟨2,zJ,zK⟩) (.e))) (some ⟨71,znK,znL⟩) (.n (.n (.n (.e) (some ⟨13,zdn,zdo⟩) (.e)) (some ⟨4,zgF,zgG⟩) (.e)) (some ⟨2,zfd,zfe⟩) (.n (.e) (some ⟨5,zAV,zAW⟩) (.e)))) (some ⟨3,zeZ,ze0⟩) (.n (.n (.n (.e) (some ⟨7,zpB,zpC⟩) (.e)) (some ⟨8,zhz,zhA⟩) (.n (.e) (some ⟨7,zth,zti⟩) (.e))) (some ⟨12,zdy,zdz⟩) (.n (.n (.n (.e) (some ⟨2,zo9,zpa⟩) (.e)) (some ⟨17,zzC,zzD⟩) (.e)) (some ⟨3,zgz,zgA⟩) (.n (.e) (some ⟨6,zkq,zkr⟩) (.e))))) (some ⟨3,zzn,zzo⟩) (.n (.n (.n (.n (.n (.e) (some ⟨18,zAZ,zA0⟩) (.e)) (some ⟨4,zes,zet⟩) (.e)) (some ⟨23,zkc,zkd⟩) (.n (.n (.e) (some ⟨12,zl3,zl4⟩) (.e)) (some ⟨5,zhJ,zhK⟩) (.e))) (some ⟨11,zka,zkb⟩) (.n (.n (.n (.e) (some ⟨13,zeG,zeH⟩) (.e)) (some ⟨10,ztd,zte⟩) (.e)) (some ⟨5,zdM,zdN⟩) (.n (.e) (some ⟨11,zgT,zgU⟩) (.e)))) (some ⟨9,zt9,zua⟩) (.n (.n (.n (.n (.e) (some ⟨13,zhQ,zhR⟩) (.e)) (some ⟨8,zko,zkp⟩) (.e)) (some ⟨10,ziR,ziS⟩) (.n (.e) (some ⟨11,zjr,zjs⟩) (.e))) (some ⟨41,zdA,zdB⟩) (.n (.n (.n (.e) (some ⟨12,zjV,zjW⟩) (.e)) (some ⟨12,zn7,zn8⟩) (.e)) (some ⟨13,zki,zkj⟩) (.n (.e) (some ⟨21,zao,zap⟩) (.e)))))) (some ⟨3,zro,zrp⟩) (.n (.n (.n (.n (.n (.n (.e) (some ⟨3,zxn,zxo⟩) (.e)) (some ⟨6,zxb,zxc⟩) (.e)) (some ⟨3,zem,zen⟩) (.n (.n (.e) (some ⟨11,zhZ,zh0⟩) (.e)) (some ⟨12,zoL,zoM⟩) (.e))) (some ⟨91,ze5,ze6⟩) (.n (.n (.n (.e) (some ⟨13,zjT,zjU⟩) (.e)) (some ⟨9,zew,zex⟩) (.e)) (some ⟨3,zr5,zr6⟩) (.n (.e) (some ⟨13,zgR,zgS⟩) (.e)))) (some ⟨5,zx2,zx3⟩) (.n (.n (.n (.n (.e) (some ⟨13,zif,zig⟩) (.e)) (some ⟨5,zbe,zbf⟩) (.e)) (some ⟨13,zgr,zgs⟩) (.n (.e) (some ⟨50,zk1,zk2⟩) (.e))) (some ⟨9,zgn,zgo⟩) (.n (.n (.n (.e) (some ⟨9,zA3,zA4⟩) (.e)) (some ⟨6,zpD,zpE⟩) (.e)) (some ⟨4,zb5,zb6⟩) (.n (.e) (some ⟨21,zaB,zaC⟩) (.e))))) (some ⟨8,ziF,ziG⟩) (.n (.n (.n (.n (.n (.e) (some ⟨9,zxp,zxq⟩) (.e)) (some ⟨1,zfl,zfm⟩) (.e)) (some ⟨30,zdE,zdF⟩) (.n (.n (.e) (some ⟨7,zh1,zh2⟩) (.e)) (some ⟨4,zi1,zi2⟩) (.e))) (some ⟨24,zgh,zgi⟩) (.n (.n (.n (.e) (some ⟨9,zvR,zvS⟩) (.e)) (some ⟨9,zgL,zgM⟩) (.e)) (some ⟨6,zqF,zqG⟩) (.n (.e) (some ⟨10,zzG,zzH⟩) (.e)))) (some ⟨7,zpr,zps⟩) (.n (.n (.n (.n (.e) (some ⟨13,zih,zii⟩) (.e)) (some ⟨7,zmP,zmQ⟩) (.e)) (some ⟨5,zlE,zlF⟩) (.n (.e) (some ⟨9,zxh,zxi⟩) (.e))) (some ⟨25,zlC,zlD⟩) (.n (.n (.n (.e) (some ⟨9,zlR,zlS⟩) (.e)) (some ⟨5,zrE,zrF⟩) (.e)) (some ⟨14,zeo,zep⟩) (.n (.e) (some ⟨3,zks,zkt⟩) (.e))))))) (none) (.n (.n (.n (.n (.n (.n (.n (.e) (some ⟨7,zjt,zju⟩) (.e)) (some ⟨17,zkm,zkn⟩) (.e)) (some ⟨6,zdC,zdD⟩) (.n (.n (.e) (some ⟨11,zeU,zeV⟩) (.e)) (some ⟨2,z7,z8⟩) (.e))) (some ⟨3,ze3,ze4⟩) (.n (.n (.n (.e) (some ⟨14,zhS,zhT⟩) (.e)) (some ⟨6,zgH,zgI⟩) (.e)) (some ⟨6,zqD,zqE⟩) (.n (.e) (some ⟨25,zpH,zpI⟩) (.e)))) (some ⟨6,ze1,ze2⟩) (.n (.n (.n (.n (.e) (some ⟨10,zY,zZ⟩) (.e)) (some ⟨58,zmN,zmO⟩) (.e)) (some ⟨4,ziP,ziQ⟩) (.n (.e) (some ⟨11,zmo,zmp⟩) (.e))) (some ⟨5,zgl,zgm⟩) (.n (.n (.n (.e) (some ⟨9,zhW,zhX⟩) (.e)) (some ⟨6,zlK,zlL⟩) (.e)) (some ⟨52,zb3,zb4⟩) (.n (.e) (some ⟨10,zaJ,zaK⟩) (.e))))) (some ⟨12,zlA,zlB⟩) (.n (.n (.n (.n (.n (.e) (some ⟨4,zvL,zvM⟩) (.e)) (some ⟨5,zfh,zfi⟩) (.e)) (some ⟨5,zAL,zAM⟩) (.n (.n (.e) (some ⟨12,zld,zle⟩) (.e)) (some ⟨77,zcY,zcZ⟩) (.e))) (some ⟨4,ziH,ziI⟩) (.n (.n (.n (.e) (some ⟨14,zjx,zjy⟩) (.e)) (some ⟨7,zyl,zym⟩) (.e)) (some ⟨5,zw6,zw7⟩) (.n (.e) (some ⟨5,zvJ,zvK⟩) (.e)))) (some ⟨3,zvv,zvw⟩) (.n (.n (.n (.n (.e) (some ⟨5,zvP,zvQ⟩) (.e)) (some ⟨3,zhD,zhE⟩) (.e)) (some ⟨10,zui,zuj⟩) (.n (.e) (some ⟨3,zuw,zux⟩) (.e))) (some ⟨4,znS,znT⟩) (.n (.n (.n (.e) (some ⟨13,zk9,zla⟩) (.e)) (some ⟨8,ziZ,zi0⟩) (.e)) (some ⟨4,ziT,ziU⟩) (.n (.e) (some ⟨7,zdW,zdX⟩) (.e)))))) (some ⟨5,zwV,zwW⟩) (.n (.n (.n (.n (.n (.n (.e) (some ⟨8,zlP,zlQ⟩) (.e)) (some ⟨29,zeq,zer⟩) (.e)) (some ⟨66,ze9,zfa⟩) (.n (.n (.e) (some ⟨6,zxr,zxs⟩) (.e)) (some ⟨3,zmT,zmU⟩) (.e))) (some ⟨3,zbD,zbE⟩) (.n (.n (.n (.e) (some ⟨56,zij,zik⟩) (.e)) (some ⟨7,ztb,ztc⟩) (.e)) (some ⟨26,zpx,zpy⟩) (.n (.e) (some ⟨12,zfv,zfw⟩) (.e)))) (some ⟨63,zgf,zgg⟩) (.n (.n (.n (.n (.e) (some ⟨10,zi7,zi8⟩) (.e)) (some ⟨5,zp7,zp8⟩) (.e)) (some ⟨42,zpv,zpw⟩) (.n (.e) (some ⟨11,zgP,zgQ⟩) (.e))) (some ⟨7,znO,znP⟩) (.n (.n (.n (.e) (some ⟨9,zfN,zfO⟩) (.e)) (some ⟨7,zlM,zlN⟩) (.e)) (some ⟨5,zn1,zn2⟩) (.n (.e) (some ⟨3,zCl,zCm⟩) (.e))))) (some ⟨6,zgd,zge⟩) (.n (.n (.n (.n (.n (.e) (some ⟨4,zbu,zbv⟩) (.e)) (some ⟨5,zup,zuq⟩) (.e)) (some ⟨4,ziN,ziO⟩) (.n (.n (.e) (some ⟨3,ztp,ztq⟩) (.e)) (some ⟨5,zn9,zoa⟩) (.e))) (some ⟨7,ze7,ze8⟩) (.n (.n (.n (.e) (some ⟨19,zaD,zaE⟩) (.e)) (some ⟨96,zAR,zAS⟩) (.e)) (some ⟨3,zkg,zkh⟩) (.n (.e) (some ⟨13,zi3,zi4⟩) (.e)))) (some ⟨7,zx4,zx5⟩) (.n (.n (.n (.n (.e) (some ⟨56,zg3,zg4⟩) (.e)) (some ⟨5,zmR,zmS⟩) (.e)) (some ⟨1,zcw,zcx⟩) (.n (.e) (some ⟨6,zc0,zc1⟩) (.e))) (some ⟨4,zpt,zpu⟩) (.n (.n (.n (.e) (some ⟨11,zlb,zlc⟩) (.e)) (some ⟨17,zpF,zpG⟩) (.e)) (some ⟨25,zhB,zhC⟩) (.n (.e) (some ⟨7,zku,zkv⟩) (.e)))))))) (none) (.n (.n (.n (.n (.n (.n (.n (.n (.e) (some ⟨3,zqf,zqg⟩) (.e)) (some ⟨10,zn3,zn4⟩) (.e)) (some ⟨3,zbF,zbG⟩) (.n (.n (.e) (some ⟨8,zi9,zja⟩) (.e)) (some ⟨5,zrG,zrH⟩) (.e))) (some ⟨6,zj8,zj9⟩) (.n (.n (.n (.e) (some ⟨13,zfL,zfM⟩) (.e)) (some ⟨5,zbg,zbh⟩) (.e)) (some ⟨1,zvB,zvC⟩) (.n (.e) (some ⟨10,zDD,zDE⟩) (.e)))) (some ⟨66,zds,zdt⟩) (.n (.n (.n (.n (.e) (some ⟨2,zoO,zoP⟩) (.e)) (some ⟨9,zmL,zmM⟩) (.e)) (some ⟨5,zfb,zfc⟩) (.n (.e) (some ⟨8,zah,zai⟩) (.e))) (some ⟨10,zgj,zgk⟩) (.n (.n (.n (.e) (some ⟨12,zk7,zk8⟩) (.e)) (some ⟨1,zcC,zcD⟩) (.e)) (some ⟨3,zbH,zbI⟩) (.n (.e) (some ⟨13,zxl,zxm⟩) (.e))))) (some ⟨6,zj4,zj5⟩) (.n (.n (.n (.n (.n (.e) (some ⟨41,zA1,zA2⟩) (.e)) (some ⟨7,zeu,zev⟩) (.e)) (some ⟨4,zke,zkf⟩) (.n (.n (.e) (some ⟨12,zjD,zjE⟩) (.e)) (some ⟨1,zqc,zqd⟩) (.e))) (some ⟨6,zdw,zdx⟩) (.n (.n (.n (.e) (some ⟨13,zg6,zg7⟩) (.e)) (some ⟨4,zyj,zyk⟩) (.e)) (some ⟨46,zdO,zdP⟩) (.n (.e) (some ⟨16,zeE,zeF⟩) (.e)))) (some ⟨5,zvt,zvu⟩) (.n (.n (.n (.n (.e) (some ⟨14,zkJ,zkK⟩) (.e)) (some ⟨19,zaY,zaZ⟩) (.e)) (some ⟨5,zbc,zbd⟩) (.n (.e) (some ⟨12,zlZ,zl0⟩) (.e))) (some ⟨5,znQ,znR⟩) (.n (.n (.n (.e) (some ⟨9,zg8,zg9⟩) (.e)) (some ⟨5,zgN,zgO⟩) (.e)) (some ⟨11,zgB,zgC⟩) (.n (.e) (some ⟨7,zuA,zuB⟩) (.e)))))) (some ⟨13,zvr,zvs⟩) (.n (.n (.n (.n (.n (.n (.e) (some ⟨5,zod,zoe⟩) (.e)) (some ⟨3,zzv,zzw⟩) (.e)) (some ⟨14,zgp,zgq⟩) (.n (.n (.e) (some ⟨12,zkL,zkM⟩) (.e)) (some ⟨11,zhH,zhI⟩) (.e))) (some ⟨7,zAJ,zAK⟩) (.n (.n (.n (.e) (some ⟨13,zhn,zho⟩) (.e)) (some ⟨14,zcA,zcB⟩) (.e)) (some ⟨3,zcy,zcz⟩) (.n (.e) (some ⟨3,zdU,zdV⟩) (.e)))) (some ⟨3,zwY,zwZ⟩) (.n (.n (.n (.n (.e) (some ⟨56,zjv,zjw⟩) (.e)) (some ⟨6,zp5,zp6⟩) (.e)) (some ⟨4,zgt,zgu⟩) (.n (.e) (some ⟨8,zkH,zkI⟩) (.e))) (some ⟨21,zcs,zct⟩) (.n (.n (.n (.e) (some ⟨12,zil,zim⟩) (.e)) (some ⟨3,zhF,zhG⟩) (.e)) (some ⟨4,zlG,zlH⟩) (.n (.e) (some ⟨12,zob,zoc⟩) (.e))))) (some ⟨11,zek,zel⟩) (.n (.n (.n (.n (.n (.e) (some ⟨4,zvN,zvO⟩) (.e)) (some ⟨52,zfn,zfo⟩) (.e)) (some ⟨2,zdG,zdH⟩) (.n (.n (.e) (some ⟨11,zl5,zl6⟩) (.e)) (some ⟨3,zmV,zmW⟩) (.e))) (some ⟨6,zht,zhu⟩) (.n (.n (.n (.e) (some ⟨10,zns,znt⟩) (.e)) (some ⟨105,zDx,zDy⟩) (.e)) (some ⟨9,zp3,zp4⟩) (.n (.e) (some ⟨21,zCi,zCj⟩) (.e)))) (some ⟨6,zB2,zB3⟩) (.n (.n (.n (.n (.e) (some ⟨13,zfQ,zfR⟩) (.e)) (some ⟨5,zlI,zlJ⟩) (.e)) (some ⟨12,zcU,zcV⟩) (.n (.e) (some ⟨3,zeC,zeD⟩) (.e))) (some ⟨17,ziL,ziM⟩) (.n (.n (.n (.e) (some ⟨8,z1,z2⟩) (.e)) (some ⟨5,zDA,zDB⟩) (.e)) (some ⟨3,zb7,zb8⟩) (.n (.e) (some ⟨4,zbL,zbM⟩) (.e))))))) (none) (.n (.n (.n (.n (.n (.n (.n (.e) (some ⟨11,znq,znr⟩) (.e)) (some ⟨3,zpz,zpA⟩) (.e)) (some ⟨13,zcu,zcv⟩) (.n (.n (.e) (some ⟨5,zuC,zuD⟩) (.e)) (some ⟨5,ztf,ztg⟩) (.e))) (some ⟨11,zbo,zbp⟩) (.n (.n (.n (.e) (some ⟨10,zP,zQ⟩) (.e)) (some ⟨89,zDv,zDw⟩) (.e)) (some ⟨4,zgv,zgw⟩) (.n (.e) (some ⟨16,zft,zfu⟩) (.e)))) (some ⟨4,zcq,zcr⟩) (.n (.n (.n (.n (.e) (some ⟨13,zk4,zk5⟩) (.e)) (some ⟨5,zb9,zca⟩) (.e)) (some ⟨2,zyc,zyd⟩) (.n (.e) (some ⟨11,zjQ,zjR⟩) (.e))) (some ⟨12,zhv,zhw⟩) (.n (.n (.n (.e) (some ⟨13,zl1,zl2⟩) (.e)) (some ⟨6,ziV,ziW⟩) (.e)) (some ⟨37,zbs,zbt⟩) (.e)))) (some ⟨1,zj6,zj7⟩) (.n (.n (.n (.n (.n (.e) (some ⟨6,zzJ,zzK⟩) (.e)) (some ⟨1,zfj,zfk⟩) (.e)) (some ⟨6,zzr,zzs⟩) (.n (.n (.e) (some ⟨10,zlf,zlg⟩) (.e)) (some ⟨3,zey,zez⟩) (.e))) (some ⟨3,zbq,zbr⟩) (.n (.n (.n (.e) (some ⟨12,zc2,zc3⟩) (.e)) (some ⟨31,zbJ,zbK⟩) (.e)) (some ⟨5,zb1,zb2⟩) (.n (.e) (some ⟨7,zAX,zAY⟩) (.e)))) (some ⟨7,zmJ,zmK⟩) (.n (.n (.n (.n (.e) (some ⟨10,zL,zM⟩) (.e)) (some ⟨5,zzz,zzA⟩) (.e)) (some ⟨30,zdK,zdL⟩) (.n (.e) (some ⟨3,zfr,zfs⟩) (.e))) (some ⟨5,zx8,zx9⟩) (.n (.n (.n (.e) (some ⟨7,zzN,zzO⟩) (.e)) (some ⟨2,zas,zat⟩) (.e)) (some ⟨18,zdS,zdT⟩) (.n (.e) (some ⟨7,zcG,zcH⟩) (.e)))))) (some ⟨5,zly,zlz⟩) (.n (.n (.n (.n (.n (.n (.e) (some ⟨1,za0,za1⟩) (.e)) (some ⟨13,zgD,zgE⟩) (.e)) (some ⟨4,zhx,zhy⟩) (.n (.n (.e) (some ⟨9,zys,zyt⟩) (.e)) (some ⟨4,zcE,zcF⟩) (.e))) (some ⟨16,zdu,zdv⟩) (.n (.n (.n (.e) (some ⟨10,zhU,zhV⟩) (.e)) (some ⟨7,zgJ,zgK⟩) (.e)) (some ⟨6,zgx,zgy⟩) (.n (.e) (some ⟨8,zfx,zfy⟩) (.e)))) (some ⟨5,zr2,zr3⟩) (.n (.n (.n (.n (.e) (some ⟨13,zeS,zeT⟩) (.e)) (some ⟨6,zzx,zzy⟩) (.e)) (some ⟨11,zdI,zdJ⟩) (.n (.e) (some ⟨5,zyn,zyo⟩) (.e))) (some ⟨7,zs0,zs1⟩) (.n (.n (.n (.e) (some ⟨13,zjz,zjA⟩) (.e)) (some ⟨5,ziX,ziY⟩) (.e)) (some ⟨9,zff,zfg⟩) (.n (.e) (some ⟨21,z9,zaa⟩) (.e))))) (some ⟨10,zAG,zAH⟩) (.n (.n (.n (.n (.n (.e) (some ⟨3,ztn,zto⟩) (.e)) (some ⟨4,zfp,zfq⟩) (.e)) (some ⟨41,znY,znZ⟩) (.n (.n (.e) (some ⟨10,zl7,zl8⟩) (.e)) (some ⟨5,zeA,zeB⟩) (.e))) (some ⟨3,ziJ,ziK⟩) (.n (.n (.n (.e) (some ⟨3,zzL,zzM⟩) (.e)) (some ⟨12,zn5,zn6⟩) (.e)) (some ⟨8,zdQ,zdR⟩) (.n (.e) (some ⟨5,zi5,zi6⟩) (.e)))) (some ⟨4,znI,znJ⟩) (.n (.n (.n (.n (.e) (some ⟨10,zgV,zgW⟩) (.e)) (some ⟨5,zcW,zcX⟩) (.e)) (some ⟨4,zqB,zqC⟩) (.n (.e) (some ⟨9,zcb,zcc⟩) (.e))) (some ⟨15,znU,znV⟩) (.n (.n (.n (.e) (some ⟨11,zin,zio⟩) (.e)) (some ⟨4,zCf,zCg⟩) (.e)) (some ⟨6,zw9,zxa⟩) (.n (.e) (some ⟨10,zmq,zmr⟩) (.e))))))))
end Go.Proofs.YtdogcflaekkdkaaGreat
namespace Go.Vm.Rn
open Go.Vm
def All2 {α β:Type} (Q:α→β→Prop):List α→List β→Prop
 | [],[]=>True
 | a::l,b::r=>Q a b∧All2 Q l r
 | _,_=>False
namespace All2
variable {α β γ:Type} {Q Q':α→β→Prop}
theorem len:∀ {l:List α} {r:List β},All2 Q l r→l.length=r.length
 | [],[],_=>rfl
 | _::_,_::_,h=>congrArg (· + 1) (len h.2)
 | [],_::_,h=>h.elim
 | _::_,[],h=>h.elim
theorem imp (hq:∀ a b,Q a b→Q' a b):∀ {l:List α} {r:List β},All2 Q l r→All2 Q' l r
 | [],[],_=>trivial
 | _::_,_::_,h=>⟨hq _ _ h.1,imp hq h.2⟩
 | [],_::_,h=>h.elim
 | _::_,[],h=>h.elim
theorem drop:∀ (n:Nat) {l:List α} {r:List β},All2 Q l r→All2 Q (l.drop n) (r.drop n)
 | 0,_,_,h=>h
 | _+1,[],[],_=>trivial
 | n+1,_::_,_::_,h=>drop n h.2
 | _+1,[],_::_,h=>h.elim
 | _+1,_::_,[],h=>h.elim
theorem take:∀ (n:Nat) {l:List α} {r:List β},All2 Q l r→All2 Q (l.take n) (r.take n)
 | 0,_,_,_=>by simp[All2]
 | _+1,[],[],_=>trivial
 | n+1,_::_,_::_,h=>⟨h.1,take n h.2⟩
 | _+1,[],_::_,h=>h.elim
 | _+1,_::_,[],h=>h.elim
theorem append:∀ {l l':List α} {r r':List β},All2 Q l r→All2 Q l' r'→All2 Q (l++l') (r++r')
 | [],_,[],_,_,h=>h
 | _::_,_,_::_,_,h,h'=>⟨h.1,append h.2 h'⟩
 | [],_,_::_,_,h,_=>h.elim
 | _::_,_,[],_,h,_=>h.elim
theorem at_:∀ {l:List α} {r:List β},All2 Q l r→∀ {k:Nat} {a:α},l[k]? = some a→∃ b,r[k]? = some b∧Q a b
 | _::_,_::_,h,0,a,ha=>⟨_,rfl,by simp at ha;subst ha;exact h.1⟩
 | _::_,_::_,h,k+1,a,ha=>by simpa using at_ h.2 (k:=k) (a:=a) (by simpa using ha)
 | [],[],_,_,_,ha=>by simp at ha
 | [],_::_,h,_,_,_=>h.elim
 | _::_,[],h,_,_,_=>h.elim
theorem set:∀ {l:List α} {r:List β},All2 Q l r→∀ {k:Nat} {a:α} {b:β},Q a b→All2 Q (l.set k a) (r.set k b)
 | [],[],_,_,_,_,_=>trivial
 | _::_,_::_,h,0,_,_,hq=>⟨hq,h.2⟩
 | _::_,_::_,h,_+1,_,_,hq=>⟨h.1,set h.2 hq⟩
 | [],_::_,h,_,_,_,_=>h.elim
 | _::_,[],h,_,_,_,_=>h.elim
theorem map {f:β→γ} {Q'':α→γ→Prop} (hf:∀ a b,Q a b→Q'' a (f b)):∀ {l:List α} {r:List β},All2 Q l r→All2 Q'' l (r.map f)
 | [],[],_=>trivial
 | _::_,_::_,h=>⟨hf _ _ h.1,map hf h.2⟩
 | [],_::_,h=>h.elim
 | _::_,[],h=>h.elim
theorem fn (hq:∀ a b b',Q a b→Q a b'→b=b'):∀ {l:List α} {r r':List β},All2 Q l r→All2 Q l r'→r=r'
 | [],[],[],_,_=>rfl
 | _::_,_::_,_::_,h,h'=>by rw[hq _ _ _ h.1 h'.1,fn hq h.2 h'.2]
 | [],_::_,_,h,_=>h.elim
 | [],[],_::_,_,h=>h.elim
 | _::_,[],_,h,_=>h.elim
 | _::_,_::_,[],_,h=>h.elim
end All2
theorem zn {b:Bool} {t:R} {y:Out} (h:cB b t fail=some y):b=true∧t=some y:=by cases b<;>simp_all [cB,fail]
theorem zir {α:Type} {x:Option α} {K:α→R} {y:Out} (h:oV x K=some y):∃ v,x=some v∧K v=some y:=by cases x<;>simp_all [oV,fail]
theorem fN_eq (k:Nat→R) (n:Nat):fN k n=k n:=by cases n<;>rfl
theorem zKS (k:Int→R) (n:Int):fI k n=k n:=by cases n<;>simp only[fI,fN_eq]
theorem zqh {b:Bool} {K:V→R}:kB b K=K (.c (.t b)):=by cases b<;>rfl
theorem zbb {α:Type} (l:List α) (K:Nat→R):zdp l K=K l.length:=by
 unfold zdp;rw[fN_eq];congr 1
 induction l with
 | nil=>rfl
 | cons a r ih=>simp only[List.length_cons,←ih]
theorem zkU {α:Type}:∀ (l r:List α) (K:List α→R),appK l r K=K (l++r)
 | [],_,_=>rfl
 | a::l,r,K=>zkU l r fun r'=>K (a::r')
theorem ztR {α:Type} (l:List α):∀ (n:Nat) (K:List α→R),zvT l n K=K (List.replicate n l).flatten
 | 0,_=>rfl
 | n+1,K=>by
  have h:zvT l (n+1) K=zvT l n fun r=>appK l r K:=rfl
  rw[h,ztR l n,zkU];rfl
theorem zyx {α:Type} {y:Out}:∀ {n:Nat} {l:List α} {K:List α→R},zDG n l K=some y→n≤l.length∧K (l.drop n)=some y
 | 0,_,_,h=>⟨Nat.zero_le _,h⟩
 | _+1,[],_,h=>by cases h
 | n+1,_::l,K,h=>by
  obtain⟨h1,h2⟩:=zyx (n:=n) (l:=l) (K:=K) h
  exact⟨Nat.succ_le_succ h1,h2⟩
theorem zqL {α:Type} {y:Out}:∀ {n:Nat} {l:List α} {K:List α→R},zoh n l K=some y→n≤l.length∧K (l.take n)=some y
 | 0,_,_,h=>⟨Nat.zero_le _,h⟩
 | _+1,[],_,h=>by cases h
 | n+1,a::l,K,h=>by
  obtain⟨h1,h2⟩:=zqL (n:=n) (l:=l) (K:=fun r=>K (a::r)) h
  exact⟨Nat.succ_le_succ h1,h2⟩
theorem zCJ {α:Type} {y:Out}:∀ {vs l:List α} {K:List α→R},zIl vs l K=some y→vs.length≤l.length∧K (vs++l.drop vs.length)=some y
 | [],_,_,h=>⟨Nat.zero_le _,h⟩
 | _::_,[],_,h=>by cases h
 | v::vs,a::l,K,h=>by
  obtain⟨h1,h2⟩:=zCJ (vs:=vs) (l:=l) (K:=fun r=>K (v::r)) h
  exact⟨Nat.succ_le_succ h1,h2⟩
theorem ztv {α:Type} {y:Out}:∀ {o:Nat} {l vs:List α} {K:List α→R},zyu o l vs K=some y→o+vs.length≤l.length∧K (splice l o vs)=some y
 | 0,l,vs,K,h=>by
  obtain⟨h1,h2⟩:=zCJ (vs:=vs) (l:=l) (K:=K) h
  exact⟨by omega,by simpa[splice] using h2⟩
 | _+1,[],_,_,h=>by cases h
 | o+1,a::l,vs,K,h=>by
  obtain⟨h1,h2⟩:=ztv (o:=o) (l:=l) (vs:=vs) (K:=fun r=>K (a::r)) h
  refine⟨by simp only[List.length_cons];omega,?_⟩
  have e:splice (a::l) (o+1) vs=a::splice l o vs:=by simp[splice,Nat.add_right_comm o 1]
  rw[e];exact h2
theorem zqM {α:Type} {y:Out}:∀ {l:List α} {k:Nat} {K:α→R},ztr l k K=some y→∃ a,l[k]? = some a∧K a=some y
 | [],_,_,h=>by cases h
 | a::_,0,_,h=>⟨a,rfl,h⟩
 | _::l,k+1,K,h=>by simpa using zqM (l:=l) (k:=k) (K:=K) h
theorem zBg {α:Type} {y:Out}:∀ {l:List α} {k:Nat} {x:α} {K:List α→R},setK l k x K=some y→k<l.length∧K (l.set k x)=some y
 | [],_,_,_,h=>by cases h
 | _::l,0,_,_,h=>⟨by simp,h⟩
 | a::l,k+1,x,K,h=>by
  obtain⟨h1,h2⟩:=zBg (l:=l) (k:=k) (x:=x) (K:=fun r=>K (a::r)) h
  exact⟨by simp only[List.length_cons];omega,h2⟩
theorem zFT {α:Type} {y:Out}:∀ {l:List α} {k:Nat} {K:List α→R},zGW l k K=some y→k<l.length∧K (l.eraseIdx k)=some y
 | [],_,_,h=>by cases h
 | _::l,0,_,h=>⟨by simp,h⟩
 | a::l,k+1,K,h=>by
  obtain⟨h1,h2⟩:=zFT (l:=l) (k:=k) (K:=fun r=>K (a::r)) h
  exact⟨by simp only[List.length_cons];omega,h2⟩
theorem zqN {cs:List C} {o n:Nat} {K:List C→R} {y:Out} (h:takeC cs o n K=some y):o+n≤cs.length∧K ((cs.drop o).take n)=some y:=by
 obtain⟨h1,h2⟩:=zyx h
 obtain⟨h3,h4⟩:=zqL h2
 rw[List.length_drop] at h3
 exact⟨by omega,h4⟩
namespace T
variable {α:Type}
theorem get_1 (l r:T α) (v:Option α) (m:Nat):(T.n l v r).get (m+1)=if Nat.beq (m % 2) 1 then r.get (m / 2) else l.get (m / 2):=by
 show (Bool.rec (l.get (m / 2)) (r.get (m / 2)) (Nat.beq (m % 2) 1):Option α)=_
 cases Nat.beq (m % 2) 1<;>rfl
noncomputable def put (t:T α) (k:Nat) (x:Option α):T α:=t.set k x id
theorem set_put {ρ:Type}:∀ (t:T α) (k:Nat) (x:Option α) (K:T α→ρ),t.set k x K=K (t.put k x)
 | .e,_,_,_=>rfl
 | .n _ _ _,0,_,_=>rfl
 | .n l v r,m+1,x,K=>by
  unfold put
  show (Bool.rec (l.set (m / 2) x fun l'=>K (.n l' v r)) (r.set (m / 2) x fun r'=>K (.n l v r')) (Nat.beq (m % 2) 1):ρ)=K (Bool.rec (motive:=fun _=>T α) (l.set (m / 2) x fun l'=>id (.n l' v r)) (r.set (m / 2) x fun r'=>id (.n l v r')) (Nat.beq (m % 2) 1))
  cases Nat.beq (m % 2) 1
  ·show l.set (m / 2) x _=K (l.set (m / 2) x _)
   rw[set_put l,set_put l];rfl
  ·show r.set (m / 2) x _=K (r.set (m / 2) x _)
   rw[set_put r,set_put r];rfl
theorem zIr (l r:T α) (v:Option α) (m:Nat) (x:Option α):(T.n l v r).put (m+1) x=if Nat.beq (m % 2) 1 then .n l v (r.put (m / 2) x) else .n (l.put (m / 2) x) v r:=by
 unfold put
 show (Bool.rec (l.set (m / 2) x fun l'=>id (.n l' v r)) (r.set (m / 2) x fun r'=>id (.n l v r')) (Nat.beq (m % 2) 1):T α)=_
 cases Nat.beq (m % 2) 1
 ·show l.set (m / 2) x _=_
  rw[set_put l];rfl
 ·show r.set (m / 2) x _=_
  rw[set_put r];rfl
theorem zyy:∀ {f k j:Nat} {x:Option α} {y:α},(T.one f k x).get j=some y→j=k∧x=some y
 | 0,_,_,_,_,h=>by cases h
 | _+1,0,0,x,y,h=>⟨rfl,h⟩
 | _+1,0,j+1,x,y,h=>by
  have e:∀ f,(T.one (f+1) 0 x:T α) = .n .e x .e:=fun _=>rfl
  rw[e,get_1] at h
  split at h<;>cases h
 | f+1,m+1,j,x,y,h=>by
  have e:(T.one (f+1) (m+1) x:T α)=Bool.rec (.n (T.one f (m / 2) x) none .e) (.n .e none (T.one f (m / 2) x)) (Nat.beq (m % 2) 1):=rfl
  rw[e] at h
  cases hm:Nat.beq (m % 2) 1 with
  | true=>
   rw[hm] at h
   have hm':m % 2=1:=Nat.eq_of_beq_eq_true hm
   cases j with
   | zero=>cases h
   | succ j=>
    replace h:(T.n .e none (T.one f (m / 2) x):T α).get (j+1)=some y:=h
    rw[get_1] at h
    split at h
    ·rename_i hj
     have hj':j % 2=1:=Nat.eq_of_beq_eq_true hj
     obtain⟨h1,h2⟩:=zyy h
     exact⟨by omega,h2⟩
    ·cases h
  | false=>
   rw[hm] at h
   have hm':m % 2≠1:=fun e=>by rw[e] at hm;cases hm
   cases j with
   | zero=>cases h
   | succ j=>
    replace h:(T.n (T.one f (m / 2) x) none .e:T α).get (j+1)=some y:=h
    rw[get_1] at h
    split at h
    ·cases h
    ·rename_i hj
     have hj':j % 2≠1:=fun e=>by rw[e] at hj;exact hj rfl
     obtain⟨h1,h2⟩:=zyy h
     exact⟨by omega,h2⟩
theorem get_put:∀ {t:T α} {k j:Nat} {x:Option α} {y:α},(t.put k x).get j=some y→(j=k∧x=some y)∨(j≠k∧t.get j=some y)
 | .e,k,j,x,y,h => .inl (zyy (f:=40) (show (T.one 40 k x).get j=some y from h))
 | .n _ _ _,0,0,x,y,h => .inl ⟨rfl,h⟩
 | .n l v r,0,j+1,x,y,h=>by
  have e:(T.n l v r).put 0 x = .n l x r:=rfl
  rw[e,get_1] at h
  exact .inr ⟨by omega,by rw[get_1];exact h⟩
 | .n l v r,m+1,0,x,y,h=>by
  rw[zIr] at h
  refine .inr ⟨by omega,?_⟩
  split at h<;>exact h
 | .n l v r,m+1,j+1,x,y,h=>by
  rw[zIr] at h
  rw[get_1]
  cases hm:Nat.beq (m % 2) 1<;>cases hj:Nat.beq (j % 2) 1<;>simp only[hm,Bool.false_eq_true,if_false,if_true] at h<;>rw[get_1,hj] at h<;>simp only[Bool.false_eq_true,if_false,if_true] at h ⊢
  ·have hm':m % 2≠1:=fun e=>by rw[e] at hm;cases hm
   have hj':j % 2≠1:=fun e=>by rw[e] at hj;cases hj
   rcases get_put h with ⟨h1,h2⟩|⟨h1,h2⟩
   ·exact .inl ⟨by omega,h2⟩
   ·exact .inr ⟨by omega,h2⟩
  ·have hm':m % 2≠1:=fun e=>by rw[e] at hm;cases hm
   have hj':j % 2=1:=Nat.eq_of_beq_eq_true hj
   exact .inr ⟨by omega,h⟩
  ·have hj':j % 2≠1:=fun e=>by rw[e] at hj;cases hj
   have hm':m % 2=1:=Nat.eq_of_beq_eq_true hm
   exact .inr ⟨by omega,h⟩
  ·have hm':m % 2=1:=Nat.eq_of_beq_eq_true hm
   have hj':j % 2=1:=Nat.eq_of_beq_eq_true hj
   rcases get_put h with ⟨h1,h2⟩|⟨h1,h2⟩
   ·exact .inl ⟨by omega,h2⟩
   ·exact .inr ⟨by omega,h2⟩
end T
structure E where
 addr:Nat
 cap:Nat
 nil:Bool
 sp:List Value
def zG (l:List Nat):ByteArray:=⟨(l.map UInt8.ofNat).toArray⟩
def C.val (σ:List E):C→Option Value
 | .n q x=>some (.int q x)
 | .t x=>some (.bool x)
 | .s x=>some (.string (zG x))
 | .p a o=>(σ[a]?).map fun e => .pointer (some ⟨e.addr,o,none⟩)
 | .np=>some (.pointer none)
 | .l a o x y=>(σ[a]?).map fun e => .slice (some ⟨e.addr,o,none⟩) x y
 | .g a o d x=>(σ[a]?).bind fun e=>if e.nil=true then (if x=0∧o=0∧d=0 then some (.slice none 0 0) else none) else (if d+x≤e.cap then some (.slice (some ⟨e.addr,o,none⟩) x (e.cap - d)) else none)
 | .nl=>some (.slice none 0 0)
 | .m a=>(σ[a]?).map fun e => .map (some e.addr)
 | .nm=>some (.map none)
 | .b _ _=>none
 | .f x=>some (.func (.func x) #[] #[])
 | .fm x a o=>(σ[a]?).map fun e => .func (.func x) #[.pointer (some ⟨e.addr,o,none⟩)] #[]
 | .h a o d k z w=>(σ[a]?).bind fun e=>if e.nil=false∧d+k≤e.cap then some (.slice (zaq (some ⟨e.addr,o,none⟩) k (e.cap - d) z) 0 (if w then 0 else e.cap - d - k)) else none
 | .ni=>some .nilIface
 | .nf=>some .nilFunc
def CR (σ:List E) (c:C) (v:Value):Prop:=c.val σ=some v
def SCR (σ:List E) (nb:Nat) (c:C) (x:SC):Prop:=match c with | .b j o=>j<nb∧x = .bx j o|c=>∃ v,c.val σ=some v∧x = .v v
def WR (σ:List E) (w:W) (v:Value):Prop:=match w with | .c x=>CR σ x v | .ag l=>∃ vs,All2 (CR σ) l vs∧v = .agg vs.toArray | .fn g l=>∃ vs,All2 (CR σ) l vs∧v = .func (.func g) #[] vs.toArray
def VR (σ:List E) (nb:Nat) (v:V) (sv:SV):Prop:=
 match v with
 | .c x=>(∃ sc,SCR σ nb x sc∧sv = .c sc)∨(∃ b,x = .t b∧sv = .sb b)
 | .ag l=>∃ cs,All2 (SCR σ nb) l cs∧sv = .ag cs
 | .fn g l=>(∃ cs,All2 (SCR σ nb) l cs∧sv = .fn g cs)∨(∃ vs,All2 (CR σ) l vs∧sv = .c (.v (.func (.func g) #[] vs.toArray)))
 | .tp l=>∃ vs,All2 (WR σ) l vs∧sv = .c (.v (.tuple vs.toArray))
 | .sl j n=>j<nb∧sv = .sl j n
 | .dead=>sv = .dead
def OVR (σ:List E) (v:V) (x:Value):Prop:=match v with | .c c=>CR σ c x | .ag l=>WR σ (.ag l) x | .fn g l=>WR σ (.fn g l) x | .tp l=>∃ vs,All2 (WR σ) l vs∧x = .tuple vs.toArray|_=>False
def EnR (σ:List E) (e:En) (m:MapEntry):Prop:=WR σ e.key m.key∧WR σ e.val m.val∧m.born=e.born
def mR (σ:List E) (m:Option Nat) (x:Option Nat):Prop:=match m with|none=>x=none|some a=>∃ e,σ[a]? = some e∧x=some e.addr
def OR (σ:List E) (e:E) (o:O) (M:Mem):Prop:=
 match o with
 | .row T l=>e.nil=false∧∃ vs,All2 (CR σ) l vs∧M e.addr=some (.cells vs.toArray T (0,0))
 | .ro T l=>e.nil=false∧∃ vs,All2 (CR σ) l vs∧M e.addr=some (.cells vs.toArray T (vs.length,vs.length+1))
 | .gr T z l=>∃ vs,All2 (CR σ) l vs∧((e.nil=true∧l=[]∧e.cap=0)∨(e.nil=false∧M e.addr=some (.cells (vs++e.sp).toArray T (0,0))∧(vs++e.sp).length=e.cap*z))
 | .mp es c=>e.nil=false∧∃ ms,All2 (EnR σ) es ms∧M e.addr=some (.map ms.toArray c)
 | .it m a s t=>e.nil=false∧∃ x,mR σ m x∧M e.addr=some (.mapIter x a s.toArray t)
 | .si l p=>e.nil=false∧M e.addr=some (.stringIter (zG l) p)
def BR (σ:List E) (nb:Nat) (b:B) (x:BE):Prop:=match b with | .live T l=>∃ cs,All2 (SCR σ nb) l cs∧x = .live T cs | .gone a=>∃ e,σ[a]? = some e∧x = .gone e.addr | .dark=>∃ a,x = .gone a
def FR (σ:List E) (nb:Nat) (s:S) (fr:List (Nat×SV)):Prop:=∀ d v,s.fget d=some v→v ≠ .dead∧∃ sv,lk fr d=some sv∧VR σ nb v sv
structure HR (σ:List E) (H:T O) (M:Mem):Prop where
 has:∀ a o,H.get a=some o→∃ e,σ[a]? = some e∧OR σ e o M
 inj:∀ a b oa ob ea eb,H.get a=some oa→H.get b=some ob→σ[a]? = some ea→σ[b]? = some eb→ea.nil=false→eb.nil=false→ea.addr=eb.addr→a=b
structure SR (σ:List E) (s:S) (t:St):Prop where
 n:s.n=σ.length
 fr:FR σ t.bx.length s t.fr
 bx:All2 (BR σ t.bx.length) s.bx t.bx
 h:HR σ s.H t.M
def S.rd (s:S) (a:Nat):Prop:=match s.g with|none=>True|some l=>mem a l=true
structure QR (σ:List E) (nb:Nat) (s:S) (t:St):Prop where
 fr:FR σ nb s t.fr
 bx:All2 (BR σ nb) s.bx t.bx
 h:∀ a o,s.rd a→s.H.get a=some o→∃ e,σ[a]? = some e∧OR σ e o t.M
theorem SR.q {σ:List E} {s:S} {t:St} (h:SR σ s t):QR σ t.bx.length s t:=⟨h.fr,h.bx,fun a o _ ha=>h.h.has a o ha⟩
theorem C.val_mono {σ:List E} (τ:List E) {c:C} {v:Value} (h:c.val σ=some v):c.val (σ++τ)=some v:=by
 have key:∀ {a:Nat} {e:E},σ[a]? = some e→(σ++τ)[a]? = some e:=fun {a e} he=>by
  rw[List.getElem?_append_left (List.getElem?_eq_some_iff.1 he).1];exact he
 cases c with
 | p a o=>simp only[C.val,Option.map_eq_some_iff] at h ⊢; obtain⟨e,h1,h2⟩:=h;exact⟨e,key h1,h2⟩
 | l a o n c=>simp only[C.val,Option.map_eq_some_iff] at h ⊢; obtain⟨e,h1,h2⟩:=h;exact⟨e,key h1,h2⟩
 | m a=>simp only[C.val,Option.map_eq_some_iff] at h ⊢; obtain⟨e,h1,h2⟩:=h;exact⟨e,key h1,h2⟩
 | g a o d n=>simp only[C.val,Option.bind_eq_some_iff] at h ⊢; obtain⟨e,h1,h2⟩:=h;exact⟨e,key h1,h2⟩
 | fm g a o=>simp only[C.val,Option.map_eq_some_iff] at h ⊢; obtain⟨e,h1,h2⟩:=h;exact⟨e,key h1,h2⟩
 | h a o d k z w=>simp only[C.val,Option.bind_eq_some_iff] at h ⊢; obtain⟨e,h1,h2⟩:=h;exact⟨e,key h1,h2⟩
 | _=>exact h
theorem CR.mono {σ:List E} (τ:List E) {c:C} {v:Value} (h:CR σ c v):CR (σ++τ) c v:=C.val_mono τ h
theorem SCR.mono {σ:List E} {nb nb':Nat} (τ:List E) (hn:nb≤nb') {c:C} {x:SC} (h:SCR σ nb c x):SCR (σ++τ) nb' c x:=by
 cases c with
 | b j o=>exact⟨Nat.lt_of_lt_of_le h.1 hn,h.2⟩
 | _=>obtain⟨v,h1,h2⟩:=h;exact⟨v,C.val_mono τ h1,h2⟩
theorem WR.mono {σ:List E} (τ:List E) {w:W} {v:Value} (h:WR σ w v):WR (σ++τ) w v:=by
 cases w with
 | c x=>exact CR.mono τ h
 | ag l=>obtain⟨vs,h1,h2⟩:=h;exact⟨vs,h1.imp fun _ _=>CR.mono τ,h2⟩
 | fn g l=>obtain⟨vs,h1,h2⟩:=h;exact⟨vs,h1.imp fun _ _=>CR.mono τ,h2⟩
theorem VR.mono {σ:List E} {nb nb':Nat} (τ:List E) (hn:nb≤nb') {v:V} {sv:SV} (h:VR σ nb v sv):VR (σ++τ) nb' v sv:=by
 cases v with
 | c x=>exact h.imp (fun ⟨sc,h1,h2⟩=>⟨sc,h1.mono τ hn,h2⟩) id
 | ag l=>obtain⟨cs,h1,h2⟩:=h;exact⟨cs,h1.imp fun _ _=>SCR.mono τ hn,h2⟩
 | fn g l=>exact h.imp (fun ⟨cs,h1,h2⟩=>⟨cs,h1.imp fun _ _=>SCR.mono τ hn,h2⟩) (fun ⟨vs,h1,h2⟩=>⟨vs,h1.imp fun _ _=>CR.mono τ,h2⟩)
 | tp l=>obtain⟨vs,h1,h2⟩:=h;exact⟨vs,h1.imp fun _ _=>WR.mono τ,h2⟩
 | sl j n=>exact⟨Nat.lt_of_lt_of_le h.1 hn,h.2⟩
 | dead=>exact h
theorem zmv {σ:List E} (τ:List E) {a:Nat} {e:E} (he:σ[a]? = some e):(σ++τ)[a]? = some e:=by
 rw[List.getElem?_append_left (List.getElem?_eq_some_iff.1 he).1];exact he
theorem EnR.mono {σ:List E} (τ:List E) {e:En} {m:MapEntry} (h:EnR σ e m):EnR (σ++τ) e m:=⟨h.1.mono τ,h.2.1.mono τ,h.2.2⟩
theorem OR.mono {σ:List E} (τ:List E) {e:E} {o:O} {M:Mem} (h:OR σ e o M):OR (σ++τ) e o M:=by
 cases o with
 | row T l=>obtain⟨h0,vs,h1,h2⟩:=h;exact⟨h0,vs,h1.imp fun _ _=>CR.mono τ,h2⟩
 | ro T l=>obtain⟨h0,vs,h1,h2⟩:=h;exact⟨h0,vs,h1.imp fun _ _=>CR.mono τ,h2⟩
 | gr T z l=>obtain⟨vs,h1,h2⟩:=h;exact⟨vs,h1.imp fun _ _=>CR.mono τ,h2⟩
 | mp es c=>obtain⟨h0,ms,h1,h2⟩:=h;exact⟨h0,ms,h1.imp fun _ _=>EnR.mono τ,h2⟩
 | it m a s t=>
  obtain⟨h0,x,h1,h2⟩:=h
  refine⟨h0,x,?_,h2⟩
  cases m with
  | none=>exact h1
  | some a=>obtain⟨e,h3,h4⟩:=h1;exact⟨e,zmv τ h3,h4⟩
 | si l p=>exact h
theorem BR.mono {σ:List E} {nb nb':Nat} (τ:List E) (hn:nb≤nb') {b:B} {x:BE} (h:BR σ nb b x):BR (σ++τ) nb' b x:=by
 cases b with
 | live T l=>obtain⟨cs,h1,h2⟩:=h;exact⟨cs,h1.imp fun _ _=>SCR.mono τ hn,h2⟩
 | gone a=>obtain⟨e,h1,h2⟩:=h;exact⟨e,zmv τ h1,h2⟩
 | dark=>exact h
theorem FR.mono {σ:List E} {nb nb':Nat} (τ:List E) (hn:nb≤nb') {s:S} {fr:List (Nat×SV)} (h:FR σ nb s fr):FR (σ++τ) nb' s fr:=fun d v hd=>by
 obtain⟨h0,sv,h1,h2⟩:=h d v hd
 exact⟨h0,sv,h1,h2.mono τ hn⟩
theorem CR.fn {σ:List E} {c:C} {v v':Value} (h:CR σ c v) (h':CR σ c v'):v=v':=by unfold CR at h h';rw[h] at h';exact Option.some.inj h'
theorem CR.sc {σ:List E} {nb:Nat} {c:C} {v:Value} (h:CR σ c v):SCR σ nb c (.v v):=by
 cases c with
 | b j o=>cases h
 | _=>exact⟨v,h,rfl⟩
theorem CR.one {σ:List E} {c:C} {v:Value} (h:CR σ c v):v.oneCell'=true:=by
 unfold CR at h
 cases c<;>simp only[C.val,Option.map_eq_some_iff,Option.bind_eq_some_iff,Option.some.injEq,reduceCtorEq] at h<;>first
  | (subst h;rfl)
  | (obtain⟨e, -, rfl⟩:=h;rfl)
  | (obtain⟨e, -, h⟩:=h;split at h<;>split at h<;>first|(cases h;rfl)|cases h)
  | (obtain⟨e, -, h⟩:=h;split at h<;>first|(cases h;rfl)|cases h)
theorem ztw {σ:List E} {nb:Nat} {c:C} {v:Value} (h:CR σ c v):VR σ nb (.c c) (zeI v):=by
 have h1:=h.one
 cases v with
 | bool b=>
  right
  refine⟨b,?_,rfl⟩
  unfold CR at h
  cases c<;>simp only[C.val,Option.map_eq_some_iff,Option.bind_eq_some_iff,Option.some.injEq,reduceCtorEq,and_false,exists_false] at h<;>first
   | (cases h;rfl)
   | (obtain⟨e, -, h⟩:=h;split at h<;>split at h<;>cases h)
   | (obtain⟨e, -, h⟩:=h;split at h<;>cases h)
 | agg cs=>cases h1
 | tuple cs=>cases h1
 | _=>exact .inl ⟨_,h.sc,rfl⟩
theorem ztS {σ:List E} {nb:Nat} {w:W} {v:Value} (h:WR σ w v):VR σ nb (V.ofW w) (zeI v):=by
 cases w with
 | c x=>exact ztw h
 | ag l=>
  obtain⟨vs,h1,rfl⟩:=h
  exact⟨vs.map .v,h1.map fun _ _ h=>CR.sc h,by simp[zeI]⟩
 | fn g l=>
  obtain⟨vs,h1,rfl⟩:=h
  exact .inr ⟨vs,h1,rfl⟩
theorem zKU {σ:List E} {nb:Nat} {v:V} {x:Value} (h:OVR σ v x):VR σ nb v (zeI x):=by
 cases v with
 | c c=>exact ztw h
 | ag l=>exact ztS (w := .ag l) h
 | fn g l=>exact ztS (w := .fn g l) h
 | tp l=>obtain⟨vs,h1,rfl⟩:=h;exact⟨vs,h1,rfl⟩
 | sl j n=>exact h.elim
 | dead=>exact h.elim
theorem zI1 (s:ByteArray):zG (s.toList.map UInt8.toNat)=s:=by
 unfold zG
 have:(s.toList.map UInt8.toNat).map UInt8.ofNat=s.toList:=by
  rw[List.map_map]
  conv=>rhs;rw[←List.map_id s.toList]
  apply List.map_congr_left
  intro a _
  simp
 rw[this,ByteArray.toList_eq]
theorem C.ofV_s {v:Value} {c:C} (h:C.ofV v=some c) (σ:List E):CR σ c v:=by
 unfold C.ofV at h
 split at h<;>first
  | (cases h;rfl)
  | (cases h;simp only[CR,C.val,zI1])
  | cases h
theorem zoS {y:Out} (σ:List E):∀ {vs:List Value} {K:List C→R},zts vs K=some y→∃ l,All2 (CR σ) l vs∧K l=some y
 | [],K,h=>⟨[],trivial,h⟩
 | v::vs,K,h=>by
  obtain⟨c,h1,h2⟩:=zir (K:=fun c=>zts vs fun r=>K (c::r)) h
  obtain⟨l,h3,h4⟩:=zoS σ (vs:=vs) (K:=fun r=>K (c::r)) h2
  exact⟨c::l,⟨C.ofV_s h1 σ,h3⟩,h4⟩
theorem ofV_s {v:Value} {K:V→R} {y:Out} (h:V.ofV v K=some y) (σ:List E) (nb:Nat):∃ x,(∃ w,(x = .c w∧CR σ w v∨∃ l cs,x = .ag l∧v = .agg cs∧All2 (CR σ) l cs.toList))∧VR σ nb x (zz5 v)∧K x=some y:=by
 unfold V.ofV at h
 split at h
 ·rename_i cs
  obtain⟨l,h1,h2⟩:=zoS σ h
  exact⟨.ag l,⟨.ni,.inr ⟨l,cs,rfl,rfl,h1⟩⟩,⟨cs.toList.map .v,h1.map fun _ _ h=>CR.sc h,rfl⟩,h2⟩
 ·rename_i hv
  obtain⟨c,h1,h2⟩:=zir h
  have h3:=C.ofV_s h1 σ
  refine⟨.c c,⟨c,.inl ⟨rfl,h3⟩⟩,.inl ⟨.v v,h3.sc,?_⟩,h2⟩
  cases v<;>first|rfl|exact absurd rfl (hv _)
section
variable {σ:List E} {s:S} {t:St} {y:Out} {nb:Nat}
theorem zB {x:Operand} {K:V→R} (h:ev s x K=some y) (hf:FR σ nb s t.fr) {k:SV→Prop} (hk:∀ v sv,v ≠ .dead→VR σ nb v sv→K v=some y→k sv):Vm.ev t x k:=by
 cases x with
 | tmp d=>
  obtain⟨v,h1,h2⟩:=zir (K:=K) h
  obtain⟨h0,sv,h3,h4⟩:=hf d v h1
  show evO (lk t.fr d) k
  rw[h3]
  have h5:=hk v sv h0 h4 h2
  cases sv with
  | dead=>
   exfalso
   cases v with
   | c x=>rcases h4 with ⟨_,_,h⟩|⟨_,_,h⟩<;>cases h
   | ag l=>obtain⟨_,_,h⟩:=h4;cases h
   | fn g l=>rcases h4 with ⟨_,_,h⟩|⟨_,_,h⟩<;>cases h
   | tp l=>obtain⟨_,_,h⟩:=h4;cases h
   | sl j n=>cases h4.2
   | dead=>exact h0 rfl
  | _=>exact h5
 | const v=>
  obtain⟨x,⟨w,hx⟩,h1,h2⟩:=ofV_s (K:=K) h σ nb
  refine hk x _ ?_ h1 h2
  rintro rfl
  rcases hx with ⟨h,_⟩|⟨_,_,h,_⟩<;>cases h
 | func f=>exact hk (.c (.f f)) _ (by simp) (.inl ⟨.v (.func (.func f) #[] #[]),CR.sc (c := .f f) rfl,rfl⟩) h
 | global g=>cases h
end
end Go.Vm.Rn
