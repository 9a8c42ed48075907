/- Part of this proof;laid by program. -/
import Derived.Test.YtpnhjkiligohnaaGreatDoorJ30
import Derived.Test.YtpnhjkiligohnaaGreatDoorJ7
set_option linter.unusedVariables false
set_option linter.unusedSimpArgs false
namespace Go.Proofs.YtpnhjkiligohnaaGreatDoor
open Go Go.Vm
attribute [local irreducible] Brn Ob Grow CallsM inR zay zav Mem.row Mem.cells Mem.setCells Mem.upd Go.Vm.Own zaU zbF zbE zaV New SrcOk zah NewSl Mem.textAt Mem.mapAt Mem.iterAt zak kfind Wr NewEls Elems
set_option maxRecDepth 10000
open Rn Rn.Q
variable {M M' M0:Mem}
set_option maxRecDepth 100000
theorem Zs.row {E:TypeId} {z n c:Nat} {a:Option Addr} {L:List Value} {M2:Mem} (h:NewSl M E z a n c L M2) (hn:0<n) {l:List C} (hl:All2 (CR []) l L):∃ e,Zs M [e] (T.put .e 0 (some (.gr E z l))) M2∧CR [e] (.g 0 0 0 n) (.slice a n c):=by
 rw[newSl_iff] at h;obtain⟨h0,h1,h2,⟨ha,hc⟩|⟨b,cs,ha,hb,hh,hcl,ht⟩⟩:=h
 ·omega
 ·have ho:Vm.Own Mem.empty E z a n c L (Mem.empty.setCells b E cs):=by unfold Vm.Own;exact⟨h1,h2,.inr ⟨b,cs,ha,rfl,rfl,hcl,ht⟩⟩
  obtain⟨e,h3,h4⟩:=own_new (σ:=[]) (H := .e) (M0:=Mem.empty) ⟨fun _ _ h=>(by cases h),fun _ _ _ _ _ _ h=>(by cases h)⟩ hl ho;refine⟨e,⟨_,fun x o hx=>?_,h0,fun x=>?_,h3⟩,h4⟩
  ·unfold Mem.setCells at hx;by_cases hxb:x=b
   ·subst hxb;rw[Mem.upd_same] at hx;cases hx;exact hh
   ·rw[Mem.upd_ne _ _ hxb] at hx;cases hx
  ·by_cases hxb:x=b
   ·subst hxb;exact .inr hb
   ·left;unfold Mem.setCells;rw[Mem.upd_ne _ _ hxb];rfl
theorem start_ok:CallsM Tryz.prog F.zmm [] M fun v M'=>∃ q c,v = .slice q 12 c∧NewSl M T.zY 1 q 12 c ([1,0,20,100,20,200,100,3,2,2,2,0].map fun n=>Value.int .u8 n) M':=by
 refine zyv (by simp) ?_;(conv=>whnf);refine new (fun b hb=>?_);replace hb:M b=none:=hb;(conv=>whnf)
 exact⟨_,_,rfl,NewSl.lit hb _ _ _ _ rfl⟩
def runB:List Int:=[1,0,20,100,20,200,100,3,2,2,2,0,0,0,1,1,120,11,20]
noncomputable def jsp:Stg:=⟨8,zIh,.tp [.c (.p 16 0),.c (i 0)],9659,zFR⟩
theorem zNo:jsp.ok (run primsM zu 1000 40 F.zcr) [.ag [i 2,.g 4 0 0 1,i 20,i 800,i 20,i 51456,i 116,i 4,i 3,i 3,i 3,i 0,.g 7 0 0 2]]=true:=by kernel_rfl
theorem zNp:FOk Tryz.prog (run primsM zu 1000 40):=run_ok zHl zDk 1000 40
noncomputable def jsx:Stg:=⟨9664,zFS,.c (.s [55,56]),9667,.e⟩
theorem zNq:jsx.ok (run primsM zu 1000 40 F.zgz) [.c (.g 9662 0 0 1)]=true:=by kernel_rfl
theorem d0:dS 0=⟨#[48]⟩:=by unfold dS Lib.itoa;rw[if_neg (by decide),Lib.decDigits,dif_pos (by decide)];rfl
theorem d1:dS 1=⟨#[49]⟩:=by unfold dS Lib.itoa;rw[if_neg (by decide),Lib.decDigits,dif_pos (by decide)];rfl
theorem te1:zyf 0 1 1 1=⟨#[48,62,49,58,49,46,49]⟩:=by unfold zyf zK1;rw[if_neg (by decide),d0,d1];rfl
theorem ie1:zoy 0 1 1 1=0:=by decide
@[reducible] def tdV (s n:Int) (q:Option Addr) (m c:Nat) (o:Bool):Value := .agg #[.int .i64 s,.int .i64 n,.int .i64 0,.int .i64 1,.int .i64 1,.int .i64 1,.int .i64 0,.slice q m c,.bool o]
@[reducible] def zFT:ByteArray:=⟨#[48,32,48,32,97,99,99,101,112,116,101,100,32,48,62,49,58,49,46,49]⟩
@[reducible] def zJz:ByteArray:=⟨#[49,32,49,32,100,101,108,105,118,101,114,101,100,32,48,62,49,58,49,46,49,32,55,56]⟩
theorem zJA (hT:TabM Tryz.prog M) (q:Option Addr) (m c:Nat):CallsM Tryz.prog F.ziC [tdV 0 0 q m c false] M fun v M'=>v = .tuple #[.string zFT,.int .i64 0]∧M=M':=by
 refine zpr (by simp) ?_;refine zR ?_;refine(zhg hT (n:=0) (by decide)).mono ?_;rintro v _ ⟨rfl,rfl⟩;rw[d0];refine zR ?_;refine(zhg hT (n:=0) (by decide)).mono ?_;rintro v _ ⟨rfl,rfl⟩;rw[d0];refine zR ?_;refine(zDp hT 0 1 1 1).mono ?_;rintro v _ ⟨rfl,rfl⟩;rw[te1,ie1];refine zR ?_;(conv=>whnf)
 exact⟨rfl,rfl⟩
theorem zJB (hT:TabM Tryz.prog M) (q:Option Addr) (m c:Nat) {Q:Mem→Prop} (hx:CallsM Tryz.prog F.zgz [.slice q m c] M fun v M'=>v = .string ⟨#[55,56]⟩∧Q M') :
  CallsM Tryz.prog F.ziC [tdV 1 1 q m c true] M fun v M'=>v = .tuple #[.string zJz,.int .i64 0]∧Q M':=by
 refine zpr (by simp) ?_;refine zR ?_;refine(zhg hT (n:=1) (by decide)).mono ?_;rintro v _ ⟨rfl,rfl⟩;rw[d1];refine zR ?_;refine(zhg hT (n:=1) (by decide)).mono ?_;rintro v _ ⟨rfl,rfl⟩;rw[d1];refine zR ?_;refine(zDp hT 0 1 1 1).mono ?_;rintro v _ ⟨rfl,rfl⟩;rw[te1,ie1];refine zR ?_;refine hx.mono ?_;rintro v M1 ⟨rfl,hq⟩;refine zR ?_;(conv=>whnf)
 exact⟨rfl,hq⟩
end Go.Proofs.YtpnhjkiligohnaaGreatDoor
