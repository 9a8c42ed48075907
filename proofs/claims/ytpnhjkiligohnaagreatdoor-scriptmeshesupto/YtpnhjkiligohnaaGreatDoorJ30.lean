/- Part of this proof;laid by program. -/
import Derived.Test.YtpnhjkiligohnaaGreatDoorJ7
import Derived.Shelf.Strconv.Itoa3
import Derived.Test.YtpnhjkiligohnaaGreatDoorJ20
import Derived.Test.YtpnhjkiligohnaaGreatDoorJ21
import Derived.Test.YtpnhjkiligohnaaGreatDoorJ23
import Derived.Test.YtpnhjkiligohnaaGreatDoorJ24
import Derived.Test.YtpnhjkiligohnaaGreatDoorJ25
import Derived.Test.YtpnhjkiligohnaaGreatDoorJ26
import Derived.Test.YtpnhjkiligohnaaGreatDoorJ27
import Derived.Test.YtpnhjkiligohnaaGreatDoorJ28
import Derived.Test.YtpnhjkiligohnaaGreatDoorJ29
import Derived.Test.YtpnhjkiligohnaaGreatDoorJ9
import Derived.Test.YtpnhjkiligohnaaGreatDoorProg
import Derived.Test.YtpnhjkiligohnaaGreatDoorJ8
import Derived.Test.YtpnhjkiligohnaaGreatDoorJ6
set_option linter.unusedVariables false
set_option linter.unusedSimpArgs false
namespace Go.Vm
open Go.RowKit Go.Shelf Go.Sort Go.Proofs
section
variable {P:Program} {ρ:Ren}
def TabM (P:Program) (M:Mem):Prop:=∀ w:World,M.le (zj w)→Lib.TabIs P w "internal/strconv.uint64pow10" .u64 Lib.pow10Tab
theorem TabM.le {M M':Mem} (h:TabM P M) (hle:M.le M'):TabM P M':=fun w hw=>h w (Mem.le_trans hle hw)
theorem zLS (Ly:LaysM.n171 P ρ) (he:zfm P (ρ.f 171)=true) {M:Mem} (hT:TabM P M) {n:Int} (h0 : -9223372036854775808≤n) (h1:n≤9223372036854775807) :
  CallsM P (ρ.f 171) [.int .i64 n] M fun v M'=>v = .string ⟨(Lib.itoa n).toArray⟩∧M=M':=by
 refine⟨he,fun F w hM hF hdj=>?_⟩;refine(Any.strconv_Itoa Ly n h0 h1 w (hT w hM)).mono ?_;rintro e w' ⟨rfl,k,os,rfl⟩
 have keep:(zj w).le (zj (grow (w.drewN k) os)):=fun x o hx=>by
  have hlt:x<w.heap.size:=(Array.getElem?_eq_some_iff.1 hx).1;show (w.heap++os)[x]? = some o
  rw[Array.getElem?_append_left hlt];exact hx
 refine⟨_,M,rfl,⟨rfl,rfl⟩,Mem.le_trans hM keep,Mem.le_trans hF keep,hdj,rfl,rfl,rfl,?_,?_⟩
 ·show w.heap.size≤(w.heap++os).size;simp
 ·show w.drawn≤_;simp[grow,World.drewN]
end
end Go.Vm
namespace Go.Proofs.YtpnhjkiligohnaaGreatDoor
open Go Go.Vm Go.Vm.Rn Go.Vm.Rn.Q
set_option maxRecDepth 100000
noncomputable def primsM:T (List W→Nat→T O→R) := .n (.n (.n (.n (.e) (some (zmk zIg [spg0])) (.e)) none (.n (.e) none (.n (.e) none (.n (.e) (some (zmk zau [spg3,spg4,spg7,spg8,spg11,spg12,spg15,spg16,spg19,spg20,spg23,spg24,spg27,spg28,spg31,spg32,spg35,spg36,spg39,spg40,spg43,spg44,spg47,spg48,spg51,spg52,spg55,spg56,spg59,spg60,spg63,spg64,spg67,spg68,spg71,spg72,spg75,spg76,spg79,spg80])) (.e))))) none (.n (.n (.n (.n (.e) none (.n (.n (.e) (some zox) (.e)) none (.e))) (some (zmk zau [spg82])) (.e)) none (.e)) none (.e))) none (.n (.n (.e) none (.n (.e) none (.n (.n (.n (.e) (some (orP (zmk zd2 [spg1,spg5,spg9,spg13,spg17,spg21,spg25,spg29,spg33,spg37,spg41,spg45,spg49,spg53,spg57,spg61,spg65,spg69,spg73,spg77]) (zmk zd3 [spg2,spg6,spg10,spg14,spg18,spg22,spg26,spg30,spg34,spg38,spg42,spg46,spg50,spg54,spg58,spg62,spg66,spg70,spg74,spg78]))) (.e)) none (.e)) none (.e)))) none (.n (.e) none (.n (.n (.n (.n (.n (.e) none (.n (.e) (some zrm) (.e))) none (.n (.n (.e) (some ztX) (.e)) none (.e))) none (.e)) none (.e)) none (.e))))
theorem zHl:primsM.All (Prim Tryz.prog) := .no (.no (.no (.at (zlS zgj (all_cons zDo <| zpT)) (.nil) (.nil)) (.no (.nil) (.no (.nil) (.at (zlS zgj (all_cons zLL <| all_cons zLM <| all_cons zLP <| all_cons zLQ <| all_cons zIp <| all_cons zIq <| all_cons zIt <| all_cons zIu <| all_cons zIx <| all_cons zIy <| all_cons zIB <| all_cons zIC <| all_cons zIF <| all_cons zIG <| all_cons zIJ <| all_cons zIK <| all_cons zIN <| all_cons zIO <| all_cons zIR <| all_cons zIS <| all_cons zIV <| all_cons zIW <| all_cons zIZ <| all_cons zI0 <| all_cons zI3 <| all_cons zI4 <| all_cons zI7 <| all_cons zI8 <| all_cons zJb <| all_cons zJc <| all_cons zJf <| all_cons zJg <| all_cons zJj <| all_cons zJk <| all_cons zJn <| all_cons zJo <| all_cons zJr <| all_cons zJs <| all_cons zJv <| all_cons zJw <| zpT)) (.nil) (.nil))))) (.no (.no (.at (zlS zgj (all_cons zBX <| zpT)) (.no (.nil) (.no (.at ztu (.nil) (.nil)) (.nil))) (.nil)) (.nil)) (.nil))) (.no (.no (.nil) (.no (.nil) (.no (.no (.at (zOi (zlS zgj (all_cons zLJ <| all_cons zLN <| all_cons zLR <| all_cons zIr <| all_cons zIv <| all_cons zIz <| all_cons zID <| all_cons zIH <| all_cons zIL <| all_cons zIP <| all_cons zIT <| all_cons zIX <| all_cons zI1 <| all_cons zI5 <| all_cons zI9 <| all_cons zJd <| all_cons zJh <| all_cons zJl <| all_cons zJp <| all_cons zJt <| zpT)) (zlS zgj (all_cons zLK <| all_cons zLO <| all_cons zIo <| all_cons zIs <| all_cons zIw <| all_cons zIA <| all_cons zIE <| all_cons zII <| all_cons zIM <| all_cons zIQ <| all_cons zIU <| all_cons zIY <| all_cons zI2 <| all_cons zI6 <| all_cons zJa <| all_cons zJe <| all_cons zJi <| all_cons zJm <| all_cons zJq <| all_cons zJu <| zpT))) (.nil) (.nil)) (.nil)) (.nil)))) (.no (.nil) (.no (.no (.no (.no (.no (.nil) (.at zvx (.nil) (.nil))) (.no (.at zye (.nil) (.nil)) (.nil))) (.nil)) (.nil)) (.nil))))
end Go.Proofs.YtpnhjkiligohnaaGreatDoor
namespace Go.Vm.Rn
open Go.Vm
set_option linter.unusedVariables false
def Zs (M0:Mem) (σ:List E) (H:T O) (M:Mem):Prop:=∃ A:Mem,A.le M∧M0.le M∧A.disj M0∧HR σ H A
section
variable {P:Program} {F:Cal} {M0 M M':Mem} {σ:List E} {H:T O}
theorem Zs.base (h:Zs M0 σ H M):M0.le M:=by obtain⟨_,_,h,_⟩:=h;exact h
theorem Zs.sub (h:Zs M0 σ H M) {H':T O} (hs:H'.sub H id=true):Zs M0 σ H' M:=by
 obtain⟨A,h1,h2,h3,h4⟩:=h;exact⟨A,h1,h2,h3,h4.sub hs⟩
theorem ztY (hF:FOk P F) {g:Stg} {f:Nat} {ws:List W} {vs:List Value} (hok:g.ok (F f) ws=true) (hz:Zs M0 σ H M) (hn:σ.length=g.n) (hs:g.H.sub H id=true) (hvs:All2 (WR σ) ws vs) :
  CallsM P f vs M fun u M'=>∃ τ,(σ++τ).length=g.n'∧OVR (σ++τ) g.v u∧Zs M0 (σ++τ) g.H' M':=by
 obtain⟨A,hA,h0,hd,hr⟩:=hz;unfold Stg.ok at hok;split at hok
 ·rename_i v2 n2 H2 hrun;obtain⟨h5,h6⟩:=zs hok;obtain⟨h7,h8⟩:=zs h6;have e3:=V.eqb_s h5
  have e4:=zE h7;subst e3;refine(CallsM.frame (hF hrun rfl hn (hr.sub hs) hvs) hA).mono ?_;rintro u M' ⟨A',⟨τ,h9,h10,h11⟩,hA',hk⟩;refine⟨τ,h9.trans e4,h10,A',hA',fun x o hx=>?_,fun x=>?_,h11.sub h8⟩
  ·have hAx:A x=none:=(hd x).resolve_right (by rw[hx];simp);exact(hk x o hAx (h0 x o hx)).1
  ·cases hx:M0 x with
   | none=>exact .inr rfl
   | some o=>
    have hAx:A x=none:=(hd x).resolve_right (by rw[hx];simp);exact .inl (hk x o hAx (h0 x o hx)).2
 ·cases hok
theorem ztv {k:Nat} {v:Value} (h:CR σ (.p k 0) v):∃ e,σ[k]? = some e∧v = .pointer (some ⟨e.addr,0,none⟩):=by
 simp only[CR,C.val,Option.map_eq_some_iff] at h;obtain⟨e,h1,h2⟩:=h;exact⟨e,h1,h2.symm⟩
theorem zBY {k:Nat} {e:E} (h:σ[k]? = some e):CR σ (.p k 0) (.pointer (some ⟨e.addr,0,none⟩)):=by
 simp[CR,C.val,h]
theorem ztw {k:Nat} {e:E} (h:σ[k]? = some e) (τ:List E):(σ++τ)[k]? = some e:=by
 rw[List.getElem?_append_left (List.getElem?_eq_some_iff.1 h).1,h]
end
end Go.Vm.Rn
namespace Go.Proofs.YtpnhjkiligohnaaGreatDoor
open Go Go.Proofs Go.Shelf
def Tryz.laysM171_ren:Go.Shelf.Ren:=⟨fun|171=>48|243=>64|246=>86|283=>124|284=>125|285=>126|286=>127|129=>182|317=>181|318=>183|319=>184|320=>185|337=>243|338=>244|n=>n,fun|3=>3|9=>9|2=>2|4=>4|171=>200|0=>0|53=>201|37=>22|5=>5|173=>204|212=>274|51=>275|20=>20|213=>276|46=>150|232=>375|233=>376|n=>n,fun|17=>0|18=>1|19=>2|n=>n⟩
theorem Tryz.laysM171:Go.Proofs.LaysM.n171 Tryz.prog Tryz.laysM171_ren:={
 mixed:=by kernel_rfl
 f129:=Tryz.func182.trans (congrArg some (by kernel_rfl))
 f171:=Tryz.func48.trans (congrArg some (by kernel_rfl))
 f243:=Tryz.func64.trans (congrArg some (by kernel_rfl))
 f246:=Tryz.func86.trans (congrArg some (by kernel_rfl))
 f283:=Tryz.func124.trans (congrArg some (by kernel_rfl))
 f284:=Tryz.func125.trans (congrArg some (by kernel_rfl))
 f285:=Tryz.func126.trans (congrArg some (by kernel_rfl))
 f286:=Tryz.func127.trans (congrArg some (by kernel_rfl))
 f317:=Tryz.func181.trans (congrArg some (by kernel_rfl))
 f318:=Tryz.func183.trans (congrArg some (by kernel_rfl))
 f319:=Tryz.func184.trans (congrArg some (by kernel_rfl))
 f320:=Tryz.func185.trans (congrArg some (by kernel_rfl))
 f337:=Tryz.func243.trans (congrArg some (by kernel_rfl))
 f338:=Tryz.func244.trans (congrArg some (by kernel_rfl))
 t0:=Tryz.underlying0
 a0:=Tryz.isAgg0
 z0:=Tryz.sizeOf0
 v0:=Tryz.zeroValue0
 t2:=Tryz.underlying2
 a2:=Tryz.isAgg2
 z2:=Tryz.sizeOf2
 v2:=Tryz.zeroValue2
 t3:=Tryz.underlying3
 a3:=Tryz.isAgg3
 z3:=Tryz.sizeOf3
 v3:=Tryz.zeroValue3
 t4:=Tryz.underlying4
 a4:=Tryz.isAgg4
 z4:=Tryz.sizeOf4
 v4:=Tryz.zeroValue4
 t5:=Tryz.underlying5
 a5:=Tryz.isAgg5
 z5:=Tryz.sizeOf5
 v5:=Tryz.zeroValue5
 t9:=Tryz.underlying9
 a9:=Tryz.isAgg9
 z9:=Tryz.sizeOf9
 v9:=Tryz.zeroValue9
 t20:=Tryz.underlying20
 a20:=Tryz.isAgg20
 z20:=Tryz.sizeOf20
 v20:=Tryz.zeroValue20
 t37:=Tryz.underlying22
 a37:=Tryz.isAgg22
 z37:=Tryz.sizeOf22
 v37:=Tryz.zeroValue22
 t46:=Tryz.underlying150
 a46:=Tryz.isAgg150
 z46:=Tryz.sizeOf150
 v46:=Tryz.zeroValue150
 t51:=Tryz.underlying275
 a51:=Tryz.isAgg275
 z51:=Tryz.sizeOf275
 v51:=Tryz.zeroValue275
 t53:=Tryz.underlying201
 a53:=Tryz.isAgg201
 z53:=Tryz.sizeOf201
 v53:=Tryz.zeroValue201
 t171:=Tryz.underlying200
 a171:=Tryz.isAgg200
 z171:=Tryz.sizeOf200
 v171:=Tryz.zeroValue200
 t173:=Tryz.underlying204
 a173:=Tryz.isAgg204
 z173:=Tryz.sizeOf204
 v173:=Tryz.zeroValue204
 t212:=Tryz.underlying274
 a212:=Tryz.isAgg274
 z212:=Tryz.sizeOf274
 v212:=Tryz.zeroValue274
 t213:=Tryz.underlying276
 a213:=Tryz.isAgg276
 z213:=Tryz.sizeOf276
 t232:=Tryz.underlying375
 a232:=Tryz.isAgg375
 z232:=Tryz.sizeOf375
 v232:=Tryz.zeroValue375
 t233:=Tryz.underlying376
 a233:=Tryz.isAgg376
 z233:=Tryz.sizeOf376
 v233:=Tryz.zeroValue376
 g17:=by kernel_rfl
 g18:=by kernel_rfl
 g19:=by kernel_rfl
 i0:=by kernel_rfl
 i2:=by kernel_rfl
 i3:=by kernel_rfl
 i4:=by kernel_rfl
 i5:=by kernel_rfl
 i9:=by kernel_rfl
 i20:=by kernel_rfl
 i37:=by kernel_rfl
 i46:=by kernel_rfl
 i51:=by kernel_rfl
 i53:=by kernel_rfl
 i171:=by kernel_rfl
 i173:=by kernel_rfl
 i212:=by kernel_rfl
 i232:=by kernel_rfl
 i233:=by kernel_rfl
 m17:=by kernel_rfl
 m18:=by kernel_rfl
 m19:=by kernel_rfl }
end Go.Proofs.YtpnhjkiligohnaaGreatDoor
namespace Go.Proofs.YtpnhjkiligohnaaGreatDoor
open Go Go.Vm
attribute [local irreducible] Brn Ob Grow CallsM inR zay zav Mem.row Mem.cells Mem.setCells Mem.upd Go.Vm.Own zaU zbF zbE zaV New SrcOk zah NewSl Mem.textAt Mem.mapAt Mem.iterAt zak kfind Wr NewEls Elems
set_option maxRecDepth 10000
variable {M:Mem}
def dS (n:Int):ByteArray:=⟨(Lib.itoa n).toArray⟩
theorem zhg (hT:TabM Tryz.prog M) {n:Int} (h : -9223372036854775808≤n∧n≤9223372036854775807):CallsM Tryz.prog F.zcI [.int .i64 n] M fun v M'=>v = .string (dS n)∧M=M':=
 zLS Tryz.laysM171 (by kernel_rfl) hT h.1 h.2
end Go.Proofs.YtpnhjkiligohnaaGreatDoor
namespace Go.Proofs.YtpnhjkiligohnaaGreatDoor
open Go Go.Vm
attribute [local irreducible] Brn Ob Grow CallsM inR zay Mem.row Mem.cells Mem.setCells Mem.upd Go.Vm.Own zaU zbF zbE zaV New SrcOk zah
theorem zOm (n a b:Int) (M:Mem):CallsM Tryz.prog F.zdt [.int .i64 n,.int .i64 a,.int .i64 b] M fun v M'=>v = .bool (decide (a≤n∧n≤b))∧M=M':=by
 refine zyD (by simp) ?_;(conv=>whnf)
 refine brn (fun h=>?_) (fun h=>?_)
 all_goals (conv=>whnf)
 ·refine⟨by simp_all,rfl⟩
 ·refine⟨by simp_all;omega,rfl⟩
def zoy (a b c d:Int):Int:=if (0≤a∧a≤63)∧(0≤b∧b≤63)∧(1≤c∧c≤65535)∧(1≤d∧d≤65535) then (if a=b then 2 else 0) else 1
set_option maxRecDepth 10000 in
theorem zJx (a b c d:Int) (M:Mem):CallsM Tryz.prog F.zaM [.agg #[.int .i64 a,.int .i64 b,.int .i64 c,.int .i64 d]] M fun v M'=>v = .int .i64 (zoy a b c d)∧M=M':=by
 refine zA3 (by simp) ?_;(conv=>whnf)
 repeat' ((conv=>whnf);first
  | (refine(zOm _ _ _ _).mono ?_;rintro v M' ⟨rfl,rfl⟩)
  | refine brn (fun h=>?_) (fun h=>?_))
 all_goals (conv=>whnf)
 all_goals (refine⟨?_,rfl⟩;simp_all [zoy])
 all_goals (intros;exfalso;omega)
end Go.Proofs.YtpnhjkiligohnaaGreatDoor
namespace Go.Proofs.YtpnhjkiligohnaaGreatDoor
open Go Go.Vm
attribute [local irreducible] Brn Ob Grow CallsM inR zay zav Mem.row Mem.cells Mem.setCells Mem.upd Go.Vm.Own zaU zbF zbE zaV New SrcOk zah NewSl Mem.textAt Mem.mapAt Mem.iterAt zak kfind Wr NewEls Elems
set_option maxRecDepth 10000
variable {M:Mem}
theorem zBZ:∀ (k u:Nat),u<10 ^ (k+1)→(Lib.decDigits u).length≤k+1
 | 0,u,h=>by rw[Lib.decDigits,dif_pos (by simpa using h)];simp
 | k+1,u,h=>by
  rw[Lib.decDigits];split
  ·simp
  ·have:=zBZ k (u / 10) (by rw[Nat.div_lt_iff_lt_mul (by decide)];rw[Nat.pow_succ] at h;exact h);simp;omega
theorem ztZ {n:Int} (h : -9223372036854775808≤n∧n≤9223372036854775807):(dS n).size≤20:=by
 have:(dS n).size=(Lib.itoa n).length:=by unfold dS;simp[ByteArray.size]
 rw[this];unfold Lib.itoa;split
 ·have:=zBZ 18 n.natAbs (Nat.lt_of_le_of_lt (show n.natAbs≤9223372036854775808 by omega) (by decide));simp;omega
 ·have:=zBZ 18 n.toNat (Nat.lt_of_le_of_lt (show n.toNat≤9223372036854775808 by omega) (by decide));omega
theorem bsz (s:ByteArray) (t:ByteArray):(s++t).size=s.size+t.size:=ByteArray.size_append
def zK1 (a b c d:Int):ByteArray:=dS a++⟨#[62]⟩++dS b++⟨#[58]⟩++dS c++⟨#[46]⟩++dS d
def zyf (a b c d:Int):ByteArray:=if zoy a b c d≠0 then .empty else zK1 a b c d
theorem zDp (hT:TabM Tryz.prog M) (a b c d:Int):CallsM Tryz.prog F.zp9 [.agg #[.int .i64 a,.int .i64 b,.int .i64 c,.int .i64 d]] M fun v M'=>v = .tuple #[.string (zyf a b c d),.int .i64 (zoy a b c d)]∧M=M':=by
 refine zCi (by simp) ?_;refine zR ?_;refine(zJx a b c d M).mono ?_;rintro v _ ⟨rfl,rfl⟩;(conv=>whnf);refine brn (fun e=>?_) (fun e=>?_)
 ·have e1:zoy a b c d≠0:=by simpa using e
  refine zR ?_;rw[zyf,if_pos e1];exact⟨rfl,rfl⟩
 have e1:zoy a b c d=0:=by simpa using e
 have hr:(0≤a∧a≤63)∧(0≤b∧b≤63)∧(1≤c∧c≤65535)∧(1≤d∧d≤65535):=by
  unfold zoy at e1;split at e1
  ·assumption
  ·cases e1
 have s1:=ztZ (n:=a) (by omega);have s2:=ztZ (n:=b) (by omega)
 have s3:=ztZ (n:=c) (by omega);have s4:=ztZ (n:=d) (by omega)
 refine zR ?_;refine(zhg hT (n:=a) (by omega)).mono ?_;rintro v _ ⟨rfl,rfl⟩;have z1:(dS a++⟨#[62]⟩).size≤21:=by rw[bsz];show _+(1:Nat)≤_;omega
 have z2:(dS a++⟨#[62]⟩++dS b).size≤41:=by rw[bsz];omega
 have z3:(dS a++⟨#[62]⟩++dS b++⟨#[58]⟩).size≤42:=by rw[bsz];show _+(1:Nat)≤_;omega
 have z4:(dS a++⟨#[62]⟩++dS b++⟨#[58]⟩++dS c).size≤62:=by rw[bsz];omega
 have z5:(dS a++⟨#[62]⟩++dS b++⟨#[58]⟩++dS c++⟨#[46]⟩).size≤63:=by rw[bsz];show _+(1:Nat)≤_;omega
 have z6:(dS a++⟨#[62]⟩++dS b++⟨#[58]⟩++dS c++⟨#[46]⟩++dS d).size≤83:=by rw[bsz];omega
 rw[bsz] at z1 z2 z3 z4 z5 z6;(conv=>whnf);refine ob rfl ?_;(conv=>whnf);refine grow_same (Mem.le_refl _) ?_;(conv=>whnf);refine ob (Nat.le_trans z1 (show _≤9223372036854775807 by decide)) ?_;refine zR ?_;refine(zhg hT (n:=b) (by omega)).mono ?_;rintro v _ ⟨rfl,rfl⟩;(conv=>whnf);refine ob rfl ?_;(conv=>whnf);refine grow_same (Mem.le_refl _) ?_;(conv=>whnf);refine ob (Nat.le_trans z2 (show _≤9223372036854775807 by decide)) ?_;(conv=>whnf);refine ob (Nat.le_trans z3 (show _≤9223372036854775807 by decide)) ?_;refine zR ?_;refine(zhg hT (n:=c) (by omega)).mono ?_;rintro v _ ⟨rfl,rfl⟩;(conv=>whnf);refine ob rfl ?_;(conv=>whnf);refine grow_same (Mem.le_refl _) ?_;(conv=>whnf);refine ob (Nat.le_trans z4 (show _≤9223372036854775807 by decide)) ?_;(conv=>whnf);refine ob (Nat.le_trans z5 (show _≤9223372036854775807 by decide)) ?_;refine zR ?_;refine(zhg hT (n:=d) (by omega)).mono ?_;rintro v _ ⟨rfl,rfl⟩;(conv=>whnf);refine ob (Nat.le_trans z6 (show _≤9223372036854775807 by decide)) ?_;refine zR ?_;rw[zyf,if_neg (by simp[e1]),e1];exact⟨rfl,rfl⟩
end Go.Proofs.YtpnhjkiligohnaaGreatDoor
