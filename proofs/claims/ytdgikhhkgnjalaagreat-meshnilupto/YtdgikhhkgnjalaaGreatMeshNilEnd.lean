/- MeshNil: a nil mesh refuses every step and has nothing: for every call of bulk at most 1048576 the law returns true,and the call reads as before. -/
import Derived.Test.YtdgikhhkgnjalaaGreatJ22
import Derived.Test.YtdgikhhkgnjalaaGreatJ20
import Derived.Test.YtdgikhhkgnjalaaGreatJ21
import Derived.Test.YtdgikhhkgnjalaaGreatJ9
set_option linter.unusedVariables false
set_option linter.unusedSimpArgs false
namespace Go.Proofs.YtdgikhhkgnjalaaGreat
open Go.Vm Go.Vm.Rn Go.Vm.Rn.Q
set_option maxRecDepth 100000
section
theorem zLP:mtg0.ok (run primsN zq 1000 40 F.zi) zeQ=true:=by kernel_rfl
theorem zLQ:mtg1.ok (run primsN zq 1000 40 F.zi) zeR=true:=by kernel_rfl
theorem zLR:mtg2.ok (run primsN zq 1000 40 F.zh) zae=true:=by kernel_rfl
theorem zLS:mtg3.ok (run primsN zq 1000 40 F.zh) zae=true:=by kernel_rfl
theorem zLT:mtg4.ok (run primsN zq 1000 40 F.zi) zeQ=true:=by kernel_rfl
theorem zLU:mtg5.ok (run primsN zq 1000 40 F.zi) zeR=true:=by kernel_rfl
theorem zLV:mtg6.ok (run primsN zq 1000 40 F.zh) zae=true:=by kernel_rfl
theorem zLW:mtg7.ok (run primsN zq 1000 40 F.zh) zae=true:=by kernel_rfl
theorem zLX:mtg8.ok (run primsN zq 1000 40 F.zi) zeQ=true:=by kernel_rfl
theorem zLY:mtg9.ok (run primsN zq 1000 40 F.zi) zeR=true:=by kernel_rfl
theorem zIX:mtg10.ok (run primsN zq 1000 40 F.zh) zae=true:=by kernel_rfl
theorem zIY:mtg11.ok (run primsN zq 1000 40 F.zh) zae=true:=by kernel_rfl
theorem zIZ:mtg12.ok (run primsN zq 1000 40 F.zi) zeQ=true:=by kernel_rfl
theorem zI0:mtg13.ok (run primsN zq 1000 40 F.zi) zeR=true:=by kernel_rfl
theorem zI1:mtg14.ok (run primsN zq 1000 40 F.zh) zae=true:=by kernel_rfl
theorem zI2:mtg15.ok (run primsN zq 1000 40 F.zh) zae=true:=by kernel_rfl
theorem zI3:mtg16.ok (run primsN zq 1000 40 F.zi) zeQ=true:=by kernel_rfl
theorem zI4:mtg17.ok (run primsN zq 1000 40 F.zi) zeR=true:=by kernel_rfl
theorem zI5:mtg18.ok (run primsN zq 1000 40 F.zh) zae=true:=by kernel_rfl
theorem zI6:mtg19.ok (run primsN zq 1000 40 F.zh) zae=true:=by kernel_rfl
end
section
theorem zI7:mtg20.ok (run primsN zq 1000 40 F.zi) zeQ=true:=by kernel_rfl
theorem zI8:mtg21.ok (run primsN zq 1000 40 F.zi) zeR=true:=by kernel_rfl
theorem zI9:mtg22.ok (run primsN zq 1000 40 F.zh) zae=true:=by kernel_rfl
theorem zJa:mtg23.ok (run primsN zq 1000 40 F.zh) zae=true:=by kernel_rfl
theorem zJb:mtg24.ok (run primsN zq 1000 40 F.zi) zeQ=true:=by kernel_rfl
theorem zJc:mtg25.ok (run primsN zq 1000 40 F.zi) zeR=true:=by kernel_rfl
theorem zJd:mtg26.ok (run primsN zq 1000 40 F.zh) zae=true:=by kernel_rfl
theorem zJe:mtg27.ok (run primsN zq 1000 40 F.zh) zae=true:=by kernel_rfl
theorem zJf:mtg28.ok (run primsN zq 1000 40 F.zi) zeQ=true:=by kernel_rfl
theorem zJg:mtg29.ok (run primsN zq 1000 40 F.zi) zeR=true:=by kernel_rfl
theorem zJh:mtg30.ok (run primsN zq 1000 40 F.zh) zae=true:=by kernel_rfl
theorem zJi:mtg31.ok (run primsN zq 1000 40 F.zh) zae=true:=by kernel_rfl
theorem zJj:mtg32.ok (run primsN zq 1000 40 F.zi) zeQ=true:=by kernel_rfl
theorem zJk:mtg33.ok (run primsN zq 1000 40 F.zi) zeR=true:=by kernel_rfl
theorem zJl:mtg34.ok (run primsN zq 1000 40 F.zh) zae=true:=by kernel_rfl
theorem zJm:mtg35.ok (run primsN zq 1000 40 F.zh) zae=true:=by kernel_rfl
theorem zJn:mtg36.ok (run primsN zq 1000 40 F.zi) zeQ=true:=by kernel_rfl
theorem zJo:mtg37.ok (run primsN zq 1000 40 F.zi) zeR=true:=by kernel_rfl
theorem zJp:mtg38.ok (run primsN zq 1000 40 F.zh) zae=true:=by kernel_rfl
theorem zJq:mtg39.ok (run primsN zq 1000 40 F.zh) zae=true:=by kernel_rfl
end
section
theorem zJr:mtg40.ok (run primsN zq 1000 40 F.zi) zeQ=true:=by kernel_rfl
theorem zJs:mtg41.ok (run primsN zq 1000 40 F.zi) zeR=true:=by kernel_rfl
theorem zJt:mtg42.ok (run primsN zq 1000 40 F.zh) zae=true:=by kernel_rfl
theorem zJu:mtg43.ok (run primsN zq 1000 40 F.zh) zae=true:=by kernel_rfl
theorem zJv:mtg44.ok (run primsN zq 1000 40 F.zi) zeQ=true:=by kernel_rfl
theorem zJw:mtg45.ok (run primsN zq 1000 40 F.zi) zeR=true:=by kernel_rfl
theorem zJx:mtg46.ok (run primsN zq 1000 40 F.zh) zae=true:=by kernel_rfl
theorem zJy:mtg47.ok (run primsN zq 1000 40 F.zh) zae=true:=by kernel_rfl
theorem zJz:mtg48.ok (run primsN zq 1000 40 F.zi) zeQ=true:=by kernel_rfl
theorem zJA:mtg49.ok (run primsN zq 1000 40 F.zi) zeR=true:=by kernel_rfl
theorem zJB:mtg50.ok (run primsN zq 1000 40 F.zh) zae=true:=by kernel_rfl
theorem zJC:mtg51.ok (run primsN zq 1000 40 F.zh) zae=true:=by kernel_rfl
theorem zJD:mtg52.ok (run primsN zq 1000 40 F.zi) zeQ=true:=by kernel_rfl
theorem zJE:mtg53.ok (run primsN zq 1000 40 F.zi) zeR=true:=by kernel_rfl
theorem zJF:mtg54.ok (run primsN zq 1000 40 F.zh) zae=true:=by kernel_rfl
theorem zJG:mtg55.ok (run primsN zq 1000 40 F.zh) zae=true:=by kernel_rfl
theorem zJH:mtg56.ok (run primsN zq 1000 40 F.zi) zeQ=true:=by kernel_rfl
theorem zJI:mtg57.ok (run primsN zq 1000 40 F.zi) zeR=true:=by kernel_rfl
theorem zJJ:mtg58.ok (run primsN zq 1000 40 F.zh) zae=true:=by kernel_rfl
theorem zJK:mtg59.ok (run primsN zq 1000 40 F.zh) zae=true:=by kernel_rfl
end
section
theorem zJL:mtg60.ok (run primsN zq 1000 40 F.zi) zeQ=true:=by kernel_rfl
theorem zJM:mtg61.ok (run primsN zq 1000 40 F.zi) zeR=true:=by kernel_rfl
theorem zJN:mtg62.ok (run primsN zq 1000 40 F.zh) zae=true:=by kernel_rfl
theorem zJO:mtg63.ok (run primsN zq 1000 40 F.zh) zae=true:=by kernel_rfl
theorem zJP:mtg64.ok (run primsN zq 1000 40 F.zi) zeQ=true:=by kernel_rfl
theorem zJQ:mtg65.ok (run primsN zq 1000 40 F.zi) zeR=true:=by kernel_rfl
theorem zJR:mtg66.ok (run primsN zq 1000 40 F.zh) zae=true:=by kernel_rfl
theorem zJS:mtg67.ok (run primsN zq 1000 40 F.zh) zae=true:=by kernel_rfl
theorem zJT:mtg68.ok (run primsN zq 1000 40 F.zi) zeQ=true:=by kernel_rfl
theorem zJU:mtg69.ok (run primsN zq 1000 40 F.zi) zeR=true:=by kernel_rfl
theorem zJV:mtg70.ok (run primsN zq 1000 40 F.zh) zae=true:=by kernel_rfl
theorem zJW:mtg71.ok (run primsN zq 1000 40 F.zh) zae=true:=by kernel_rfl
theorem zJX:mtg72.ok (run primsN zq 1000 40 F.zi) zeQ=true:=by kernel_rfl
theorem zJY:mtg73.ok (run primsN zq 1000 40 F.zi) zeR=true:=by kernel_rfl
theorem zJZ:mtg74.ok (run primsN zq 1000 40 F.zh) zae=true:=by kernel_rfl
theorem zJ0:mtg75.ok (run primsN zq 1000 40 F.zh) zae=true:=by kernel_rfl
theorem zJ1:mtg76.ok (run primsN zq 1000 40 F.zi) zeQ=true:=by kernel_rfl
theorem zJ2:mtg77.ok (run primsN zq 1000 40 F.zi) zeR=true:=by kernel_rfl
theorem zJ3:mtg78.ok (run primsN zq 1000 40 F.zh) zae=true:=by kernel_rfl
theorem zJ4:mtg79.ok (run primsN zq 1000 40 F.zh) zae=true:=by kernel_rfl
end
end Go.Proofs.YtdgikhhkgnjalaaGreat
namespace Go.Proofs.YtdgikhhkgnjalaaGreat
open Go Go.Vm Go.Vm.Rn Go.Vm.Rn.Q
set_option maxRecDepth 100000
noncomputable def primsM:T (List W→Nat→T O→R) := .n (.n (.n (.n (.n (.e) (some (zrq zae [mtg2,mtg3,mtg6,mtg7,mtg10,mtg11,mtg14,mtg15,mtg18,mtg19,mtg22,mtg23,mtg26,mtg27,mtg30,mtg31,mtg34,mtg35,mtg38,mtg39,mtg42,mtg43,mtg46,mtg47,mtg50,mtg51,mtg54,mtg55,mtg58,mtg59,mtg62,mtg63,mtg66,mtg67,mtg70,mtg71,mtg74,mtg75,mtg78,mtg79])) (.e)) none (.n (.e) none (.n (.n (.e) none (.n (.n (.e) (some zsr) (.e)) none (.e))) none (.e)))) none (.e)) none (.n (.n (.e) none (.n (.n (.e) none (.n (.e) none (.n (.e) (some zuR) (.e)))) none (.e))) none (.e))) none (.n (.n (.n (.n (.n (.n (.n (.e) (some zql) (.e)) none (.e)) none (.e)) none (.e)) none (.e)) none (.n (.n (.n (.e) (some (orP (zrq zeQ [mtg0,mtg4,mtg8,mtg12,mtg16,mtg20,mtg24,mtg28,mtg32,mtg36,mtg40,mtg44,mtg48,mtg52,mtg56,mtg60,mtg64,mtg68,mtg72,mtg76]) (zrq zeR [mtg1,mtg5,mtg9,mtg13,mtg17,mtg21,mtg25,mtg29,mtg33,mtg37,mtg41,mtg45,mtg49,mtg53,mtg57,mtg61,mtg65,mtg69,mtg73,mtg77]))) (.e)) none (.e)) none (.e))) none (.e))
theorem zH9:primsM.All (Prim Tryz.prog) := .no (.no (.no (.no (.at (zsq zFS (all_cons zLR <| all_cons zLS <| all_cons zLV <| all_cons zLW <| all_cons zIX <| all_cons zIY <| all_cons zI1 <| all_cons zI2 <| all_cons zI5 <| all_cons zI6 <| all_cons zI9 <| all_cons zJa <| all_cons zJd <| all_cons zJe <| all_cons zJh <| all_cons zJi <| all_cons zJl <| all_cons zJm <| all_cons zJp <| all_cons zJq <| all_cons zJt <| all_cons zJu <| all_cons zJx <| all_cons zJy <| all_cons zJB <| all_cons zJC <| all_cons zJF <| all_cons zJG <| all_cons zJJ <| all_cons zJK <| all_cons zJN <| all_cons zJO <| all_cons zJR <| all_cons zJS <| all_cons zJV <| all_cons zJW <| all_cons zJZ <| all_cons zJ0 <| all_cons zJ3 <| all_cons zJ4 <| zAI)) (.nil) (.nil)) (.no (.nil) (.no (.no (.nil) (.no (.at zwE (.nil) (.nil)) (.nil))) (.nil)))) (.nil)) (.no (.no (.nil) (.no (.no (.nil) (.no (.nil) (.at zzE (.nil) (.nil)))) (.nil))) (.nil))) (.no (.no (.no (.no (.no (.no (.at zup (.nil) (.nil)) (.nil)) (.nil)) (.nil)) (.nil)) (.no (.no (.at (zNT (zsq zFS (all_cons zLP <| all_cons zLT <| all_cons zLX <| all_cons zIZ <| all_cons zI3 <| all_cons zI7 <| all_cons zJb <| all_cons zJf <| all_cons zJj <| all_cons zJn <| all_cons zJr <| all_cons zJv <| all_cons zJz <| all_cons zJD <| all_cons zJH <| all_cons zJL <| all_cons zJP <| all_cons zJT <| all_cons zJX <| all_cons zJ1 <| zAI)) (zsq zFS (all_cons zLQ <| all_cons zLU <| all_cons zLY <| all_cons zI0 <| all_cons zI4 <| all_cons zI8 <| all_cons zJc <| all_cons zJg <| all_cons zJk <| all_cons zJo <| all_cons zJs <| all_cons zJw <| all_cons zJA <| all_cons zJE <| all_cons zJI <| all_cons zJM <| all_cons zJQ <| all_cons zJU <| all_cons zJY <| all_cons zJ2 <| zAI))) (.nil) (.nil)) (.nil)) (.nil))) (.nil))
theorem awake_ok {M:Mem}:CallsM Tryz.prog F.zd2 [] M fun v M2=>v = .bool true∧M.le M2:=zKB (run_ok zH9 zEs 1000 40) (f:=F.zd2) (ws:=[]) (by kernel_rfl) trivial
end Go.Proofs.YtdgikhhkgnjalaaGreat
namespace Go.Proofs.YtdgikhhkgnjalaaGreat
open Go Go.Vm
attribute [local irreducible] Brn Ob Grow CallsM inR ziE zfC Mem.row Mem.cells Mem.setCells Mem.upd Go.Vm.Own zi5 zn6 zna zkg New SrcOk zap NewSl Mem.textAt Mem.mapAt Mem.iterAt zd0 kfind Wr znA Elems
set_option maxRecDepth 10000
variable {M M':Mem}
set_option maxRecDepth 100000 in
theorem zLZ (k n t x:Int) (a:Option Addr) (m c:Nat):CallsM Tryz.prog F.zl1 [.agg #[.int .i64 k,.int .i64 n,.int .i64 t,.int .i64 x,.slice a m c]] M fun v M'=>v = .bool true∧M.le M':=by
 refine zwT (by simp) ?_
 refine zR ?_
 refine(zLK k n t x a m c).mono ?_
 rintro v _ ⟨rfl,rfl⟩
 refine zR ?_
 refine(zLL).mono ?_
 rintro v _ ⟨rfl,rfl⟩
 refine zR ?_
 refine(zIP).mono ?_
 rintro v _ ⟨rfl,rfl⟩
 refine zR ?_
 refine(nm_size).mono ?_
 rintro v _ ⟨rfl,rfl⟩
 refine zR ?_
 refine(zFT n).mono ?_
 rintro v _ ⟨rfl,rfl⟩
 refine zR ?_
 refine(zIQ n).mono ?_
 rintro v _ ⟨rfl,rfl⟩
 refine zR ?_
 refine same0.mono ?_
 rintro v M1 ⟨rfl,hle1⟩
 refine zR ?_
 refine(zLM n).mono ?_
 rintro v _ ⟨rfl,rfl⟩
 refine zR ?_
 refine same0.mono ?_
 rintro v M2 ⟨rfl,hle2⟩
 refine zR ?_
 refine(zLN n t).mono ?_
 rintro v _ ⟨rfl,rfl⟩
 refine zR ?_
 refine(zLO n t).mono ?_
 rintro v _ ⟨rfl,rfl⟩
 refine zR ?_
 refine awake_ok.mono ?_
 rintro v M3 ⟨rfl,hle3⟩
 refine zR ?_
 exact⟨rfl,Mem.le_trans hle1 (Mem.le_trans hle2 hle3)⟩
end Go.Proofs.YtdgikhhkgnjalaaGreat
namespace Go.Proofs.YtdgikhhkgnjalaaGreat.meshNil
open Go.ChangeShapes Go.WideShapes Go.ChangeAt Go.RowKit Go.Vm Go.Proofs.YtdgikhhkgnjalaaGreat.Br
set_option linter.unusedVariables false
set_option maxRecDepth 100000
theorem contract (H:Type) (enc:TypeId×Value→H) (W:World) (base:Nat) (args:Array Value) (ds gs:List (DataW H)) (before:List MemPlace)
  (hval:∀ (j:Nat) t v,Tryz.f3.params[j]? = some t→args[j]? = some v→Value.okWide Tryz.prog W .any base t v)
  (hW:DataW.Whole enc Tryz.prog Tryz.f3.params.toList Rows.meshNilSpec.vars false W args.toList ds gs before) (hk:Rows.uptoSmall H (ds++gs)=true) :
  Calls Tryz.prog F.zl1 args W fun e W'=>∃ v,e = .returned v∧Rows.meshNilSpec.post enc Tryz.prog Tryz.f3 false true false false W args v W':=by
 refine zNu (s:=Rows.meshNilSpec) (fn:=Tryz.f3) (fun H ds h=>by match ds,h with|[d0],_=>exact⟨rfl,rfl,rfl⟩) rfl rfl (by kernel_rfl) H enc W args ds gs before hW ?_
 obtain⟨p,q,hA,hV, -, -, -⟩:=hW
 obtain⟨rfl,rfl⟩:=trodVars_none hV
 have hb:=zNv hk
 rw[Tryz.params3] at hA hval
 obtain⟨v0,vs0,d0,ds0,p0,q0,hargs0,rfl,rfl,⟨n0,h0⟩,r0⟩:=trodAll_cons hA
 obtain⟨rfl,rfl,rfl⟩:=trodAll_nil r0
 obtain rfl:args = #[v0]:=by cases args;simp_all
 obtain⟨-, x,hx⟩:=zLg H enc W _ _ _ _ h0 (hb _ (by simp))
 have hv0:=hval 0 _ v0 rfl rfl
 have hv:=zEK Tryz.underlying24 hv0
 rw[hx] at hv
 subst hv
 exact zLZ _ _ _ _ _ _ _
set_option maxRecDepth 100000 in
theorem lifted (os:Os) (started:os.Started) (H:Type) (enc:TypeId×Value→H) (F:Stop.Interp) :
  ReturnsInHanded {} Tryz.checked os 3 .any ((Rows.OpenSpec.upto Rows.meshNilSpec).pre6 enc Tryz.prog Tryz.f3 Rows.meshNilUptoRow.domain false) (((Rows.OpenSpec.upto Rows.meshNilSpec).at F).post enc Tryz.prog Tryz.f3 false true false false):=by
 refine returnsInHanded_of_cond (C:=Tryz.checked) (s:=Rows.OpenSpec.upto Rows.meshNilSpec) (k:=Rows.uptoSmall) rfl own started (by kernel_rfl) Tryz.func3
  (OpenSpec.witness (enc:=enc) (C:=Tryz.checked) (s:=Rows.OpenSpec.upto Rows.meshNilSpec) (k:=Rows.uptoSmall) rfl false ⟨#[], #[.agg #[.int .i64 0,.int .i64 0,.int .i64 0,.int .i64 0,.slice none 0 0]],[]⟩ 12 (by kernel_rfl) (by kernel_rfl) (by kernel_rfl)
   (x:=([.agg [.lit (.int .i64 0),.lit (.int .i64 0),.lit (.int .i64 0),.lit (.int .i64 0),.nil]],[],[])) (by kernel_rfl) rfl (by kernel_rfl)) ?_
 intro W base args ds gs before hval hW _ hk _
 exact contract H enc W base args ds gs before hval hW hk
noncomputable abbrev Q:Program:=Tryz.pinned.checked.prog
abbrev C:OpenClaim:=Rows.meshNilUptoRow
theorem k2:laidOutB Q=true:=by kernel_rfl
theorem k3:mapsRowed Q=true:=by kernel_rfl
theorem k10:(C.inPlace == Q.inPlace 3)=true:=by kernel_rfl
theorem k11:(C.unfollowed == Q.unfollowed 3)=true:=by kernel_rfl
theorem k12:(C.recurses == Q.recurses 3)=true:=by kernel_rfl
theorem k13:(C.named == Q.varsNamed 3)=true:=by kernel_rfl
theorem k22:(C.plainKeys == Q.plainKeys)=true:=by kernel_rfl
theorem zOf:Q.stopsHeard=true:=by kernel_rfl
theorem k24:Q.mayEnter=true:=by kernel_rfl
theorem zOg:(C.lifted == Q.liftsFinal)=true:=by kernel_rfl
theorem zOh:(Q.make == some C.make)=true:=by kernel_rfl
theorem zNl:joinedFacts Q 3 Tryz.f3 (Rows.OpenSpec.upto Rows.meshNilSpec).bare C=true:=by
 simp only[joinedFacts,Bool.and_eq_true]
 exact⟨⟨⟨⟨⟨⟨⟨⟨⟨⟨⟨⟨⟨⟨⟨⟨⟨⟨⟨⟨⟨⟨⟨⟨⟨⟨⟨⟨⟨⟨⟨(by kernel_rfl),k2⟩,k3⟩,(by kernel_rfl)⟩,(by kernel_rfl)⟩,(by kernel_rfl)⟩,(by kernel_rfl)⟩,(by kernel_rfl)⟩,(by kernel_rfl)⟩,k10⟩,k11⟩,k12⟩,k13⟩,(by kernel_rfl)⟩,(by kernel_rfl)⟩,(by kernel_rfl)⟩,(by kernel_rfl)⟩,(by kernel_rfl)⟩,(by kernel_rfl)⟩,(by kernel_rfl)⟩,(by kernel_rfl)⟩,(by kernel_rfl)⟩,k22⟩,(by kernel_rfl)⟩,zOf⟩,k24⟩,zOg⟩,zOh⟩,(by kernel_rfl)⟩,(by kernel_rfl)⟩,(by kernel_rfl)⟩,(by kernel_rfl)⟩
theorem over:Rows.meshNilUptoRow.holds Tryz.pinned (Rows.OpenSpec.upto Rows.meshNilSpec):=
 OpenClaim.holds_of_cond 3 Tryz.f3 rfl rfl rfl rfl rfl rfl rfl ⟨rfl,rfl,rfl,rfl,rfl⟩ rfl rfl rfl rfl rfl (by kernel_rfl) Tryz.func3 zNl
  (Zd0 (by kernel_rfl)) (by unfold Func.isWrapper;first|(rw[if_pos (by decide +kernel)];kernel_rfl)|(rw[if_neg (by decide +kernel)];exact⟨rfl,rfl⟩))
  (fun os started H enc _ F=>lifted os started H enc F)
theorem proved:Rows.MeshNilUptoSaid:=
 over
end Go.Proofs.YtdgikhhkgnjalaaGreat.meshNil
