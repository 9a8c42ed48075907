/- Part of this proof;laid by program. -/
import Derived.Test.YtdgikhhkgnjalaaGreatJ20
import Derived.Test.YtdgikhhkgnjalaaGreatJ7
set_option linter.unusedVariables false
set_option linter.unusedSimpArgs false
namespace Go.Proofs.YtdgikhhkgnjalaaGreat
set_option linter.unusedSimpArgs false
open Go Go.Vm
attribute [local irreducible] Brn Ob Grow CallsM inR ziE zfC Mem.row Mem.cells Mem.setCells Mem.upd Go.Vm.Own zi5 zn6 zna zkg New SrcOk zap NewSl Mem.textAt Mem.mapAt Mem.iterAt zd0 kfind Wr znA Elems
set_option maxRecDepth 10000
variable {M M':Mem}
@[reducible] def nlM:Value := .pointer none
@[reducible] def zNb:Value := .agg #[.int .i64 0,.int .i64 0,.slice none 0 0,.slice none 0 0,.slice none 0 0]
theorem zLK (k n t x:Int) (a:Option Addr) (m c:Nat):CallsM Tryz.prog F.zaJ [nlM,.agg #[.int .i64 k,.int .i64 n,.int .i64 t,.int .i64 x,.slice a m c]] M fun v M'=>v = .int .i64 7∧M=M':=by
 refine zuZ (by simp) ?_
 refine zR ?_
 exact⟨rfl,rfl⟩
theorem zLL:CallsM Tryz.prog F.za5 [nlM] M fun v M'=>v = .slice none 0 0∧M=M':=by
 refine zu0 (by simp) ?_
 refine zR ?_
 exact⟨rfl,rfl⟩
theorem zIP:CallsM Tryz.prog F.ze0 [nlM] M fun v M'=>v = .int .i64 0∧M=M':=by
 refine ztF (by simp) ?_
 refine zR ?_
 exact⟨rfl,rfl⟩
theorem nm_size:CallsM Tryz.prog F.zbN [nlM] M fun v M'=>v = .int .i64 0∧M=M':=by
 refine zu4 (by simp) ?_
 refine zR ?_
 exact⟨rfl,rfl⟩
theorem zKC (n:Int):CallsM Tryz.prog F.zcZ [nlM,.int .i64 n] M fun v M'=>v = .bool false∧M=M':=by
 refine zyS (by simp) ?_
 refine zR ?_
 refine brn (fun g=>?_) (fun g=>?_)
 ·refine zR ?_
  refine nm_size.mono ?_
  rintro v _ ⟨rfl,rfl⟩
  have g':=Zd0 g
  (conv=>whnf)
  exact⟨by rw[decide_eq_false (by omega)],rfl⟩
 ·refine zR ?_
  (conv=>whnf)
  exact⟨rfl,rfl⟩
theorem zFT (n:Int):CallsM Tryz.prog F.za6 [nlM,.int .i64 n] M fun v M'=>v = .bool false∧M=M':=by
 refine zyR (by simp) ?_
 refine zR ?_
 refine(zKC n).mono ?_
 rintro v _ ⟨rfl,rfl⟩
 refine zR ?_
 (conv=>whnf)
 exact⟨rfl,rfl⟩
theorem zIQ (n:Int):CallsM Tryz.prog F.ze1 [nlM,.int .i64 n] M fun v M'=>v=zNb∧M=M':=by
 refine ztG (by simp) ?_
 refine zR ?_
 refine(zFT n).mono ?_
 rintro v _ ⟨rfl,rfl⟩
 refine zR ?_
 exact⟨rfl,rfl⟩
theorem zLM (n:Int):CallsM Tryz.prog F.zf5 [nlM,.int .i64 n] M fun v M'=>v=zNb∧M=M':=by
 refine zu8 (by simp) ?_
 refine zR ?_
 refine(zKC n).mono ?_
 rintro v _ ⟨rfl,rfl⟩
 refine zR ?_
 exact⟨rfl,rfl⟩
theorem zLN (n m:Int):CallsM Tryz.prog F.zdj [nlM,.int .i64 n,.int .i64 m] M fun v M'=>v = .slice none 0 0∧M=M':=by
 refine zrY (by simp) ?_
 refine zR ?_
 exact⟨rfl,rfl⟩
theorem zLO (n m:Int):CallsM Tryz.prog F.zf6 [nlM,.int .i64 n,.int .i64 m] M fun v M'=>v = .int .i64 16∧M=M':=by
 refine zu9 (by simp) ?_
 refine zR ?_
 refine(zFT n).mono ?_
 rintro v _ ⟨rfl,rfl⟩
 refine zR ?_
 exact⟨rfl,rfl⟩
end Go.Proofs.YtdgikhhkgnjalaaGreat
