/- Short words for the resolved texts. -/
import Derived.Test.YtjkejbenppeagaaGreatDoorVmG
namespace Go.Vm.S
open Go.Vm
@[reducible] def t (n : Nat) : Operand := .tmp n
@[reducible] def k (n : Int) : Operand := .const (.int .i64 n)
@[reducible] def kb (b : Bool) : Operand := .const (.bool b)
@[reducible] def fn (n : Nat) : Operand := .func n
@[reducible] def i (n : Int) : Value := .int .i64 n
@[reducible] def u (n : Int) : Value := .int .u8 n
@[reducible] def sn : Value := .slice none 0 0
@[reducible] def o (d : Nat) (x : ROp) : ROper := ⟨some d, x, none, false⟩
@[reducible] def e (x : ROp) : ROper := ⟨none, x, none, false⟩
@[reducible] def os (d : Nat) (x : ROp) : ROper := ⟨some d, x, none, true⟩
@[reducible] def gt (g : Nat) (d : Nat) (x : ROp) : ROper := ⟨some d, x, some (g, true), false⟩
@[reducible] def gf (g : Nat) (d : Nat) (x : ROp) : ROper := ⟨some d, x, some (g, false), false⟩
@[reducible] def st (n : Nat) (p x : Operand) : ROper := ⟨none, .store n p x, none, false⟩
@[reducible] def ad (d : Nat) (x y : Operand) : ROper := ⟨some d, .ibin .add x y, none, false⟩
@[reducible] def mv (d : Nat) (x : Operand) : ROper := ⟨some d, .mov x, none, false⟩
@[reducible] def fa (d : Nat) (n : Nat) (p : Operand) : ROper := ⟨some d, .faddr n p, none, false⟩
@[reducible] def l1 (d : Nat) (p : Operand) : ROper := ⟨some d, .load false 1 p, none, false⟩
@[reducible] def la (d : Nat) (n : Nat) (p : Operand) : ROper := ⟨some d, .load true n p, none, false⟩
@[reducible] def ca (d : Nat) (g : Nat) (l : List Operand) : ROper := ⟨some d, .call (.func g) l, none, false⟩
@[reducible] def ex (d : Nat) (x : Operand) (j : Nat) : ROper := ⟨some d, .extract x j, none, false⟩
end Go.Vm.S
