/- Part of this proof;laid by program. -/
import Derived.Test.YtpnhjkiligohnaaGreatDoorJ37
set_option linter.unusedVariables false
set_option linter.unusedSimpArgs false
namespace Go.Proofs.YtpnhjkiligohnaaGreatDoor
open Go Go.Vm
attribute [local irreducible] Brn Ob Grow CallsM inR zay zav Mem.row Mem.cells Mem.setCells Mem.upd Go.Vm.Own zaU zbF zbE zaV New SrcOk zah NewSl Mem.textAt Mem.mapAt Mem.iterAt zak kfind Wr NewEls Elems
set_option maxRecDepth 10000
section
variable {M M':Mem}
theorem zOt {J:Mem→Option Addr→Nat→Nat→Nat→Prop} {G:Mem→Option Addr→Nat→Nat→Nat→Nat→Prop} {A:Prop} (h:(∀ X a c m b e,J X a c m b→G X a c m b e)→A) (t:∀ X a c m b e,J X a c m b→G X a c m b e):A:=h t
structure Jp (M:Mem) (n:Nat) (L:List (Nat×Nat)) (X:Mem) (f:Option Nat) (g:Option (Option Addr×Nat)) (m b:Option Nat):Prop where
 le:M.le X
 e:∀ e,f=some e→g=none→NewSl M T.zac 2 (some ⟨e,0,none⟩) 0 0 [] X
 row:∀ a c,g=some (a,c)→NewSl M T.zac 2 a L.length c (L.flatMap zd4) X
 mp:∀ k,m=some k→X k=some (.map #[] 0)∧M k=none
 ns:∀ k,b=some k→X.has k T.zt (List.replicate n (.pointer none))∧M k=none
theorem Jp.none' {n:Nat} {L:List (Nat×Nat)} {X:Mem} {f g m b} (h:Jp M n L X f g m b) {y:Nat} (hy:X y=none):M y=none:=by
 cases ho:M y with
 | none=>rfl
 | some o=>rw[h.le _ _ ho] at hy;cases hy
theorem Jp.up {n:Nat} {L:List (Nat×Nat)} {X X':Mem} {f g m b} (h:Jp M n L X f g m b) (hle:X.le X'):Jp M n L X' f g m b:=
 ⟨Mem.le_trans h.le hle,fun e h1 h2=>(h.e e h1 h2).up hle,fun a c h1=>(h.row a c h1).up hle,fun k h1=>⟨hle _ _ (h.mp k h1).1,(h.mp k h1).2⟩,fun k h1=>⟨(h.ns k h1).1.le hle,(h.ns k h1).2⟩⟩
theorem Jp.s77 {n:Nat} {L:List (Nat×Nat)} {X:Mem} {m b} (h:Jp M n L X none none m b) {e:Nat} (he:X e=none):Jp M n L (X.setCells e T.zac []) (some e) none m b:=by
 have h1:=h.up (Mem.le_setCells (E:=T.zac) (l:=[]) he);exact⟨h1.le,fun e' h2 _=>(by cases h2;exact(NewSl.lit he T.zac 2 0 [] rfl).mono h.le),fun a c h2=>(by cases h2),h1.mp,h1.ns⟩
theorem Jp.s80 {n:Nat} {L:List (Nat×Nat)} {X:Mem} {f g b} (h:Jp M n L X f g none b) {k:Nat} (hk:X k=none):Jp M n L (X.upd k (.map #[] 0)) f g (some k) b:=by
 have h1:=h.up (Mem.le_upd (x := .map #[] 0) hk);exact⟨h1.le,h1.e,h1.row,fun k' h2=>(by cases h2;exact⟨Mem.upd_same _ _ _,h.none' hk⟩),h1.ns⟩
theorem Jp.s82 {n:Nat} {L:List (Nat×Nat)} {X:Mem} {f g m} (h:Jp M n L X f g m none) {k:Nat} (hk:X k=none):Jp M n L (X.setCells k T.zt (List.replicate (n:Int).toNat [Value.pointer none]).flatten) f g m (some k):=by
 rw[show (List.replicate (n:Int).toNat [Value.pointer none]).flatten=List.replicate n (Value.pointer none) by simp];have h1:=h.up (Mem.le_setCells (E:=T.zt) (l:=List.replicate n (.pointer none)) hk)
 exact⟨h1.le,h1.e,h1.row,h1.mp,fun k' h2=>(by cases h2;exact⟨Mem.has_setCells,h.none' hk⟩)⟩
theorem Jp.s79 {n:Nat} {L:List (Nat×Nat)} {X X':Mem} {e:Nat} {m b} (h:Jp M n L X (some e) none m b) {a:Option Addr} {c:Nat} (hN:NewSl M T.zac 2 a L.length c (L.flatMap zd4) X') (hk:Mem.keep (blk (some ⟨e,0,none⟩)) X X'):Jp M n L X' (some e) (some (a,c)) m b:=by
 have he:=h.e e rfl rfl;obtain⟨h0,cs,h1⟩:=he.block rfl;have hb:∀ y,blk (some ⟨e,0,none⟩) y→y=e:=fun y ⟨q,hq,h⟩=>by cases hq;exact h.symm
 refine⟨hN.le,fun _ _ h2=>(by cases h2),fun a c h2=>(by cases h2;exact hN),fun k h2=>⟨hk _ _ (fun h3=>?_) (h.mp k h2).1,(h.mp k h2).2⟩,fun k h2=>⟨hk _ _ (fun h3=>?_) (h.ns k h2).1,(h.ns k h2).2⟩⟩
 ·have:=hb k h3;subst this;have h4:=(h.mp k h2).1
  unfold Mem.has at h1;rw[h1] at h4;cases h4
 ·have:=hb k h3;subst this;have:=(h1.inj (h.ns k h2).1).1;revert this;decide
structure zK5 (M:Mem) (n:Nat) (L:List (Nat×Nat)) (X:Mem) (a:Option Addr) (c m b:Nat):Prop where
 le:M.le X
 row:NewSl M T.zac 2 a L.length c (L.flatMap zd4) X
 mp:X m=some (.map #[] 0)
 mn:M m=none
 ns:X.has b T.zt (List.replicate n (.pointer none))
 bn:M b=none
theorem Jp.fin {n:Nat} {L:List (Nat×Nat)} {X:Mem} {f:Option Nat} {a:Option Addr} {c m b:Nat} (h:Jp M n L X f (some (a,c)) (some m) (some b)):zK5 M n L X a c m b:=
 ⟨h.le,h.row a c rfl,(h.mp m rfl).1,(h.mp m rfl).2,(h.ns b rfl).1,(h.ns b rfl).2⟩
theorem zc7 (L:List (Nat×Nat)):∀ u∈L.flatMap zd4,u.oneCell'=true:=fun u hu=>by
 obtain⟨p, -, hp⟩:=List.mem_flatMap.1 hu;simp at hp;rcases hp with rfl|rfl<;>rfl
theorem zJT {S:StI} (hS:znm S) {n:Nat} {L:List (Nat×Nat)} (hL:LinksOk n L) {a:Option Addr} {c:Nat} (hrow:SrcOk M 2 a L.length (L.flatMap zd4)) :
  CallsM Tryz.prog F.zhm [.int .i64 (n:Nat),.slice a L.length c,zAF S] M fun v M'=>∃ p b,∃ xs:List Nat,∃ lk dv mb,v = .tuple #[ptr p,.int .i64 0]∧M.le M'∧M'.has p T.zad (zdK S lk dv (.slice (some ⟨b,0,none⟩) n n) mb)∧M'.has b T.zt (xs.map zam)∧xs.length=n∧∀ (j x:Nat),xs[j]? = some x→∃ P,UpB P x∧P.le M':=by
 have hnum:=hL.num;have hfew:=hL.few
 refine zCg (by simp) ?_;(conv=>whnf);refine brn_f (decide_eq_false (by omega)) ?_;(conv=>whnf);refine brn_f (decide_eq_false (by omega)) ?_;refine zR ?_;(conv=>whnf)
 refine zaL (σ:=Nat) [28] (fun i=>[(28,.int .i64 (i:Nat))]) (fun i=>[BE.live T.zen ((zyj S).map SC.v),BE.live T.zac [.v (.int .i64 (zl2 L i).1),.v (.int .i64 (zl2 L i).2)]]) (fun _=>M)
  (fun i=>i≤L.length) (fun i=>L.length - i) 0 (by omega) zS ?_
 intro i hi;(conv=>whnf);refine brn (fun g=>?_) (fun g=>?_)
 ·have g':i<L.length:=by have:=Zd0 g;omega
  have hx:L[i]? = some L[i]:=List.getElem?_eq_getElem g';have hgd:=hL.good hx
  obtain⟨b1,o1,rfl,hr⟩:=hrow.fall (enc:=zd4) (fun _=>rfl) (by decide) hx;have hlast:zl2 L (i+1)=((L[i].1:Int),(L[i].2:Int)):=by simp[zl2,hx]
  generalize L[i]=x at *;unfold zAE at hgd;generalize zl2 L i=la at *;(conv=>whnf);refine ob (by omega) ?_;(conv=>whnf);refine on hr ?_;(conv=>whnf);refine brn_f (by simp) ?_;(conv=>whnf);refine brn_f (by simp;omega) ?_;(conv=>whnf);refine brn_f (by simp;omega) ?_;(conv=>whnf);refine brn_f (by simp;omega) ?_;(conv=>whnf);refine brn (fun ge=>?_) (fun ge=>?_)
  ·have ge':(x.1:Int)=la.1:=Zd0 ge;(conv=>whnf);refine brn_f (decide_eq_false (by omega)) ?_;refine zR ?_;refine obr (zm (by first|omega|(dsimp only;omega))) ?_;(conv=>whnf)
   exact⟨i+1,by omega,by omega,by rw[hlast];exact zS⟩
  ·refine zR ?_;refine obr (zm (by first|omega|(dsimp only;omega))) ?_;(conv=>whnf)
   exact⟨i+1,by omega,by omega,by rw[hlast];exact zS⟩
 ·generalize zl2 L i=la at *;refine zR ?_;refine(zzG hS).mono ?_;rintro v M1 ⟨rfl,hle1⟩;refine zR ?_;apply zOt (J:=zK5 M1 n L)
  ·intro tail;have J:Jp M1 n L M1 none none none none:=⟨Mem.le_refl _,fun _ h=>(by cases h),fun _ _ h=>(by cases h),fun _ h=>(by cases h),fun _ h=>(by cases h)⟩
   (conv=>whnf);refine⟨?_,?_,?_,True.intro⟩
   ·(conv=>whnf);refine new fun e he=>?_
    replace J:=J.s77 he;obtain⟨X1,hX1⟩:∃ Y,Y=Mem.setCells M1 e T.zac []:=⟨_,rfl⟩
    rw[←hX1] at J;(conv=>whnf)
    erw [←hX1];refine⟨?_,?_,?_,True.intro⟩
    ·(conv=>whnf);refine zkt ((hrow.le hle1).le J.le) ?_;(conv=>whnf);refine appK M1 _ (J.e e rfl rfl) (by omega) (by simp[maxLen];omega) (zc7 L) fun a2 c2 X2 hN2 hk2=>?_
     rw[Nat.zero_add,List.nil_append] at hN2;replace J:=J.s79 hN2 hk2;(conv=>whnf);refine ob rfl ?_;(conv=>whnf);refine ob rfl ?_;(conv=>whnf);refine grow_same J.le ?_;(conv=>whnf)
     refine⟨?_,?_,True.intro⟩
     ·(conv=>whnf);refine new fun m hm=>?_
      replace J:=J.s80 hm;obtain⟨X3,hX3⟩:∃ Y,Y=Mem.upd X2 m (.map #[] 0):=⟨_,rfl⟩
      rw[←hX3] at J;(conv=>whnf)
      erw [←hX3];(conv=>whnf);refine ob rfl ?_;(conv=>whnf);refine ob rfl ?_;(conv=>whnf);refine grow_same J.le ?_;(conv=>whnf)
      (conv=>whnf);refine⟨?_,True.intro⟩;(conv=>whnf);refine ob (by omega) ?_;(conv=>whnf);refine new fun b hb=>?_
      replace J:=J.s82 hb;obtain⟨X4,hX4⟩:∃ Y,Y=Mem.setCells X3 b T.zt (List.replicate (n:Int).toNat [Value.pointer none]).flatten:=⟨_,rfl⟩
      rw[←hX4] at J;(conv=>whnf)
      erw [←hX4];(conv=>whnf);refine ob rfl ?_;(conv=>whnf);refine ob rfl ?_;(conv=>whnf);refine grow_same J.le ?_;(conv=>whnf)
      refine zR ?_;exact tail X4 a2 c2 m b e J.fin
     ·(conv=>whnf);refine ob (by omega) ?_;(conv=>whnf);refine new fun b hb=>?_
      replace J:=J.s82 hb;obtain⟨X3,hX3⟩:∃ Y,Y=Mem.setCells X2 b T.zt (List.replicate (n:Int).toNat [Value.pointer none]).flatten:=⟨_,rfl⟩
      rw[←hX3] at J;(conv=>whnf)
      erw [←hX3];(conv=>whnf);refine ob rfl ?_;(conv=>whnf);refine ob rfl ?_;(conv=>whnf);refine grow_same J.le ?_;(conv=>whnf)
      (conv=>whnf);refine⟨?_,True.intro⟩;(conv=>whnf);refine new fun m hm=>?_
      replace J:=J.s80 hm;obtain⟨X4,hX4⟩:∃ Y,Y=Mem.upd X3 m (.map #[] 0):=⟨_,rfl⟩
      rw[←hX4] at J;(conv=>whnf)
      erw [←hX4];(conv=>whnf);refine ob rfl ?_;(conv=>whnf);refine ob rfl ?_;(conv=>whnf);refine grow_same J.le ?_;(conv=>whnf)
      refine zR ?_;exact tail X4 a2 c2 m b e J.fin
    ·(conv=>whnf);refine new fun m hm=>?_
     replace J:=J.s80 hm;obtain⟨X2,hX2⟩:∃ Y,Y=Mem.upd X1 m (.map #[] 0):=⟨_,rfl⟩
     rw[←hX2] at J;(conv=>whnf)
     erw [←hX2];(conv=>whnf);refine ob rfl ?_;(conv=>whnf);refine ob rfl ?_;(conv=>whnf);refine grow_same J.le ?_;(conv=>whnf)
     refine⟨?_,?_,True.intro⟩
     ·(conv=>whnf);refine zkt ((hrow.le hle1).le J.le) ?_;(conv=>whnf);refine appK M1 _ (J.e e rfl rfl) (by omega) (by simp[maxLen];omega) (zc7 L) fun a2 c2 X3 hN2 hk2=>?_
      rw[Nat.zero_add,List.nil_append] at hN2;replace J:=J.s79 hN2 hk2;(conv=>whnf);refine ob rfl ?_;(conv=>whnf);refine ob rfl ?_;(conv=>whnf);refine grow_same J.le ?_;(conv=>whnf)
      (conv=>whnf);refine⟨?_,True.intro⟩;(conv=>whnf);refine ob (by omega) ?_;(conv=>whnf);refine new fun b hb=>?_
      replace J:=J.s82 hb;obtain⟨X4,hX4⟩:∃ Y,Y=Mem.setCells X3 b T.zt (List.replicate (n:Int).toNat [Value.pointer none]).flatten:=⟨_,rfl⟩
      rw[←hX4] at J;(conv=>whnf)
      erw [←hX4];(conv=>whnf);refine ob rfl ?_;(conv=>whnf);refine ob rfl ?_;(conv=>whnf);refine grow_same J.le ?_;(conv=>whnf)
      refine zR ?_;exact tail X4 a2 c2 m b e J.fin
     ·(conv=>whnf);refine ob (by omega) ?_;(conv=>whnf);refine new fun b hb=>?_
      replace J:=J.s82 hb;obtain⟨X3,hX3⟩:∃ Y,Y=Mem.setCells X2 b T.zt (List.replicate (n:Int).toNat [Value.pointer none]).flatten:=⟨_,rfl⟩
      rw[←hX3] at J;(conv=>whnf)
      erw [←hX3];(conv=>whnf);refine ob rfl ?_;(conv=>whnf);refine ob rfl ?_;(conv=>whnf);refine grow_same J.le ?_;(conv=>whnf)
      (conv=>whnf);refine⟨?_,True.intro⟩;(conv=>whnf);refine zkt ((hrow.le hle1).le J.le) ?_;(conv=>whnf);refine appK M1 _ (J.e e rfl rfl) (by omega) (by simp[maxLen];omega) (zc7 L) fun a2 c2 X4 hN2 hk2=>?_
      rw[Nat.zero_add,List.nil_append] at hN2;replace J:=J.s79 hN2 hk2;(conv=>whnf);refine ob rfl ?_;(conv=>whnf);refine ob rfl ?_;(conv=>whnf);refine grow_same J.le ?_;(conv=>whnf)
      refine zR ?_;exact tail X4 a2 c2 m b e J.fin
    ·(conv=>whnf);refine ob (by omega) ?_;(conv=>whnf);refine new fun b hb=>?_
     replace J:=J.s82 hb;obtain⟨X2,hX2⟩:∃ Y,Y=Mem.setCells X1 b T.zt (List.replicate (n:Int).toNat [Value.pointer none]).flatten:=⟨_,rfl⟩
     rw[←hX2] at J;(conv=>whnf)
     erw [←hX2];(conv=>whnf);refine ob rfl ?_;(conv=>whnf);refine ob rfl ?_;(conv=>whnf);refine grow_same J.le ?_;(conv=>whnf)
     refine⟨?_,?_,True.intro⟩
     ·(conv=>whnf);refine zkt ((hrow.le hle1).le J.le) ?_;(conv=>whnf);refine appK M1 _ (J.e e rfl rfl) (by omega) (by simp[maxLen];omega) (zc7 L) fun a2 c2 X3 hN2 hk2=>?_
      rw[Nat.zero_add,List.nil_append] at hN2;replace J:=J.s79 hN2 hk2;(conv=>whnf);refine ob rfl ?_;(conv=>whnf);refine ob rfl ?_;(conv=>whnf);refine grow_same J.le ?_;(conv=>whnf)
      (conv=>whnf);refine⟨?_,True.intro⟩;(conv=>whnf);refine new fun m hm=>?_
      replace J:=J.s80 hm;obtain⟨X4,hX4⟩:∃ Y,Y=Mem.upd X3 m (.map #[] 0):=⟨_,rfl⟩
      rw[←hX4] at J;(conv=>whnf)
      erw [←hX4];(conv=>whnf);refine ob rfl ?_;(conv=>whnf);refine ob rfl ?_;(conv=>whnf);refine grow_same J.le ?_;(conv=>whnf)
      refine zR ?_;exact tail X4 a2 c2 m b e J.fin
     ·(conv=>whnf);refine new fun m hm=>?_
      replace J:=J.s80 hm;obtain⟨X3,hX3⟩:∃ Y,Y=Mem.upd X2 m (.map #[] 0):=⟨_,rfl⟩
      rw[←hX3] at J;(conv=>whnf)
      erw [←hX3];(conv=>whnf);refine ob rfl ?_;(conv=>whnf);refine ob rfl ?_;(conv=>whnf);refine grow_same J.le ?_;(conv=>whnf)
      (conv=>whnf);refine⟨?_,True.intro⟩;(conv=>whnf);refine zkt ((hrow.le hle1).le J.le) ?_;(conv=>whnf);refine appK M1 _ (J.e e rfl rfl) (by omega) (by simp[maxLen];omega) (zc7 L) fun a2 c2 X4 hN2 hk2=>?_
      rw[Nat.zero_add,List.nil_append] at hN2;replace J:=J.s79 hN2 hk2;(conv=>whnf);refine ob rfl ?_;(conv=>whnf);refine ob rfl ?_;(conv=>whnf);refine grow_same J.le ?_;(conv=>whnf)
      refine zR ?_;exact tail X4 a2 c2 m b e J.fin
   ·(conv=>whnf);refine new fun m hm=>?_
    replace J:=J.s80 hm;obtain⟨X1,hX1⟩:∃ Y,Y=Mem.upd M1 m (.map #[] 0):=⟨_,rfl⟩
    rw[←hX1] at J;(conv=>whnf)
    erw [←hX1];(conv=>whnf);refine ob rfl ?_;(conv=>whnf);refine ob rfl ?_;(conv=>whnf);refine grow_same J.le ?_;(conv=>whnf)
    refine⟨?_,?_,True.intro⟩
    ·(conv=>whnf);refine new fun e he=>?_
     replace J:=J.s77 he;obtain⟨X2,hX2⟩:∃ Y,Y=Mem.setCells X1 e T.zac []:=⟨_,rfl⟩
     rw[←hX2] at J;(conv=>whnf)
     erw [←hX2];refine⟨?_,?_,True.intro⟩
     ·(conv=>whnf);refine zkt ((hrow.le hle1).le J.le) ?_;(conv=>whnf);refine appK M1 _ (J.e e rfl rfl) (by omega) (by simp[maxLen];omega) (zc7 L) fun a2 c2 X3 hN2 hk2=>?_
      rw[Nat.zero_add,List.nil_append] at hN2;replace J:=J.s79 hN2 hk2;(conv=>whnf);refine ob rfl ?_;(conv=>whnf);refine ob rfl ?_;(conv=>whnf);refine grow_same J.le ?_;(conv=>whnf)
      (conv=>whnf);refine⟨?_,True.intro⟩;(conv=>whnf);refine ob (by omega) ?_;(conv=>whnf);refine new fun b hb=>?_
      replace J:=J.s82 hb;obtain⟨X4,hX4⟩:∃ Y,Y=Mem.setCells X3 b T.zt (List.replicate (n:Int).toNat [Value.pointer none]).flatten:=⟨_,rfl⟩
      rw[←hX4] at J;(conv=>whnf)
      erw [←hX4];(conv=>whnf);refine ob rfl ?_;(conv=>whnf);refine ob rfl ?_;(conv=>whnf);refine grow_same J.le ?_;(conv=>whnf)
      refine zR ?_;exact tail X4 a2 c2 m b e J.fin
     ·(conv=>whnf);refine ob (by omega) ?_;(conv=>whnf);refine new fun b hb=>?_
      replace J:=J.s82 hb;obtain⟨X3,hX3⟩:∃ Y,Y=Mem.setCells X2 b T.zt (List.replicate (n:Int).toNat [Value.pointer none]).flatten:=⟨_,rfl⟩
      rw[←hX3] at J;(conv=>whnf)
      erw [←hX3];(conv=>whnf);refine ob rfl ?_;(conv=>whnf);refine ob rfl ?_;(conv=>whnf);refine grow_same J.le ?_;(conv=>whnf)
      (conv=>whnf);refine⟨?_,True.intro⟩;(conv=>whnf);refine zkt ((hrow.le hle1).le J.le) ?_;(conv=>whnf);refine appK M1 _ (J.e e rfl rfl) (by omega) (by simp[maxLen];omega) (zc7 L) fun a2 c2 X4 hN2 hk2=>?_
      rw[Nat.zero_add,List.nil_append] at hN2;replace J:=J.s79 hN2 hk2;(conv=>whnf);refine ob rfl ?_;(conv=>whnf);refine ob rfl ?_;(conv=>whnf);refine grow_same J.le ?_;(conv=>whnf)
      refine zR ?_;exact tail X4 a2 c2 m b e J.fin
    ·(conv=>whnf);refine ob (by omega) ?_;(conv=>whnf);refine new fun b hb=>?_
     replace J:=J.s82 hb;obtain⟨X2,hX2⟩:∃ Y,Y=Mem.setCells X1 b T.zt (List.replicate (n:Int).toNat [Value.pointer none]).flatten:=⟨_,rfl⟩
     rw[←hX2] at J;(conv=>whnf)
     erw [←hX2];(conv=>whnf);refine ob rfl ?_;(conv=>whnf);refine ob rfl ?_;(conv=>whnf);refine grow_same J.le ?_;(conv=>whnf)
     (conv=>whnf);refine⟨?_,True.intro⟩;(conv=>whnf);refine new fun e he=>?_
     replace J:=J.s77 he;obtain⟨X3,hX3⟩:∃ Y,Y=Mem.setCells X2 e T.zac []:=⟨_,rfl⟩
     rw[←hX3] at J;(conv=>whnf)
     erw [←hX3];(conv=>whnf)
     refine⟨?_,True.intro⟩;(conv=>whnf);refine zkt ((hrow.le hle1).le J.le) ?_;(conv=>whnf);refine appK M1 _ (J.e e rfl rfl) (by omega) (by simp[maxLen];omega) (zc7 L) fun a2 c2 X4 hN2 hk2=>?_
     rw[Nat.zero_add,List.nil_append] at hN2;replace J:=J.s79 hN2 hk2;(conv=>whnf);refine ob rfl ?_;(conv=>whnf);refine ob rfl ?_;(conv=>whnf);refine grow_same J.le ?_;(conv=>whnf)
     refine zR ?_;exact tail X4 a2 c2 m b e J.fin
   ·(conv=>whnf);refine ob (by omega) ?_;(conv=>whnf);refine new fun b hb=>?_
    replace J:=J.s82 hb;obtain⟨X1,hX1⟩:∃ Y,Y=Mem.setCells M1 b T.zt (List.replicate (n:Int).toNat [Value.pointer none]).flatten:=⟨_,rfl⟩
    rw[←hX1] at J;(conv=>whnf)
    erw [←hX1];(conv=>whnf);refine ob rfl ?_;(conv=>whnf);refine ob rfl ?_;(conv=>whnf);refine grow_same J.le ?_;(conv=>whnf)
    refine⟨?_,?_,True.intro⟩
    ·(conv=>whnf);refine new fun e he=>?_
     replace J:=J.s77 he;obtain⟨X2,hX2⟩:∃ Y,Y=Mem.setCells X1 e T.zac []:=⟨_,rfl⟩
     rw[←hX2] at J;(conv=>whnf)
     erw [←hX2];refine⟨?_,?_,True.intro⟩
     ·(conv=>whnf);refine zkt ((hrow.le hle1).le J.le) ?_;(conv=>whnf);refine appK M1 _ (J.e e rfl rfl) (by omega) (by simp[maxLen];omega) (zc7 L) fun a2 c2 X3 hN2 hk2=>?_
      rw[Nat.zero_add,List.nil_append] at hN2;replace J:=J.s79 hN2 hk2;(conv=>whnf);refine ob rfl ?_;(conv=>whnf);refine ob rfl ?_;(conv=>whnf);refine grow_same J.le ?_;(conv=>whnf)
      (conv=>whnf);refine⟨?_,True.intro⟩;(conv=>whnf);refine new fun m hm=>?_
      replace J:=J.s80 hm;obtain⟨X4,hX4⟩:∃ Y,Y=Mem.upd X3 m (.map #[] 0):=⟨_,rfl⟩
      rw[←hX4] at J;(conv=>whnf)
      erw [←hX4];(conv=>whnf);refine ob rfl ?_;(conv=>whnf);refine ob rfl ?_;(conv=>whnf);refine grow_same J.le ?_;(conv=>whnf)
      refine zR ?_;exact tail X4 a2 c2 m b e J.fin
     ·(conv=>whnf);refine new fun m hm=>?_
      replace J:=J.s80 hm;obtain⟨X3,hX3⟩:∃ Y,Y=Mem.upd X2 m (.map #[] 0):=⟨_,rfl⟩
      rw[←hX3] at J;(conv=>whnf)
      erw [←hX3];(conv=>whnf);refine ob rfl ?_;(conv=>whnf);refine ob rfl ?_;(conv=>whnf);refine grow_same J.le ?_;(conv=>whnf)
      (conv=>whnf);refine⟨?_,True.intro⟩;(conv=>whnf);refine zkt ((hrow.le hle1).le J.le) ?_;(conv=>whnf);refine appK M1 _ (J.e e rfl rfl) (by omega) (by simp[maxLen];omega) (zc7 L) fun a2 c2 X4 hN2 hk2=>?_
      rw[Nat.zero_add,List.nil_append] at hN2;replace J:=J.s79 hN2 hk2;(conv=>whnf);refine ob rfl ?_;(conv=>whnf);refine ob rfl ?_;(conv=>whnf);refine grow_same J.le ?_;(conv=>whnf)
      refine zR ?_;exact tail X4 a2 c2 m b e J.fin
    ·(conv=>whnf);refine new fun m hm=>?_
     replace J:=J.s80 hm;obtain⟨X2,hX2⟩:∃ Y,Y=Mem.upd X1 m (.map #[] 0):=⟨_,rfl⟩
     rw[←hX2] at J;(conv=>whnf)
     erw [←hX2];(conv=>whnf);refine ob rfl ?_;(conv=>whnf);refine ob rfl ?_;(conv=>whnf);refine grow_same J.le ?_;(conv=>whnf)
     (conv=>whnf);refine⟨?_,True.intro⟩;(conv=>whnf);refine new fun e he=>?_
     replace J:=J.s77 he;obtain⟨X3,hX3⟩:∃ Y,Y=Mem.setCells X2 e T.zac []:=⟨_,rfl⟩
     rw[←hX3] at J;(conv=>whnf)
     erw [←hX3];(conv=>whnf)
     refine⟨?_,True.intro⟩;(conv=>whnf);refine zkt ((hrow.le hle1).le J.le) ?_;(conv=>whnf);refine appK M1 _ (J.e e rfl rfl) (by omega) (by simp[maxLen];omega) (zc7 L) fun a2 c2 X4 hN2 hk2=>?_
     rw[Nat.zero_add,List.nil_append] at hN2;replace J:=J.s79 hN2 hk2;(conv=>whnf);refine ob rfl ?_;(conv=>whnf);refine ob rfl ?_;(conv=>whnf);refine grow_same J.le ?_;(conv=>whnf)
     refine zR ?_;exact tail X4 a2 c2 m b e J.fin
  ·intro X a2 c2 mb b e J;refine new fun p hp=>?_
   replace hp:X p=none:=hp;obtain⟨M2,hM2⟩:∃ M2,M2=X.setCells p T.zad (zdK S (.slice a2 (0+L.length) c2) (.slice none 0 0) (.slice (some ⟨b,0,none⟩) (n:Int).toNat (n:Int).toNat) mb):=⟨_,rfl⟩
   have hle2:X.le M2:=hM2▸Mem.le_setCells hp
   have hp2:M2.has p T.zad (zdK S (.slice a2 L.length c2) (.slice none 0 0) (.slice (some ⟨b,0,none⟩) n n) mb):=by
    have:=(hM2▸Mem.has_setCells:M2.has p T.zad (zdK S (.slice a2 (0+L.length) c2) (.slice none 0 0) (.slice (some ⟨b,0,none⟩) (n:Int).toNat (n:Int).toNat) mb))
    simpa only [Nat.zero_add,Int.toNat_natCast] using this
   (conv=>whnf);erw [←hM2];have hrow2:SrcOk M2 2 a2 L.length (L.flatMap zd4):=J.row.src.le hle2
   refine zR ?_;refine(zL4 hp2 hrow2 hfew).mono ?_;rintro v M3 ⟨q3,c3,rfl,hN3⟩
   have hmap3:MapAt kvL zam M3 mb []:=by
    refine(MapAt.new X mb).mono fun o ho=>?_
    rw[Mem.upd_same] at ho;exact hN3.le _ _ (hle2 _ _ (J.mp.trans ho))
   have hp3:=hp2.le hN3.le;have hb3:=(J.ns.le hle2).le hN3.le
   have hwl:=zB3 L;have hM13:M1.le M3:=Mem.le_trans J.le (Mem.le_trans hle2 hN3.le)
   refine zR ?_;(conv=>whnf)
   refine zaL (σ:=Nat×Mem×List Nat) [88] (fun y=>[(88,.int .i64 (y.1:Nat))]) (fun _=>[BE.live T.zen ((zyj S).map SC.v),BE.live T.zac [SC.v (.int .i64 la.1),SC.v (.int .i64 la.2)],BE.gone e,BE.gone p]) (fun y=>y.2.1)
    (fun|⟨i,Mc,lbs⟩=>i≤(zaz L).length∧Mem.keep (fun y=>y=mb) M3 Mc∧MapAt kvL zam Mc mb (((zaz L).take i).zip lbs)∧lbs.length=i∧lbs.Nodup∧∀ l∈lbs,Mc.has l T.zN (zgq S.delay)∧M3 l=none) (fun y=>(zaz L).length - y.1) ⟨0,M3,[]⟩ ⟨by omega,Mem.keep_refl _ _,by simpa using hmap3,rfl,by simp,by simp⟩ zS ?_
   rintro ⟨j,Mc,lbs⟩ ⟨hj,hkc,hmc,hlb,hlnd,hls⟩;have hpc:Mc.has p T.zad _:=hkc _ _ (hmap3.nb hp3) hp3
   (conv=>whnf);refine brn (fun g2=>?_) (fun g2=>?_)
   ·have g2':j<(zaz L).length:=by have:=Zd0 g2;dsimp only at this;omega
    have hw:(zaz L)[j]? = some (zaz L)[j]:=List.getElem?_eq_getElem g2';obtain⟨bq,oq,rfl,hr⟩:=(hmap3.src hN3.src hkc).fall (enc:=zd4) (fun _=>rfl) (by decide) hw;have hti:(zaz L).take (j+1)=(zaz L).take j++[(zaz L)[j]]:=by rw[List.take_add_one,hw];rfl
    have hno:zL (((zaz L).take j).zip lbs) (zaz L)[j]=none:=by
     rw[aget_none,List.map_fst_zip (by simp[hlb];omega)];intro hm;obtain⟨k,hk⟩:=List.mem_iff_getElem?.1 hm;rw[List.getElem?_take] at hk;split at hk
     ·have:=(List.getElem?_inj (List.getElem?_eq_some_iff.1 hk).1 hL.nodup).1 (hk.trans hw.symm);omega
     ·cases hk
    generalize (zaz L)[j]=w at *;(conv=>whnf);refine ob (by dsimp only;omega) ?_;(conv=>whnf);refine on hr ?_;refine zR ?_;refine on (hpc.c1 rfl) ?_;refine zR ?_;refine(zJJ ⟨hS.delay.1,by have:=hS.delay.2;omega⟩).mono ?_;rintro v M4 ⟨lb,rfl,hlbn,hM4⟩;have hle4:Mc.le M4:=hM4▸Mem.le_setCells hlbn
    have hlb4:M4.has lb T.zN (zgq S.delay):=hM4▸Mem.has_setCells;refine zT (hle4) ?_;have hmc4:MapAt kvL zam M4 mb (((zaz L).take j).zip lbs):=hmc.mono fun o ho=>hle4 _ _ ho
    (conv=>whnf);refine hmc4.put zpV w lb fun q f hm=>?_
    (conv=>whnf);obtain⟨M5,hM5⟩:∃ M5,M5=M4.upd mb (mput q f (kvL w) (zam lb)):=⟨_,rfl⟩
    have hm5:=hm M4;have hk5:Mem.keep (fun y=>y=mb) M4 M5:=hM5▸Mem.keep_upd M4 _ rfl
    rw[←hM5] at hm5;(conv=>whnf)
    erw [←hM5];refine zR ?_;refine obr (zm (by first|omega|(dsimp only;omega))) ?_;(conv=>whnf)
    refine⟨⟨j+1,M5,lbs++[lb]⟩,⟨by omega,fun y o hy ho=>hk5 y o hy (hle4 _ _ (hkc y o hy ho)),?_,by simp[hlb],?_,fun l hl=>?_⟩,by dsimp only;omega,zS⟩
    ·rw[hti,List.zip_append (by simp[hlb];omega)];unfold zoM at hm5;rw[hno] at hm5;exact hm5
    ·rw[List.nodup_append];refine⟨hlnd,by simp,fun y hy z hz e=>?_⟩;simp only[List.mem_singleton] at hz;subst hz;subst e;have:=(hls y hy).1
     unfold Mem.has at this;dsimp only at hlbn;rw[hlbn] at this;cases this
    ·simp only[List.mem_append,List.mem_singleton] at hl;rcases hl with hl|rfl
     ·exact⟨hk5 _ _ (hmc.nb (hls l hl).1) (hle4 _ _ (hls l hl).1),(hls l hl).2⟩
     ·refine⟨hk5 _ _ (hmc4.nb hlb4) hlb4,?_⟩;cases h3:M3 l with
      | none=>rfl
      | some o=>
       have:=hkc l o (hmc4.nb hlb4) h3;dsimp only at hlbn;rw[hlbn] at this;cases this
   ·have g2':j=(zaz L).length:=by have:=Zd1 g2;dsimp only at this;omega
    subst g2';rw[List.take_length] at hmc;obtain⟨lm,hlm⟩:∃ lm,lm=(zaz L).zip lbs:=⟨_,rfl⟩
    rw[←hlm] at hmc;have hl1:lm.map (·.1)=zaz L:=by rw[hlm,List.map_fst_zip (by omega)]
    have hl2:lm.map (·.2)=lbs:=by rw[hlm,List.map_snd_zip (by omega)]
    have hkeys:∀ w,w∈zaz L↔(zL lm w).isSome:=fun w=>by
     rw[←hl1,←Option.ne_none_iff_isSome,ne_eq,aget_none,Classical.not_not]
    have hnd:(lm.map (·.2)).Nodup:=by rw[hl2];exact hlnd
    have hlls:∀ w l,zL lm w=some l→Mc.has l T.zN (zgq S.delay)∧M3 l=none:=fun w l h=>hls l (by rw[←hl2];exact List.mem_map.2 ⟨_,zv5 h,rfl⟩)
    have hbc:Mc.has b T.zt (List.replicate n (.pointer none)):=hkc _ _ (hmap3.nb hb3) hb3;refine zR ?_;(conv=>whnf)
    refine zaL (σ:=Nat×Mem×List Nat×List Mem×Option Addr×Nat) [105] (fun y=>[(105,.int .i64 (y.1:Nat))]) (fun _=>[BE.live T.zen ((zyj S).map SC.v),BE.live T.zac [SC.v (.int .i64 la.1),SC.v (.int .i64 la.2)],BE.gone e,BE.gone p]) (fun y=>y.2.1)
     (fun|⟨i,Md,ds,As,q,cq⟩=>i≤n∧Mem.keep (fun y=>y=p) Mc Md∧Md.has p T.zad (zdK S (.slice a2 L.length c2) (.slice q i cq) (.slice (some ⟨b,0,none⟩) n n) mb)∧ds.length=i∧As.length=i∧NewSl (Mc.minus fun y=>y=p) T.zbs 1 q i cq (ds.map zam) Md ∧
      (∀ (j:Nat) A d,As[j]? = some A→ds[j]? = some d→zyi A d∧A.le Md∧(∀ y,A y≠none→Mc y=none)∧∀ y E l,A.has y E l→bhD.noT E=false)∧(∀ (j k:Nat) A B,j≠k→As[j]? = some A→As[k]? = some B→∀ y,A y=none∨B y=none)) (fun y=>n - y.1) ⟨0,Mc,[],[],none,0⟩ ⟨by omega,Mem.keep_refl _ _,hpc,rfl,rfl,(NewSl.none _ _ _).up (Mem.minus_le _ _),by simp,by simp⟩ zS ?_
    rintro ⟨k,Md,ds,As,q,cq⟩ ⟨hk,hkd,hpd,hdl,hAl,hND,hDs,hDj⟩;(conv=>whnf);refine brn (fun g3=>?_) (fun g3=>?_)
    ·have g3':k<n:=by have:=Zd0 g3;dsimp only at this;omega
     refine zR ?_;refine(zJO hS).mono ?_;rintro v M4 ⟨d,A0,rfl,hD0,hA0,hle4,hfr4⟩;obtain⟨A,hAA,hDA,hAt⟩:=hD0.tight;have hA4:=Mem.le_trans hAA hA0
     have hp4:=hpd.le hle4;refine zR ?_;refine on (hp4.c1 rfl) ?_;refine zR ?_;refine appK _ _ (hND.up hle4) (by omega) (by simp[maxLen];omega) (by simp[Value.oneCell']) fun a6 c6 M6 hN6 hk6=>?_
     have hqp:∀ y,blk q y→y≠p∧Mc y=none∧∃ ds',M4.has y T.zbs ds':=fun y ⟨r,hr,e⟩=>by
      obtain⟨h1,cs,h2⟩:=hND.block hr;rw[e] at h1 h2;have hne:y≠p:=fun e=>by subst e;have:=(hpd.inj h2).1;revert this;decide
      unfold Mem.minus at h1;rw[if_neg hne] at h1;exact⟨hne,h1,cs,h2.le hle4⟩
     have hp6:M6.has p T.zad _:=hk6 _ _ (fun h=>(hqp p h).1 rfl) hp4;refine zR ?_;refine on hp6.cells ?_;(conv=>whnf);refine ob (by simp) ?_;obtain⟨M7,hM7⟩:∃ M7,M7=M6.setCells p T.zad (zdK S (.slice a2 L.length c2) (.slice a6 (k+1) c6) (.slice (some ⟨b,0,none⟩) n n) mb):=⟨_,rfl⟩
     have hk7:Mem.keep (fun y=>y=p) M6 M7:=hM7▸zfl _ _ _ _;have hp7:M7.has p T.zad (zdK S (.slice a2 L.length c2) (.slice a6 (k+1) c6) (.slice (some ⟨b,0,none⟩) n n) mb):=hM7▸Mem.has_setCells
     (conv=>whnf);erw [←hM7];refine zR ?_;refine obr (zm (by first|omega|(dsimp only;omega))) ?_;(conv=>whnf)
     have hqD:∀ {B:Mem},B.le M4→(∀ y E l,B.has y E l→bhD.noT E=false)→∀ y,blk q y→B y=none:=fun {B} hB ht y hy=>by
      obtain⟨-, -, ds',hd'⟩:=hqp y hy;cases hBy:B y with
      | none=>rfl
      | some o=>
       have h1:=hB _ _ hBy;unfold Mem.has at hd';rw[hd'] at h1;cases h1;have:=ht y T.zbs ds' hBy
       rw[show Rn.T.noT T.zbs bhD=true by kernel_rfl] at this;cases this
     have hnew:∀ y,Md y≠none→A y=none:=fun y hy=>by
      have h1:=hfr4 y hy;cases hA1:A y with
      | none=>rfl
      | some o=>rw[hAA _ _ hA1] at h1;cases h1
     have hMcd:∀ y,Mc y≠none→Md y≠none:=fun y hy=>by
      by_cases hyp:y=p
      ·subst hyp;have h1:=hpd
       unfold Mem.has at h1;rw[h1];simp
      ·cases ho:Mc y with
       | none=>exact absurd ho hy
       | some o=>rw[hkd y o hyp ho];simp
     have hup:∀ {B:Mem},B.le M4→(∀ y E l,B.has y E l→bhD.noT E=false)→B p=none→B.le M7:=fun {B} hB ht hp0 y o ho=>by
      refine hk7 y o (fun h=>by subst h;rw[hp0] at ho;cases ho) (hk6 y o (fun h=>?_) (hB _ _ ho));rw[hqD hB ht y h] at ho;cases ho
     refine⟨⟨k+1,M7,ds++[d],As++[A],a6,c6⟩,⟨by omega,fun y o hy ho=>hk7 y o hy (hk6 y o (fun h=>by rw[(hqp y h).2.1] at ho;cases ho) (hle4 _ _ (hkd y o hy ho))),hp7,by simp[hdl],by simp[hAl],?_,?_,?_⟩,by dsimp only;omega,zS⟩
     ·rw[List.map_append];refine hN6.keep hk7 (fun y e=>e▸Mem.minus_in rfl) (fun r hr e=>?_);obtain⟨_,cs,h2⟩:=hN6.block hr;rw[e] at h2;have:=(h2.inj hp6).1;revert this;decide
     ·intro j B d' hB hd';rcases Nat.lt_or_ge j k with hjk|hjk
      ·rw[List.getElem?_append_left (by omega)] at hB hd';obtain⟨h1,h2,h3,h4⟩:=hDs j B d' hB hd';refine⟨h1,hup (Mem.le_trans h2 hle4) h4 ?_,h3,h4⟩;cases hBp:B p with
       | none=>rfl
       | some o=>
        have:=h3 p (by rw[hBp];simp);have h5:=hpc
        unfold Mem.has at h5;rw[h5] at this;cases this
      ·rw[List.getElem?_append_right (by omega)] at hB hd'
       have hj0:j - As.length=0:=by
        have:=(List.getElem?_eq_some_iff.1 hB).1;simp at this;omega
       rw[hj0] at hB;rw[show j - ds.length=0 by omega] at hd';simp at hB hd';subst hB hd';refine⟨hDA,hup hA4 hAt (hnew p (by have h1:=hpd;unfold Mem.has at h1;rw[h1];simp)),fun y hy=>?_,hAt⟩;cases hMy:Mc y with
       | none=>rfl
       | some o=>exact absurd (hnew y (hMcd y (by rw[hMy];simp))) hy
     ·intro j j' B B' hjj hB hB' y
      have one:∀ {j:Nat} {B:Mem},(As++[A])[j]? = some B→(j<k∧As[j]? = some B)∨(j=k∧B=A):=fun {j B} hB=>by
       rcases Nat.lt_or_ge j k with hjk|hjk
       ·rw[List.getElem?_append_left (by omega)] at hB;exact .inl ⟨hjk,hB⟩
       ·rw[List.getElem?_append_right (by omega)] at hB;have:=(List.getElem?_eq_some_iff.1 hB).1
        simp at this;have hj0:j - As.length=0:=by omega
        rw[hj0] at hB;simp at hB;exact .inr ⟨by omega,hB.symm⟩
      have old:∀ {j:Nat} {B:Mem},j<k→As[j]? = some B→∀ y,B y≠none→A y=none:=fun {j B} hj hB y hy=>by
       have hlt:j<ds.length:=by omega
       obtain⟨-, h2, -⟩:=hDs j B _ hB (List.getElem?_eq_getElem hlt);refine hnew y ?_;cases ho:B y with
       | none=>exact absurd ho hy
       | some o=>rw[h2 _ _ ho];simp
      rcases one hB with ⟨h1,h2⟩|⟨h1,rfl⟩<;>rcases one hB' with ⟨h3,h4⟩|⟨h3,rfl⟩
      ·exact hDj j j' B B' hjj h2 h4 y
      ·by_cases hy:B y=none
       ·exact .inl hy
       ·exact .inr (old h1 h2 y hy)
      ·by_cases hy:B' y=none
       ·exact .inr hy
       ·exact .inl (old h3 h4 y hy)
      ·exact absurd (h1.trans h3.symm) hjj
    ·have g3':k=n:=by have:=Zd1 g3;dsimp only at this;omega
     subst g3';obtain⟨-, -, hkc2,hq⟩:=newSl_iff.1 hND
     obtain⟨r,csd,rfl,hrn,hrD, -, hcsd⟩:∃ r cs,q=some ⟨r,0,none⟩∧(Mc.minus fun y=>y=p) r=none∧Md.has r T.zbs cs∧cs.length=cq*1∧cs.take (k*1)=ds.map zam:=by
      rcases hq with ⟨-, h0⟩|h0
      ·omega
      ·exact h0
     have hst:∀ {A:Mem} {j:Nat},As[j]? = some A→A p=none∧A b=none∧A r=none∧A mb=none∧(∀ w y,zL lm w=some y→A y=none)∧(∀ y,M1 y≠none→A y=none):=fun {A j} hA=>by
      have hj:=(List.getElem?_eq_some_iff.1 hA).1;obtain⟨-, h2,h3,h4⟩:=hDs j A _ hA (List.getElem?_eq_getElem (by omega))
      have h5:∀ y,Mc y≠none→A y=none:=fun y hy=>by
       cases ho:A y with
       | none=>rfl
       | some o=>exact absurd (h3 y (by rw[ho];simp)) hy
      refine⟨h5 p (by have h:=hpc;unfold Mem.has at h;rw[h];simp),h5 b (by have h:=hbc;unfold Mem.has at h;rw[h];simp),?_,h5 mb (by obtain⟨l,cl,h, -⟩:=hmc;rw[h];simp),fun w y hw=>h5 y (by have h:=(hlls w y hw).1;unfold Mem.has at h;rw[h];simp),fun y hy=>h5 y ?_⟩
      ·cases ho:A r with
       | none=>rfl
       | some o=>
        have h6:=h2 _ _ ho;unfold Mem.has at hrD;rw[hrD] at h6;cases h6;have:=h4 r T.zbs csd ho
        rw[show Rn.T.noT T.zbs bhD=true by kernel_rfl] at this;cases this
      ·cases ho:M1 y with
       | none=>exact absurd ho hy
       | some o=>rw[hkc y o (fun h=>by subst h;rw[J.mn] at ho;cases ho) (hM13 _ _ ho)];simp
     have hmd:MapAt kvL zam Md mb lm:=hmc.mono fun o ho=>hkd mb o (fun h=>hmc.nb hpc h.symm) ho
     have hM1d:M1.le Md:=fun y o ho=>hkd y o (fun h=>by subst h;rw[show M1 y=none from by cases h:M1 y with|none=>rfl|some o=>(have:=J.le _ _ h;rw[hp] at this;cases this)] at ho;cases ho) (hkc y o (fun h=>by subst h;rw[J.mn] at ho;cases ho) (hM13 _ _ ho))
     have hbd:Md.has b T.zt (List.replicate k (.pointer none)):=hkd _ _ (fun h=>by subst h;have:=(hbc.inj hpc).1;revert this;decide) hbc;refine zR ?_;(conv=>whnf)
     refine zaL (σ:=Nat×Mem×List Nat) [125] (fun y=>[(125,.int .i64 (y.1:Nat))]) (fun _=>[BE.live T.zen ((zyj S).map SC.v),BE.live T.zac [SC.v (.int .i64 la.1),SC.v (.int .i64 la.2)],BE.gone e,BE.gone p]) (fun y=>y.2.1)
      (fun|⟨i,Me,xs⟩=>i≤k∧xs.length=i∧M1.le Me∧zAG Me p b r S k L (xs.map zam++List.replicate (k - i) (.pointer none)) ds mb lm∧(∀ j A,i≤j→As[j]? = some A→A.le Me)∧(∀ w y,i≤w.1→zL lm w=some y→Me.has y T.zN (zgq S.delay)) ∧
       ∀ (j x:Nat),xs[j]? = some x→∃ P,UpB P x∧P.le Me∧P b=none∧P p=none∧(∀ j' A y,i≤j'→As[j']? = some A→A y≠none→P y=none)∧∀ w y,i≤w.1→zL lm w=some y→P y=none) (fun y=>k - y.1) ⟨0,Md,[]⟩ ⟨by omega,rfl,hM1d,⟨⟨_,_,csd,hpd,by simpa using hbd,hrD,by simpa using hcsd⟩,by simp,hdl,hmd,hkeys,hnd⟩,fun j A _ hA=>(hDs j A _ hA (List.getElem?_eq_getElem (by have:=(List.getElem?_eq_some_iff.1 hA).1;omega))).2.1,fun w y _ hw=>hkd _ _ (fun h=>by subst h;have:=((hlls w y hw).1.inj hpc).1;revert this;decide) (hlls w y hw).1,by simp⟩ zS ?_
     rintro ⟨i,Me,xs⟩ ⟨hi,hxl,hM1e,hQ,hAe,hLe,hPs⟩;(conv=>whnf);refine brn (fun g4=>?_) (fun g4=>?_)
     ·have g4':i<k:=by have:=Zd0 g4;dsimp only at this;omega
      have hAi:As[i]? = some (As[i]'(by omega)):=List.getElem?_eq_getElem _;have hdi:ds[i]? = some (ds[i]'(by omega)):=List.getElem?_eq_getElem _
      obtain⟨hs1,hs2,hs3,hs4,hs5,hs6⟩:=hst hAi;refine zR ?_;refine(zJS hQ hL hS g4' hdi (hDs i _ _ hAi hdi).1 (hAe i _ (Nat.le_refl i) hAi) (fun k' y h=>hLe (i,k') y (Nat.le_refl i) h) hs1 hs2 hs3 hs4 hs5).mono ?_;rintro v M' ⟨rfl,x,P,hUp,hPle,hPn,hb',hfr⟩;refine zR ?_;refine obr (zm (by first|omega|(dsimp only;omega))) ?_;(conv=>whnf)
      obtain⟨lk,cd,cs,hpe,hbe,hre,hcse⟩:=hQ.cells;have no:∀ {y:Nat} {E:TypeId} {l:List Value},Me.has y E l→E≠T.zN→∀ k',zL lm (i,k')≠some y:=fun {y E l} hy hE k' h=>hE (hy.inj (hLe (i,k') y (Nat.le_refl i) h)).1
      have neb:∀ {y:Nat} {E:TypeId} {l:List Value},Me.has y E l→E≠T.zt→y≠b:=fun {y E l} hy hE h=>by subst h;exact hE (hy.inj hbe).1
      have hset:(xs.map zam++List.replicate (k - i) (Value.pointer none)).set i (ptr x)=(xs++[x]).map zam++List.replicate (k - (i+1)) (Value.pointer none):=by
       rw[show k - i=(k - (i+1))+1 by omega,List.replicate_succ,List.set_append_right _ _ (by simp[hxl])];simp[hxl]
      have some_:∀ {y:Nat} {o:Go.Obj},Me y=some o→Me y≠none:=fun {y o} h=>by rw[h];simp
      have hasn:∀ {y:Nat} {E:TypeId} {l:List Value},Me.has y E l→Me y≠none:=fun {y E l} h=>by unfold Mem.has at h;exact some_ h
      rw[hset] at hb';refine⟨⟨i+1,M',xs++[x]⟩,⟨by omega,by simp[hxl],fun y o ho=>?_,⟨⟨lk,cd,cs,hfr _ _ hs1 (neb hpe (by decide)) (no hpe (by decide)) hpe,hb',hfr _ _ hs3 (neb hre (by decide)) (no hre (by decide)) hre,hcse⟩,by simp[hxl];omega,hdl,hQ.map.mono fun o ho=>hfr mb o hs4 (fun h=>?_) (fun k' h=>?_) ho,hkeys,hnd⟩,fun j A hj hA y o ho=>?_,fun w y hw hwy=>?_,fun j x' hx'=>?_⟩,by dsimp only;omega,zS⟩
      ·refine hfr y o (hs6 y (by rw[ho];simp)) (fun h=>?_) (fun k' h=>?_) (hM1e y o ho)
       ·subst h;rw[J.bn] at ho;cases ho
       ·have h2:=(hlls _ _ h).2;rw[hM13 _ _ ho] at h2;cases h2
      ·subst h;exact hQ.map.nb hbe rfl
      ·exact hQ.map.nb (hLe (i,k') mb (Nat.le_refl i) h) rfl
      ·have hji:j≠i:=by omega
       have h0:(As[i]'(by omega)) y=none:=(hDj j i A _ hji hA hAi y).resolve_left (by rw[ho];simp);obtain⟨h1,h2,h3,h4,h5,h6⟩:=hst hA;exact hfr y o h0 (fun h=>by subst h;rw[h2] at ho;cases ho) (fun k' h=>by rw[h5 _ _ h] at ho;cases ho) (hAe j A (by omega) hA y o ho)
      ·have h1:=hLe w y (by omega) hwy;refine hfr _ _ (hs5 w y hwy) (neb h1 (by decide)) (fun k' h=>?_) h1;have:=zHw hnd hwy h
       subst this;exact absurd hw (by simp)
      ·rcases Nat.lt_or_ge j i with hji|hji
       ·rw[List.getElem?_append_left (by omega)] at hx';obtain⟨P',h1,h2,h3,h3',h4,h5⟩:=hPs j x' hx';refine⟨P',h1,fun y o ho=>hfr y o ?_ (fun h=>by subst h;rw[h3] at ho;cases ho) (fun k' h=>by rw[h5 (i,k') y (Nat.le_refl i) h] at ho;cases ho) (h2 y o ho),h3,h3',fun j' A y hj'=>h4 j' A y (by omega),fun w y hw=>h5 w y (by omega)⟩;cases hAy:(As[i]'(by omega)) y with
        | none=>rfl
        | some o'=>rw[h4 i _ y (Nat.le_refl i) hAi (by rw[hAy];simp)] at ho;cases ho
       ·rw[List.getElem?_append_right (by omega)] at hx'
        have hj0:j - xs.length=0:=by
         have:=(List.getElem?_eq_some_iff.1 hx').1;simp at this;omega
        rw[hj0] at hx';simp at hx';subst hx';refine⟨P,hUp,hPle,hPn b hs2 (hasn hbe),hPn p hs1 (hasn hpe),fun j' A y hj' hA hy=>hPn y ?_ ?_,fun w y hw hwy=>hPn y (hs5 w y hwy) (hasn (hLe w y (by omega) hwy))⟩
        ·exact(hDj j' i A _ (by omega) hA hAi y).resolve_left hy
        ·cases ho:A y with
         | none=>exact absurd ho hy
         | some o=>exact some_ (hAe j' A (by omega) hA y o ho)
     ·have g4':i=k:=by have:=Zd1 g4;dsimp only at this;omega
      subst g4';obtain⟨lk,cd,cs,hpe,hbe, -, -⟩:=hQ.cells;refine zR ?_;refine on hpe.cells ?_;(conv=>whnf);refine ob (by simp) ?_;obtain⟨M'',hM''⟩:∃ M'',M''=Me.setCells p T.zad (zdK S lk (.slice (some ⟨r,0,none⟩) i cd) (.slice (some ⟨b,0,none⟩) i i) mb):=⟨_,rfl⟩
      have hk'':Mem.keep (fun y=>y=p) Me M'':=hM''▸zfl _ _ _ _;have hp'':M''.has p T.zad (zdK S lk (.slice (some ⟨r,0,none⟩) i cd) (.slice (some ⟨b,0,none⟩) i i) mb):=hM''▸Mem.has_setCells
      (conv=>whnf);erw [←hM''];refine zR ?_;(conv=>whnf)
      rw[Nat.sub_self] at hbe;simp only[List.replicate_zero,List.append_nil] at hbe;refine⟨p,b,xs,lk,_,mb,rfl,fun y o ho=>hk'' y o (fun h=>?_) (hM1e _ _ (hle1 _ _ ho)),hp'',hk'' _ _ (fun h=>?_) hbe,hxl,fun j x hx=>?_⟩
      ·subst h;have:=J.le _ _ (hle1 _ _ ho)
       rw[hp] at this;cases this
      ·subst h;have:=(hbe.inj hpe).1;revert this;decide
      ·obtain⟨P,h1,h2, -, h3, -, -⟩:=hPs j x hx;exact⟨P,h1,fun y o ho=>hk'' y o (fun h=>by subst h;rw[h3] at ho;cases ho) (h2 y o ho)⟩
end
section
variable {M M':Mem}
section
variable {p b n mb:Nat} {S:StI} {lk dv:Value} (hp:M.has p T.zad (zdK S lk dv (.slice (some ⟨b,0,none⟩) n n) mb))
include hp
theorem zB9:CallsM Tryz.prog F.zeU [ptr p] M fun v M'=>v = .int .i64 (n:Nat)∧M=M':=by
 refine zua (by simp) ?_;(conv=>whnf);refine brn_f rfl ?_;(conv=>whnf);refine on (hp.c1 rfl) ?_;(conv=>whnf)
 exact⟨rfl,rfl⟩
theorem zHy:CallsM Tryz.prog F.zhD [ptr p] M fun v M'=>v = .int .i64 0∧M=M':=by
 refine zsl (by simp) ?_;(conv=>whnf);refine brn_f rfl ?_;(conv=>whnf);refine on (hp.c1 rfl) ?_;(conv=>whnf)
 exact⟨rfl,rfl⟩
theorem zJU:CallsM Tryz.prog F.zbu [ptr p] M fun v M'=>v = .slice none 0 0∧M=M':=by
 refine zud (by simp) ?_;(conv=>whnf);refine brn_f rfl ?_;(conv=>whnf);refine on (hp.c1 rfl) ?_;(conv=>whnf)
 refine ztL [13] (fun (j:Nat)=>[(13,.int .i64 (j:Nat))]) (fun j=>j=0) (fun j=>0) 0 rfl zS ?_;rintro j rfl;refine zR ?_;(conv=>whnf)
 exact⟨rfl,rfl⟩
theorem zNN {i:Nat} (hi:i<n):CallsM Tryz.prog F.zk4 [ptr p,.int .i64 (i:Nat)] M fun v M'=>v = .bool true∧M=M':=by
 refine zxu (by simp) ?_;(conv=>whnf);refine brn_t (decide_eq_true (by omega)) ?_;refine zR ?_;refine(zB9 hp).mono ?_;rintro v _ ⟨rfl,rfl⟩;refine zR ?_;(conv=>whnf)
 exact⟨by rw[decide_eq_true (by omega)],rfl⟩
variable {xs:List Nat} (hb:M.has b T.zt (xs.map zam)) (hl:xs.length=n)
include hb hl
theorem zHz {i:Nat} (hi:i<n):CallsM Tryz.prog F.zhl [ptr p,.int .i64 (i:Nat)] M fun v M'=>v = .bool true∧M=M':=by
 have hx:(xs.map zam)[0+i*1]? = some (zam (xs[i]'(by omega))):=by simp
 refine zxs (by simp) ?_;refine zR ?_;refine(zNN hp hi).mono ?_;rintro v _ ⟨rfl,rfl⟩;refine zR ?_;refine on (hp.c1 rfl) ?_;refine zR ?_;refine ob (by omega) ?_;refine zR ?_;refine on (hb.c1 hx) ?_;refine zR ?_;(conv=>whnf)
 exact⟨rfl,rfl⟩
theorem zHA {i:Nat} (hi:i<n) {x:Nat} (hx:xs[i]? = some x) {P:Mem} (hu:UpB P x) (hP:P.le M):CallsM Tryz.prog F.zhE [ptr p,.int .i64 (i:Nat)] M fun v M'=>(∃ me,v = .agg #[.int .i64 me,.int .i64 1,.slice none 0 0,.slice none 0 0,.slice none 0 0])∧M.le M':=by
 have hx':(xs.map zam)[0+i*1]? = some (zam x):=by simp[hx]
 obtain⟨self,S',c,sm,t,d,hn,hc⟩:=hu;refine zsm (by simp) ?_;refine zR ?_;refine(zHz hp hb hl hi).mono ?_;rintro v _ ⟨rfl,rfl⟩;refine zR ?_;refine on (hp.c1 rfl) ?_;refine zR ?_;refine ob (by omega) ?_;refine zR ?_;refine on (hb.c1 hx') ?_;refine zR ?_;refine CallsM.mono (R:=fun v M'=>(∃ me,v = .agg #[.int .i64 me,.int .i64 1,.slice none 0 0,.slice none 0 0,.slice none 0 0])∧M.le M') ?_ ?_
 ·refine zsq (by simp) ?_;refine zR ?_;refine on ((hn.le hP).c1 rfl) ?_;refine zR ?_;refine(hc.le hP).state.mono ?_;rintro v M1 ⟨⟨me,rfl⟩,hle⟩;refine zR ?_;(conv=>whnf)
  exact⟨⟨me,rfl⟩,hle⟩
 ·rintro v M1 ⟨⟨me,rfl⟩,hle⟩;refine zR ?_;(conv=>whnf)
  exact⟨⟨me,rfl⟩,hle⟩
end
theorem zzq {n:Nat} {L:List (Nat×Nat)} (hL:LinksOk n L) {a:Option Addr} {c:Nat} (hrow:SrcOk M 2 a L.length (L.flatMap zd4)) :
  CallsM Tryz.prog F.zgy [.int .i64 (n:Nat),.slice a L.length c] M fun v M'=>v = .int .i64 0∧M=M':=by
 have hnum:=hL.num;have hfew:=hL.few
 refine zrt (by simp) ?_;(conv=>whnf);refine brn_f (decide_eq_false (by omega)) ?_;(conv=>whnf);refine brn_f (decide_eq_false (by omega)) ?_;refine zR ?_;(conv=>whnf)
 refine ztL [5] (fun (i:Nat)=>[(5,.int .i64 (i:Nat))]) (fun i=>i≤L.length) (fun i=>L.length - i) 0 (by omega) zS ?_;intro i hi;(conv=>whnf);refine brn (fun g=>?_) (fun g=>?_)
 ·have g':i<L.length:=by have:=Zd0 g;omega
  have hx:L[i]? = some L[i]:=List.getElem?_eq_getElem g';have hgd:=hL.good hx
  obtain⟨b1,o1,rfl,hr⟩:=hrow.fall (enc:=zd4) (fun _=>rfl) (by decide) hx;generalize L[i]=x at *;unfold zAE at hgd;(conv=>whnf);refine ob (by omega) ?_;(conv=>whnf);refine on hr ?_;(conv=>whnf);refine brn_f (decide_eq_false (by omega)) ?_;(conv=>whnf);refine brn_f (decide_eq_false (by omega)) ?_;(conv=>whnf);refine brn_f (decide_eq_false (by omega)) ?_;(conv=>whnf);refine brn (fun h0=>?_) (fun h0=>?_)
  ·have hi0:0<i:=by have:=Zd0 h0;omega
   obtain⟨y,hy⟩:∃ y,L[i - 1]? = some y:=⟨_,List.getElem?_eq_getElem (by omega)⟩
   have hla:zl2 L i=((y.1:Int),(y.2:Int)):=by
    obtain⟨k,rfl⟩:∃ k,i=k+1:=⟨i - 1,by omega⟩
    simp only[Nat.add_sub_cancel] at hy;simp[zl2,hy]
   rw[hla] at hgd;simp only at hgd;obtain⟨b2,o2,e2,hc⟩:=hrow.fcells (enc:=zd4) (fun _=>rfl) (by decide) hy;cases e2;have ht:((i:Int) - 1).toNat=i - 1:=by omega
   refine zR ?_;refine obr (zm (by omega)) ?_;(conv=>whnf);refine ob (by omega) ?_;(conv=>whnf);refine on (l:=[.int .i64 (y.1:Nat)]) (by rw[ht];exact hc 0 _ rfl) ?_;(conv=>whnf);refine brn_f (decide_eq_false (by omega)) ?_;refine zR ?_;refine obr (zm (by omega)) ?_;(conv=>whnf);refine ob (by omega) ?_;(conv=>whnf);refine on (l:=[.int .i64 (y.1:Nat)]) (by rw[ht];exact hc 0 _ rfl) ?_;(conv=>whnf);refine brn (fun h1=>?_) (fun h1=>?_)
   ·have h1':=Zd0 h1;refine zR ?_;refine obr (zm (by omega)) ?_;(conv=>whnf);refine ob (by omega) ?_;(conv=>whnf);refine on (l:=[.int .i64 (y.2:Nat)]) (by rw[ht];exact hc 1 _ rfl) ?_;(conv=>whnf);refine brn_f (decide_eq_false (by omega)) ?_;refine zR ?_;refine obr (zm (by first|omega|(dsimp only;omega))) ?_;(conv=>whnf)
    exact⟨i+1,by omega,by omega,zS⟩
   ·
    refine zR ?_;refine obr (zm (by first|omega|(dsimp only;omega))) ?_;(conv=>whnf)
    exact⟨i+1,by omega,by omega,zS⟩
  ·
   refine zR ?_;refine obr (zm (by first|omega|(dsimp only;omega))) ?_;(conv=>whnf)
   exact⟨i+1,by omega,by omega,zS⟩
 ·refine zR ?_;(conv=>whnf)
  exact⟨rfl,rfl⟩
end
end Go.Proofs.YtpnhjkiligohnaaGreatDoor
