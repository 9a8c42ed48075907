/- Part of this proof;laid by program. -/
import Derived.Test.YtdgikhhkgnjalaaGreatJ7
import Derived.Shelf.Spec.SlicesInsertGrow
import Derived.Sort.Grow
import Derived.Test.YtdgikhhkgnjalaaGreatProg
import Derived.Test.YtdgikhhkgnjalaaGreatJ18
set_option linter.unusedVariables false
set_option linter.unusedSimpArgs false
namespace Go.Vm
open Go.RowKit Go.Shelf Go.Sort Go.Proofs
def zOe (M:Mem) (E:TypeId) (a:Option Addr) (c:Nat) (l:List Int):Prop:=
 (l.length≤c∧c≤maxLen)∧((a=none∧c=0)∨∃ b o cs,a=some ⟨b,o,none⟩∧M.has b E cs∧o+c≤cs.length∧(cs.drop o).take l.length=l.map (Value.int .i64))
def zmw (c:Array Value):Nat→List Value→Array Value
 | _,[]=>c
 | o,v::r=>zmw (c.setIfInBounds o v) (o+1) r
theorem z1 (b:Nat):∀ (vs:List Value) (o:Nat) (w:World),w.setCells b o vs=mapBlock w b fun c=>zmw c o vs
 | [],o,w=>by
  show w=_
  rw[mapBlock_id]
  intro c e fr _;rfl
 | v::r,o,w=>by
  show (w.setCell ⟨b,o,none⟩ v).setCells b (o+1) r=_
  rw[z1 b r (o+1),setCell_eq,mapBlock_mapBlock]
  rfl
theorem zlx:∀ (vs:List Value) (o:Nat) (cs:List Value),o+vs.length≤cs.length→zmw cs.toArray o vs=(splice cs o vs).toArray
 | [],o,cs,h=>by simp[zmw,splice]
 | v::r,o,cs,h=>by
  simp only[List.length_cons] at h
  have e:cs.toArray.setIfInBounds o v=(cs.set o v).toArray:=by simp
  rw[zmw,e,zlx r (o+1) (cs.set o v) (by simp;omega)]
  congr 1
  unfold splice
  have h1:(cs.set o v).take (o+1)=cs.take o++[v]:=by
   rw[List.take_add_one,List.take_set,List.set_eq_of_length_le (by simp;omega),List.getElem?_set_self (by omega)];rfl
  have h2:(cs.set o v).drop (o+1+r.length)=cs.drop (o+(v::r).length):=by
   rw[List.drop_set_of_lt (by omega)];congr 1;simp;omega
  rw[h1,h2];simp
theorem zwF {cs V:List Value} {o k:Nat} (h:o+k≤cs.length):(splice cs (o+k) V).drop o=splice (cs.drop o) k V:=by
 unfold splice
 rw[List.append_assoc,List.drop_append_of_le_length (by simp;omega),List.drop_take,show o+k - o=k by omega,List.drop_drop,←List.append_assoc]
 congr 2
 omega
theorem zLG {A l:List Value} {i:Nat} {x:Value} (ht:A.take l.length=l) (hi:i≤l.length) (ha:l.length+1≤A.length):(splice (splice A (i+1) (l.drop i)) i [x]).take (l.length+1)=l.take i++x::l.drop i:=by
 have h1:A.take i=l.take i:=by rw[←ht,List.take_take,Nat.min_eq_left hi]
 have h2:(splice A (i+1) (l.drop i)).take i=l.take i:=by
  unfold splice
  rw[List.append_assoc,List.take_append_of_le_length (by simp;omega),List.take_take,Nat.min_eq_left (by omega),h1]
 have h3:(splice A (i+1) (l.drop i)).drop (i+1)=l.drop i++A.drop (i+1+(l.drop i).length):=by
  unfold splice
  rw[List.append_assoc,List.drop_append_of_le_length (by simp;omega),List.drop_of_length_le (by simp;omega),List.nil_append]
 have e:splice (splice A (i+1) (l.drop i)) i [x]=(l.take i++x::l.drop i)++A.drop (i+1+(l.drop i).length):=by
  rw[splice,h2,show i+[x].length=i+1 from rfl,h3];simp
 rw[e,List.take_append_of_le_length (by simp;omega),List.take_of_length_le (by simp;omega)]
theorem zLH {A l:List Value} {i:Nat} {x:Value} (ht:A.take i=l.take i) (hi:i≤l.length) (ha:l.length+1≤A.length):(splice (splice A i [x]) (i+1) (l.drop i)).take (l.length+1)=l.take i++x::l.drop i:=by
 have h2:(splice A i [x]).take (i+1)=l.take i++[x]:=by
  unfold splice
  rw[List.take_append_of_le_length (by simp;omega),ht,List.take_of_length_le (by simp;omega)]
 have e:splice (splice A i [x]) (i+1) (l.drop i)=(l.take i++x::l.drop i)++(splice A i [x]).drop (i+1+(l.drop i).length):=by
  rw[splice,h2];simp
 rw[e,List.take_append_of_le_length (by simp;omega),List.take_of_length_le (by simp;omega)]
theorem zwG {h:Array Obj} {o:Obj} {f:Obj→Obj}:(h.push o).modify h.size f=h.push (f o):=by
 apply Array.ext_getElem?
 intro k
 rw[Array.getElem?_modify]
 by_cases hk:h.size=k
 ·subst hk;simp
 ·rw[if_neg hk]
  by_cases h2:k<h.size
  ·rw[Array.getElem?_push_lt h2,Array.getElem?_push_lt h2]
  ·rw[Array.getElem?_eq_none (by simp;omega),Array.getElem?_eq_none (by simp;omega)]
theorem zLI {M F:Mem} {w w':World} (hM:M.le (zk w)) (hF:F.le (zk w)) (hdj:M.disj F) {b:Nat} {E:TypeId} {cs cs':List Value} (hh:M.has b E cs) (f:Array Value→Array Value) (hf:f cs.toArray=cs'.toArray) {q:Nat} (hw:w'=mapBlock (Sort.ahead w q) b f) :
  (M.setCells b E cs').le (zk w')∧F.le (zk w')∧(M.setCells b E cs').disj F∧w'.os=w.os∧w'.output=w.output∧w'.tape=w.tape∧w.heap.size≤w'.heap.size∧w.drawn≤w'.drawn:=by
 subst hw
 have hhb:w.heap[b]? = some (.cells cs.toArray E (0,0)):=hM _ _ hh
 have hb:b<w.heap.size:=(Array.getElem?_eq_some_iff.1 hhb).1
 have hFb:F b=none:=(hdj b).resolve_left (by unfold Mem.has at hh;rw[hh];simp)
 have other:∀ x o,x≠b→w.heap[x]? = some o→zk (mapBlock (Sort.ahead w q) b f) x=some o:=fun x o hx hxo=>by
  show (w.heap.modify b (onCells f))[x]? = some o
  rw[Array.getElem?_modify,if_neg (Ne.symm hx)]
  exact hxo
 refine⟨fun x o hx=>?_,fun x o hx=>?_,fun x=>?_,rfl,rfl,rfl,by simp[mapBlock],by simp[mapBlock]⟩
 ·by_cases e:x=b
  ·subst e
   simp only[Mem.setCells,Mem.upd_same,Option.some.injEq] at hx
   subst hx
   show (w.heap.modify x (onCells f))[x]? = _
   rw[Array.getElem?_modify,if_pos rfl,hhb]
   simp only[Option.map_some,onCells,hf]
  ·simp only[Mem.setCells,Mem.upd_ne _ _ e] at hx
   exact other x o e (hM x o hx)
 ·have e:x≠b:=fun e=>by subst e;rw[hFb] at hx;cases hx
  exact other x o e (hF x o hx)
 ·by_cases e:x=b
  ·subst e;exact .inr hFb
  ·simp only[Mem.setCells,Mem.upd_ne _ _ e];exact hdj x
theorem zNU {M F:Mem} {w w':World} (hM:M.le (zk w)) (hF:F.le (zk w)) (hdj:M.disj F) {E:TypeId} {cs:List Value} (hh:w'.heap=w.heap.push (.cells cs.toArray E)) (ho:w'.os=w.os) (hp:w'.output=w.output) (ht:w'.tape=w.tape) (hd:w.drawn≤w'.drawn) :
  M w.heap.size=none∧(M.setCells w.heap.size E cs).le (zk w')∧F.le (zk w')∧(M.setCells w.heap.size E cs).disj F∧w'.os=w.os∧w'.output=w.output∧w'.tape=w.tape∧w.heap.size≤w'.heap.size∧w.drawn≤w'.drawn:=by
 have hn:∀ N:Mem,N.le (zk w)→N w.heap.size=none:=fun N hN=>Mem.none_of_le hN (Nat.le_refl _)
 have other:∀ x o,w.heap[x]? = some o→zk w' x=some o:=fun x o hx=>by
  show w'.heap[x]? = some o
  have hlt:x<w.heap.size:=(Array.getElem?_eq_some_iff.1 hx).1
  rw[hh,Array.getElem?_push_lt hlt,←Array.getElem?_eq_getElem hlt];exact hx
 refine⟨hn M hM,fun x o hx=>?_,fun x o hx=>other x o (hF x o hx),fun x=>?_,ho,hp,ht,by rw[hh];simp,hd⟩
 ·by_cases e:x=w.heap.size
  ·subst e
   simp only[Mem.setCells,Mem.upd_same,Option.some.injEq] at hx
   subst hx
   show w'.heap[w.heap.size]? = _
   rw[hh];simp
  ·simp only[Mem.setCells,Mem.upd_ne _ _ e] at hx
   exact other x o (hM x o hx)
 ·by_cases e:x=w.heap.size
  ·subst e;exact .inr (hn F hF)
  ·simp only[Mem.setCells,Mem.upd_ne _ _ e];exact hdj x
theorem zDf {M:Mem} {w:World} (hM:M.le (zk w)) {b:Nat} {E:TypeId} {cs:List Value} (hh:M.has b E cs) (j:Nat):w.cell? ⟨b,j,none⟩=cs[j]? ∧ w.frozen? ⟨b,j,none⟩=false∧w.shape? b=some (E,cs.length):=by
 have hhb:w.heap[b]? = some (.cells cs.toArray E (0,0)):=hM _ _ hh
 refine⟨by simp[World.cell?, hhb],by simp[World.frozen?, hhb],by simp[World.shape?, hhb]⟩
def zIO (M M':Mem) (E:TypeId) (a:Option Addr) (c b' o' c':Nat) (cs':List Value) (l':List Int):Prop:=
 (l'.length≤c'∧c'≤maxLen)∧M'=M.setCells b' E cs'∧o'+c'≤cs'.length∧(cs'.drop o').take l'.length=l'.map (Value.int .i64) ∧
  ((o'=0∧cs'.length=c'∧M b'=none)∨(a=some ⟨b',o',none⟩∧c'=c∧∃ cs0,M.has b' E cs0∧cs'.length=cs0.length))
section
variable {P:Program} {ρ:Ren}
theorem zLJ (L:Lays2.n21 P ρ) (he:zns P (ρ.f 21)=true) {M:Mem} {a:Option Addr} {c:Nat} {l:List Int} (h:zOe M (ρ.t 3) a c l) (hc:l.length≤4194303) (i:Nat) (hi:i≤l.length) {vb vc:Nat} {x:Int} {E':TypeId} (hv:M.has vb E' [.int .i64 x]) (hne:∀ q,a=some q→q.block≠vb) :
  CallsM P (ρ.f 21) [.slice a l.length c,.int .i64 i,.slice (some ⟨vb,0,none⟩) 1 vc] M fun v M'=>∃ b' o' c' cs',v = .slice (some ⟨b',o',none⟩) (l.length+1) c'∧zIO M M' (ρ.t 3) a c b' o' c' cs' (l.take i++x::l.drop i):=by
 refine⟨he,fun F w hM hF hdj=>?_⟩
 have hvc:=fun j=>zDf hM hv j
 have hvs:∀ (j:Nat) v,([Value.int .i64 x]:List Value)[j]? = some v→w.cell? ⟨vb,0+j,none⟩=some v:=fun j v hj=>by rw[Nat.zero_add,(hvc j).1];exact hj
 have h1v:∀ v∈([Value.int .i64 x]:List Value),v.oneCell'=true:=by simp[Value.oneCell']
 have h1c:∀ v∈l.map (Value.int .i64),v.oneCell'=true:=by simp[Value.oneCell']
 have hll:(l.map (Value.int .i64)).length=l.length:=by simp
 have hnew:∀ (w':World) (cells:List Value) (c':Nat),cells.length=c'→(l.length+1≤c'∧c'≤maxLen)→cells.take (l.length+1)=(l.take i++x::l.drop i).map (Value.int .i64) →
   w'.heap=w.heap.push (.cells cells.toArray (ρ.t 3))→w'.os=w.os→w'.output=w.output→w'.tape=w.tape→w.drawn≤w'.drawn →
   ∃ v M',(Ending.returned (.slice (some ⟨w.heap.size,0,none⟩) (l.length+1) c')) = .returned v∧(∃ b' o' c' cs',v = .slice (some ⟨b',o',none⟩) (l.length+1) c'∧zIO M M' (ρ.t 3) a c b' o' c' cs' (l.take i++x::l.drop i)) ∧
    M'.le (zk w')∧F.le (zk w')∧M'.disj F∧w'.os=w.os∧w'.output=w.output∧w'.tape=w.tape∧w.heap.size≤w'.heap.size∧w.drawn≤w'.drawn:=fun w' cells c' hcl hcc ht hh ho hp htt hd=>by
  obtain⟨hn,hrest⟩:=zNU hM hF hdj hh ho hp htt hd
  have hlen:(l.take i++x::l.drop i).length=l.length+1:=by simp;omega
  exact⟨_,M.setCells w.heap.size (ρ.t 3) cells,rfl,⟨_,_,_,_,rfl,⟨by rw[hlen];exact hcc,rfl,by omega,by rw[hlen];exact ht,.inl ⟨rfl,hcl,hn⟩⟩⟩,hrest⟩
 have hins:∀ cs:List Value,(cs.take l.length=l.map (Value.int .i64))→True:=fun _ _=>trivial
 obtain⟨⟨hlc,hcM⟩,⟨rfl,rfl⟩|⟨b,o,cs,rfl,hh,hoc,ht⟩⟩:=h
 ·have hl0:l=[]:=List.eq_nil_of_length_eq_zero (by omega)
  subst hl0
  have hi0:i=0:=by simpa using hi
  subst hi0
  refine Calls.mono (Any2.slices_Insert_int_end_grow L none 0 0 vb 0 1 vc [] [.int .i64 x] w (by decide) (by decide) (by decide) (by decide) rfl rfl (fun _=>rfl) (fun a ha=>by cases ha) hvs h1v) ?_
  rintro e w' ⟨rfl,rfl⟩
  have hge:0+1≤grownCap w (0+1) 0 (ρ.t 3)∧grownCap w (0+1) 0 (ρ.t 3)≤maxLen:=⟨grownCap_ge w (0+1) 0 (ρ.t 3),grownCap_le_maxLen w (0+1) 0 (ρ.t 3) (by simp[maxLen])⟩
  generalize grownCap w (0+1) 0 (ρ.t 3)=g at *
  refine hnew _ ([.int .i64 x]++(Builtin.zeroCells (Value.int .i64 0).cells (g - (0+1))).toList) g ?_ hge ?_ ?_ rfl rfl rfl (Nat.le_succ _)
  ·simp[Builtin.zeroCells,Value.cells];omega
  ·simp
  ·show (w.heap.push _)=_
   congr 2
   simp
 ·have hcell:=fun j=>zDf hM hh j
  have hget:∀ (j:Nat) v,(l.map (Value.int .i64))[j]? = some v→w.cell? ⟨b,o+j,none⟩=some v:=fun j v hj=>by
   rw[(hcell _).1]
   rw[←ht] at hj
   have hlt:=(List.getElem?_eq_some_iff.1 hj).1
   rw[List.getElem?_take_of_lt (by simp at hlt;omega),List.getElem?_drop] at hj
   exact hj
  have hbv:vb≠b:=fun e=>hne _ rfl e.symm
  by_cases hroom:l.length+1≤c
  ·
   have fin:∀ (w':World) (q:Nat) (f:Array Value→Array Value) (cs':List Value),f cs.toArray=cs'.toArray→w'=mapBlock (Sort.ahead w q) b f→cs'.length=cs.length→(cs'.drop o).take (l.length+1)=(l.take i++x::l.drop i).map (Value.int .i64) →
     ∃ v M',(Ending.returned (.slice (some ⟨b,o,none⟩) (l.length+1) c)) = .returned v∧(∃ b' o' c' cs',v = .slice (some ⟨b',o',none⟩) (l.length+1) c'∧zIO M M' (ρ.t 3) (some ⟨b,o,none⟩) c b' o' c' cs' (l.take i++x::l.drop i)) ∧
      M'.le (zk w')∧F.le (zk w')∧M'.disj F∧w'.os=w.os∧w'.output=w.output∧w'.tape=w.tape∧w.heap.size≤w'.heap.size∧w.drawn≤w'.drawn:=fun w' q f cs' hf hw hcl ht'=>by
    have hlen:(l.take i++x::l.drop i).length=l.length+1:=by simp;omega
    exact⟨_,M.setCells b (ρ.t 3) cs',rfl,⟨_,_,_,_,rfl,⟨by rw[hlen];exact⟨hroom,hcM⟩,rfl,by omega,by rw[hlen];exact ht',.inr ⟨rfl,rfl,cs,hh,hcl⟩⟩⟩,zLI hM hF hdj hh f hf hw⟩
   by_cases hend:i=l.length
   ·subst hend
    refine Calls.mono (Any2.slices_Insert_int_end_room L b o l.length c vb 0 1 vc [.int .i64 x] w (by decide) hroom (by simp[maxLen] at hcM;omega) rfl (fun j hj=>by rw[(hcell _).1,List.getElem?_eq_getElem (by omega)];rfl) (fun j _=>(hcell _).2.1) hvs h1v) ?_
    rintro e w' ⟨rfl,rfl⟩
    rw[z1]
    refine fin _ 0 _ (splice cs (o+l.length) [.int .i64 x]) (zlx _ _ _ (by simp;omega)) rfl (by simp[splice];omega) ?_
    unfold splice
    rw[List.append_assoc,List.drop_append_of_le_length (by simp;omega),List.drop_take,show o+l.length - o=l.length by omega,ht]
    rw[List.take_append,List.take_of_length_le (by simp)]
    simp
   ·refine Calls.mono (Any2.slices_Insert_int_shift L b o l.length c i vb 0 1 vc (l.map (Value.int .i64)) [.int .i64 x] w (by omega) (by decide) hroom (by simp[maxLen] at hcM;omega) hbv hll rfl hget (fun j hj=>by rw[(hcell _).1,List.getElem?_eq_getElem (by omega)];rfl) (fun j _=>(hcell _).2.1) hvs h1c h1v E' (ρ.t 3) 1 cs.length (hvc 0).2.2 (hcell 0).2.2 (by omega) (hvc 0).2.1 (hvc 1).2.1) ?_
    rintro e w' ⟨rfl,rfl⟩
    rw[z1,z1,mapBlock_mapBlock]
    have hdl:((l.map (Value.int .i64)).drop i).length=l.length - i:=by simp
    have s1:(splice cs (o+(i+1)) ((l.map (Value.int .i64)).drop i)).length=cs.length:=by unfold splice;simp;omega
    refine fin _ 1 _ (splice (splice cs (o+(i+1)) ((l.map (Value.int .i64)).drop i)) (o+i) [.int .i64 x]) ?_ rfl (by unfold splice at s1 ⊢; simp at s1 ⊢; omega) ?_
    ·show zmw (zmw cs.toArray (o+(i+1)) ((l.map (Value.int .i64)).drop i)) (o+i) [.int .i64 x]=_
     rw[zlx ((l.map (Value.int .i64)).drop i) (o+(i+1)) cs (by rw[hdl];omega),zlx [.int .i64 x] (o+i) _ (by rw[s1];simp;omega)]
    ·have hz:=zLG (A:=cs.drop o) (l:=l.map (Value.int .i64)) (i:=i) (x := .int .i64 x) (by simpa using ht) (by simp;omega) (by simp;omega)
     rw[hll] at hz
     rw[zwF (by rw[s1];omega),zwF (by omega),hz]
     simp
  ·have hcl:c<l.length+1:=by omega
   have hge:l.length+1≤grownCap w (l.length+1) c (ρ.t 3)∧grownCap w (l.length+1) c (ρ.t 3)≤maxLen:=⟨grownCap_ge w (l.length+1) c (ρ.t 3),grownCap_le_maxLen w (l.length+1) c (ρ.t 3) (by simp[maxLen];omega)⟩
   by_cases hend:i=l.length
   ·subst hend
    refine Calls.mono (Any2.slices_Insert_int_end_grow L (some ⟨b,o,none⟩) l.length c vb 0 1 vc (l.map (Value.int .i64)) [.int .i64 x] w (by decide) hlc hcl (by omega) hll rfl (fun h=>by cases h) (fun a ha j v hj=>by cases ha;rw[Addr.add_lit];exact hget j v hj) hvs h1v) ?_
    rintro e w' ⟨rfl,rfl⟩
    refine hnew _ (l.map (Value.int .i64)++[.int .i64 x]++(Builtin.zeroCells (Value.int .i64 0).cells (grownCap w (l.length+1) c (ρ.t 3) - (l.length+1))).toList) (grownCap w (l.length+1) c (ρ.t 3)) ?_ hge ?_ ?_ rfl rfl rfl (Nat.le_succ _)
    ·simp[Builtin.zeroCells,Value.cells];omega
    ·rw[List.take_append_of_le_length (by simp),List.take_of_length_le (by simp)];simp
    ·show (w.heap.push _)=_
     congr 2
     simp
   ·refine Calls.mono (Any2.slices_Insert_int_grow L b o l.length c i vb 0 1 vc (l.map (Value.int .i64)) [.int .i64 x] w (by omega) (by decide) hlc hcl (by omega) hll rfl hget hvs h1c h1v) ?_
    rintro e w' ⟨rfl,rfl⟩
    generalize grownCap w (l.length+1) c (ρ.t 3)=g at *
    have hdl:((l.map (Value.int .i64)).drop i).length=l.length - i:=by simp
    obtain⟨C0,hC0⟩:∃ C0:List Value,C0=(l.map (Value.int .i64)).take i++(Builtin.zeroCells (Value.int .i64 0).cells (l.length+1 - i)).toList++(Builtin.zeroCells (Value.int .i64 0).cells (g - (l.length+1))).toList:=⟨_,rfl⟩
    have hC:(((l.map (Value.int .i64)).take i).toArray++Builtin.zeroCells (Value.int .i64 0).cells (l.length+1 - i)++Builtin.zeroCells (Value.int .i64 0).cells (g - (l.length+1)))=C0.toArray:=by rw[hC0];simp
    have hCl:C0.length=g:=by rw[hC0];simp[Builtin.zeroCells,Value.cells];omega
    have hCt:C0.take i=(l.map (Value.int .i64)).take i:=by rw[hC0,List.append_assoc,List.take_append_of_le_length (by simp;omega),List.take_of_length_le (by simp;omega)]
    have s1:(splice C0 i [Value.int .i64 x]).length=C0.length:=by unfold splice;simp;omega
    rw[hC]
    refine hnew _ (splice (splice C0 i [.int .i64 x]) (i+1) ((l.map (Value.int .i64)).drop i)) g ?_ hge ?_ ?_ ?_ ?_ ?_ ?_
    ·unfold splice at s1 ⊢; simp at s1 ⊢; omega
    ·have hz:=zLH (A:=C0) (l:=l.map (Value.int .i64)) (i:=i) (x := .int .i64 x) hCt (by simp;omega) (by simp;omega)
     rw[hll] at hz
     rw[hz]
     simp
    ·rw[z1,z1]
     show ((w.heap.push (Obj.cells C0.toArray (ρ.t 3))).modify w.heap.size _).modify w.heap.size _=_
     rw[zwG,zwG]
     congr 1
     show Obj.cells (zmw (zmw C0.toArray i [.int .i64 x]) (i+1) ((l.map (Value.int .i64)).drop i)) (ρ.t 3) _=_
     rw[zlx [.int .i64 x] i C0 (by simp;omega),zlx _ (i+1) _ (by rw[s1,hdl];omega)]
    ·rw[z1,z1];rfl
    ·rw[z1,z1];rfl
    ·rw[z1,z1];rfl
    ·rw[z1,z1];exact Nat.le_trans (Nat.le_succ _) (Nat.le_succ _)
end
end Go.Vm
namespace Go.Proofs.YtdgikhhkgnjalaaGreat
open Go Go.Proofs Go.Shelf
def Tryz.laysIns_ren:Go.Shelf.Ren:=⟨fun|21=>233|27=>289|28=>290|35=>323|39=>227|n=>n,fun|22=>87|3=>3|4=>4|0=>0|n=>n,fun|n=>n⟩
theorem Tryz.laysIns:Go.Proofs.Lays2.n21 Tryz.prog Tryz.laysIns_ren:={
 mixed:=by kernel_rfl
 f21:=Tryz.func233.trans (congrArg some (by kernel_rfl))
 f27:=Tryz.func289.trans (congrArg some (by kernel_rfl))
 f28:=Tryz.func290.trans (congrArg some (by kernel_rfl))
 f35:=Tryz.func323.trans (congrArg some (by kernel_rfl))
 f39:=Tryz.func227.trans (congrArg some (by kernel_rfl))
 t0:=Tryz.underlying0
 a0:=Tryz.isAgg0
 z0:=Tryz.sizeOf0
 v0:=Tryz.zeroValue0
 t3:=Tryz.underlying3
 a3:=Tryz.isAgg3
 z3:=Tryz.sizeOf3
 v3:=Tryz.zeroValue3
 t4:=Tryz.underlying4
 a4:=Tryz.isAgg4
 z4:=Tryz.sizeOf4
 v4:=Tryz.zeroValue4
 t22:=Tryz.underlying87
 a22:=Tryz.isAgg87
 z22:=Tryz.sizeOf87
 v22:=Tryz.zeroValue87
 i3:=by kernel_rfl }
end Go.Proofs.YtdgikhhkgnjalaaGreat
namespace Go.Proofs.YtdgikhhkgnjalaaGreat
open Go Go.Vm
attribute [local irreducible] Brn Ob Grow CallsM inR ziE zfC Mem.row Mem.cells Mem.setCells Mem.upd Go.Vm.Own zi5 zn6 zna zkg New SrcOk zap NewSl Mem.textAt Mem.mapAt Mem.iterAt zd0 kfind Wr znA Elems
set_option maxRecDepth 10000
variable {M:Mem}
noncomputable def zuR (ws:List Rn.W) (n:Nat) (H:Rn.T Rn.O):Rn.R:=match ws with
 | [.c .nl,.c (.n .i64 0),.c (.l b 0 1 _)]=>(match H.get b with
  | some (.row _ [.n .i64 x])=>H.set n (some (.gr T.int 1 [.n .i64 x])) fun H'=>Rn.fN (fun n'=>some (.rt (.c (.g n 0 0 1)) n' H')) (n+1)
  | _=>none)
 | _=>none
theorem zzE:Rn.Prim Tryz.prog F.zjM zuR:=by
 intro ws n H v n' H' h σ M vs hn hh hvs
 unfold zuR at h
 split at h
 ·rename_i b c
  split at h
  ·rename_i E0 x hb
   match vs,hvs with
   | [v1,v2,v3],hvs=>
    obtain⟨e,he,ho⟩:=hh.has b _ hb
    have h3:=hvs.2.2.1
    simp only[Rn.WR,Rn.CR,Rn.C.val,he,Option.map_some,Option.some.injEq] at h3
    subst h3
    have e1:some (Value.slice none 0 0)=some v1:=hvs.1
    have e2:some (Value.int .i64 0)=some v2:=hvs.2.1
    cases e1;cases e2
    obtain⟨h0,us,h5,h6⟩:=ho
    match us,h5 with
    | [w0],h5=>
     have e3:some (Value.int .i64 x)=some w0:=h5.1
     cases e3
     have hv:M.has e.addr E0 [.int .i64 x]:=h6
     refine(zLJ (vc:=c) Tryz.laysIns (by kernel_rfl) (M:=M) (a:=none) (c:=0) (l:=[]) ⟨⟨Nat.le_refl _,by decide⟩,.inl ⟨rfl,rfl⟩⟩ (by decide) 0 (by decide) hv (fun q hq=>by cases hq)).mono ?_
     rintro u M' ⟨b',o',c',cs',rfl,h7,rfl,h8,h9,h10⟩
     rcases h10 with ⟨rfl,h11,h12⟩|⟨h11, -, -⟩
     ·rw[Rn.T.set_put,Rn.fN_eq] at h
      cases h
      have ho:Vm.Own M T.int 1 (some ⟨b',0,none⟩) 1 c' [.int .i64 x] (M.setCells b' T.int cs'):=by unfold Vm.Own;exact⟨rfl,h7.1,.inr ⟨b',cs',rfl,h12,rfl,by omega,h9⟩⟩
      obtain⟨e2,h13,h14⟩:=Rn.own_new hh (l:=[.n .i64 x]) (L:=[.int .i64 x]) ⟨rfl,trivial⟩ ho
      rw[hn] at h13 h14
      exact⟨[e2],by simp[hn],h14,h13⟩
     ·cases h11
    | [],h5=>exact h5.elim
    | _::_::_,h5=>exact h5.2.elim
   | [],hvs=>exact hvs.elim
   | [_],hvs=>exact hvs.2.elim
   | [_,_],hvs=>exact hvs.2.2.elim
   | _::_::_::_::_,hvs=>exact hvs.2.2.2.elim
  ·cases h
 ·cases h
end Go.Proofs.YtdgikhhkgnjalaaGreat
