/- Part. -/
import Derived.Sort.Grow
import Derived.Test.YtlgbofpennelhaaGreatJ12
set_option linter.all false
set_option maxHeartbeats 0
namespace Go.Vm
open Go.RowKit Go.Shelf Go.Sort Go.Proofs
section
theorem zyM {α:Type} {enc:α→List Value} {k:Nat} (hk:∀ x,(enc x).length=k):∀ (l:List α) (i j:Nat) (x:α),l[i]? = some x→j<k→(l.flatMap enc)[i*k+j]? = (enc x)[j]?
 | [],i,j,x,h,_=>by simp at h
 | y::r,0,j,x,h,hj=>by grind
 | y::r,i+1,j,x,h,hj=>by
  have:=zyM hk r i j x (by simp_all) hj;rw[Ybn,Yan (by grind),hk,←this];congr 1;rw[Ydp];omega
theorem zqM {α:Type} {enc:α→List Value} {k:Nat} (hk:∀ x,(enc x).length=k) (l:List α):(l.flatMap enc).length=l.length*k:=by
 induction l with
 | nil=>simp
 | cons y r ih=>grind
theorem zwa {α:Type} [Inhabited α] {enc:α→List Value} {k:Nat} (hk:∀ x,(enc x).length=k) (hk0:0<k) (l:List α):(flatK enc k l.toArray).toList=l.flatMap enc:=by
 apply Yb1;intro t;by_cases ht:t<l.length*k
 ·have hi:t / k<l.length:=(Nat.div_lt_iff_lt_mul hk0).2 ht;have e:t=t / k*k+t % k:=by rw[Yd6];exact(Nat.div_add_mod t k).symm
  have hj:t % k<k:=Nat.mod_lt _ hk0;have h1:=zyM hk l (t / k) (t % k) l[t / k] (Yb hi) hj
  rw[←e] at h1;rw[h1];have hs:t<(flatK enc k l.toArray).size:=by rw[size_flatK];simpa using ht
  have h2:=get_flatK enc k l.toArray t (by omega);rw[Array.getElem?_toList,Ybk hs];rw[getElem!_pos _ t hs] at h2;rw[h2];have h3:l.toArray[t / k]! = l[t / k]:=by simp[hi]
  rw[h3,getElem!_pos _ _ (by grind),Yb (by grind)]
 ·rw[Yca oE,Yca (by rw[zqM hk];omega)]
section
variable {P:Program} {ρ:Ren} {α:Type} [Inhabited α]
theorem zD7 {W w':World} (hF:(zk W).le (zk w')) (ho:w'.os=W.os) (hp:w'.output=W.output) (ht:w'.tape=W.tape) (hs:W.heap.size≤w'.heap.size) (hd:W.drawn≤w'.drawn):∃ q os',w'=grow (W.drewN q) os':=by
 refine⟨w'.drawn - W.drawn,w'.heap.extract W.heap.size w'.heap.size,?_⟩;obtain⟨h,t,d,o,p⟩:=w';simp only at ho hp ht hs hd;subst ho;subst hp;subst ht
 have e1:h=W.heap++h.extract W.heap.size h.size:=by
  apply Array.ext_getElem?;intro i;by_cases hi:i<W.heap.size
  ·rw[Ycv hi];have:=hF i W.heap[i] (Ybk hi)
   rw[Ybk hi];exact this
  ·grind
 have e2:d=W.drawn+(d - W.drawn):=by omega
 show World.mk h W.tape d W.os W.output=World.mk (W.heap++h.extract W.heap.size h.size) W.tape (W.drawn+(d - W.drawn)) W.os W.output;rw[←e1,←e2]
theorem zD8 {g:Nat} {enc:α→List Value} {k:Nat} {cf:α→α→Int} (hcmp:∀ x y,CallsM P g [.agg (enc x).toArray,.agg (enc y).toArray] Mem.empty fun v _=>v = .int .i64 (cf x y)) (blk off size:Nat) (w:World):CmpLays P g #[] enc k cf blk off size w:=by
 intro m os dk _ x y;have h:=(hcmp x y).2 (zk (sortWorldK enc k w blk off m dk os)) (sortWorldK enc k w blk off m dk os) (Yc6 _) (fun _ _ h=>h) (fun _ => .inl rfl)
 exact Ydf h fun e w' ⟨v,M',he,hv,_,hF,_,ho,hp,ht,hs,hd⟩=>⟨by rw[he,hv],zD7 hF ho hp ht hs hd⟩
theorem zqN (L:SlLaysF0.n6 P ρ) (he:zdZ P (ρ.f 6)=true) {k:Nat} (hk0:0<k) (aE:∀ w,(isAgg (ρ.t 24)).run P w = .ok true w) (zE:∀ w,(Go.sizeOf (ρ.t 24)).run P w = .ok k w) {enc:α→List Value} (hk:∀ x,(enc x).length=k) (h1:∀ x,∀ v∈enc x,v.oneCell'=true)
  {cf:α→α→Int} (hO:SWO (ltOf cf)) {g:Nat} (eg:∀ args w,(callFunc g args).run P w = .ok (.enter g args) w) (hcmp:∀ x y,CallsM P g [.agg (enc x).toArray,.agg (enc y).toArray] Mem.empty fun v _=>v = .int .i64 (cf x y))
  {M:Mem} {E:TypeId} {a:Option Addr} {n c:Nat} {l:List α} (h:Wr M E k a n c (l.flatMap enc)) (hn:n<4611686018427387904) :
  CallsM P (ρ.f 6) [.slice a n c,.func (.func g) #[] #[]] M fun v M'=>v = .tuple #[]∧∃ l':List α,l'.Perm l∧l'.Pairwise (fun x y=>¬cf y x<0)∧Wr M' E k a n c (l'.flatMap enc)∧Mem.keep (blk a) M M':=by
 refine⟨he,fun F w hM hF hdj=>?_⟩;obtain⟨hl,hnc,h3⟩:=h
 have hll:l.length=n:=by
  rw[zqM hk] at hl;exact Nat.eq_of_mul_eq_mul_right hk0 hl
 rcases h3 with ⟨rfl,rfl⟩|⟨b,cs,rfl,hh,hcl,ht⟩
 ·have:n=0:=by omega
  subst this;have:l=[]:=by simpa using hll
  subst this;refine Ydf (AnyF.slices_SortFunc_none L none 0 _ w) ?_;rintro e w' ⟨rfl,rfl⟩;exact⟨_,M,rfl,⟨rfl,[],.refl _,.nil,⟨by simp,Yd _,.inl ⟨rfl,rfl⟩⟩,Yas _ _⟩,hM,hF,hdj,rfl,rfl,rfl,Yd _,Yd _⟩
 ·have hb:b<w.heap.size:=(Y7.1 (hM _ _ hh)).1;have hle:n*k≤c*k:=Ybr _ hnc
  have hH:HoldsK enc k w b 0 l.toArray:=by
   have:=holds_of (α:=Value) hM hh id (l.flatMap enc) (by simp_all);unfold HoldsK;have e:flatK enc k l.toArray=(l.flatMap enc).toArray:=by rw[←zwa hk hk0 l]
   rw[e];exact this
  have hs:=AnyQ.slices_SortFunc L k aE zE enc hk h1 cf hO g #[] b 0 c l.toArray w eg (zD8 hcmp b 0 _ w) hH hb oE;have e0:l.toArray.size=n:=by simpa using hll
  rw[e0] at hs;refine Ydf hs ?_;rintro e w' ⟨rfl,d',q,os,hp,hsd,rfl⟩;have hds:d'.size=n:=by rw[hp.1,e0]
  obtain⟨l',rfl⟩:∃ l':List α,d'=l'.toArray:=⟨d'.toList,by simp⟩
  have hl':l'.length=n:=by simpa using hds
  have hperm:l'.Perm l:=by
   have:=hp.2.2;simpa[hll,hl',Yf] using this
  have hsort:l'.Pairwise (fun x y=>¬cf y x<0):=by
   rw[Ycx];intro i j hi hj hij;have:=hsd i j (Y5 _) hij oM
   have ei:l'.toArray[i]! = l'[i]:=by simp[hi]
   have ej:l'.toArray[j]! = l'[j]:=by simp[hj]
   rw[ei,ej] at this;simpa[ltOf] using this
  have e2:flatK enc k l'.toArray=(l'.flatMap enc).toArray:=by rw[←zwa hk hk0 l']
  have ht':=turned hM hF hdj hh id (l'.flatMap enc).toArray (by grind) q os;unfold sortWorldK putRowK;rw[e2];have hfl:(l'.flatMap enc).length=n*k:=by rw[zqM hk,hl']
  refine⟨_,M.setCells b E ((l'.flatMap enc).toArray.toList.map id++cs.drop (l'.flatMap enc).toArray.size),rfl,⟨rfl,l',hperm,hsort,⟨hfl,hnc,.inr ⟨b,_,rfl,Yg,?_,?_⟩⟩,?_⟩,ht'⟩
  ·simp_all
  ·simp_all
  ·intro x o hx hxo;have e:x≠b:=fun e=>hx ⟨_,rfl,e.symm⟩
   simp only[Mem.setCells,Yh _ _ e];exact hxo
end
end
section
def zD9 (M:Mem) (E:TypeId) (a:Option Addr) (c:Nat) (l:List Int):Prop:=
 (l.length≤c∧c≤maxLen)∧((a=none∧c=0)∨∃ b o cs,a=some ⟨b,o,none⟩∧M.has b E cs∧o+c≤cs.length∧(cs.drop o).take l.length=l.map (Value.int .i64))
def zhy (c:Array Value):Nat→List Value→Array Value
 | _,[]=>c
 | o,v::r=>zhy (c.setIfInBounds o v) (o+1) r
theorem zbg (b:Nat):∀ (vs:List Value) (o:Nat) (w:World),w.setCells b o vs=mapBlock w b fun c=>zhy c o vs
 | [],o,w=>by
  show w=_;rw[mapBlock_id];intro c e fr _;rfl
 | v::r,o,w=>by
  show (w.setCell ⟨b,o,none⟩ v).setCells b (o+1) r=_;rw[zbg b r (o+1),setCell_eq,mapBlock_mapBlock];rfl
theorem zhc:∀ (vs:List Value) (o:Nat) (cs:List Value),o+vs.length≤cs.length→zhy cs.toArray o vs=(zd cs o vs).toArray
 | [],o,cs,h=>by simp[zhy,zd]
 | v::r,o,cs,h=>by
  simp only[Ym] at h;have e:cs.toArray.setIfInBounds o v=(cs.set o v).toArray:=by simp
  rw[zhy,e,zhc r (o+1) (cs.set o v) (by grind)];congr 1;unfold zd
  have h1:(cs.set o v).take (o+1)=cs.take o++[v]:=by
   rw[Y1,List.take_set,List.set_eq_of_length_le oE,Ycp oM];rfl
  have h2:(cs.set o v).drop (o+1+r.length)=cs.drop (o+(v::r).length):=by
   rw[List.drop_set_of_lt oM];congr 1;simp;omega
  rw[h1,h2];simp
theorem zp8 {cs V:List Value} {o k:Nat} (h:o+k≤cs.length):(zd cs (o+k) V).drop o=zd (cs.drop o) k V:=by
 unfold zd;rw[Yr,Ybl oE,Ycm,show o+k - o=k by omega,Ybo,←Yr];congr 2;omega
theorem zGC {A l:List Value} {i:Nat} {x:Value} (ht:A.take l.length=l) (hi:i≤l.length) (ha:l.length+1≤A.length):(zd (zd A (i+1) (l.drop i)) i [x]).take (l.length+1)=l.take i++x::l.drop i:=by
 have h1:A.take i=l.take i:=by rw[←ht,Yb0,Ybg hi]
 have h2:(zd A (i+1) (l.drop i)).take i=l.take i:=by
  unfold zd;rw[Yr,Y4 oE,Yb0,Ybg oM,h1]
 have h3:(zd A (i+1) (l.drop i)).drop (i+1)=l.drop i++A.drop (i+1+(l.drop i).length):=by
  unfold zd;rw[Yr,Ybl oE,Yaf oE,Yaa]
 have e:zd (zd A (i+1) (l.drop i)) i [x]=(l.take i++x::l.drop i)++A.drop (i+1+(l.drop i).length):=by
  rw[zd,h2,show i+[x].length=i+1 from rfl,h3];simp
 rw[e,Y4 oE,Yf oE]
theorem zGD {A l:List Value} {i:Nat} {x:Value} (ht:A.take i=l.take i) (hi:i≤l.length) (ha:l.length+1≤A.length):(zd (zd A i [x]) (i+1) (l.drop i)).take (l.length+1)=l.take i++x::l.drop i:=by
 have h2:(zd A i [x]).take (i+1)=l.take i++[x]:=by
  unfold zd;rw[Y4 oE,ht,Yf oE]
 have e:zd (zd A i [x]) (i+1) (l.drop i)=(l.take i++x::l.drop i)++(zd A i [x]).drop (i+1+(l.drop i).length):=by
  rw[zd,h2];simp
 rw[e,Y4 oE,Yf oE]
theorem zp9 {h:Array Obj} {o:Obj} {f:Obj→Obj}:(h.push o).modify h.size f=h.push (f o):=by grind
theorem zGE {M F:Mem} {w w':World} (hM:M.le (zk w)) (hF:F.le (zk w)) (hdj:M.disj F) {b:Nat} {E:TypeId} {cs cs':List Value} (hh:M.has b E cs) (f:Array Value→Array Value) (hf:f cs.toArray=cs'.toArray) {q:Nat} (hw:w'=mapBlock (Sort.ahead w q) b f) :
  (M.setCells b E cs').le (zk w')∧F.le (zk w')∧(M.setCells b E cs').disj F∧w'.os=w.os∧w'.output=w.output∧w'.tape=w.tape∧w.heap.size≤w'.heap.size∧w.drawn≤w'.drawn:=by
 subst hw;have hhb:w.heap[b]? = some (.cells cs.toArray E (0,0)):=hM _ _ hh
 have hb:b<w.heap.size:=(Y7.1 hhb).1;have hFb:F b=none:=(hdj b).resolve_left (by unfold Mem.has at hh;rw[hh];simp)
 have other:∀ x o,x≠b→w.heap[x]? = some o→zk (mapBlock (Sort.ahead w q) b f) x=some o:=fun x o hx hxo=>by
  show (w.heap.modify b (onCells f))[x]? = some o;rw[Yc8,if_neg (Ne.symm hx)];exact hxo
 refine⟨fun x o hx=>?_,fun x o hx=>?_,fun x=>?_,rfl,rfl,rfl,by simp[mapBlock],by simp[mapBlock]⟩
 ·by_cases e:x=b
  ·subst e;simp only[Mem.setCells,Yam,Y3] at hx;subst hx;show (w.heap.modify x (onCells f))[x]? = _
   rw[Yc8,if_pos rfl,hhb];simp only[Yc0,onCells,hf]
  ·simp only[Mem.setCells,Yh _ _ e] at hx;exact other x o e (hM x o hx)
 ·have e:x≠b:=fun e=>by simp_all
  exact other x o e (hF x o hx)
 ·by_cases e:x=b
  ·simp_all
  ·simp only[Mem.setCells,Yh _ _ e];exact hdj x
theorem zJD {M F:Mem} {w w':World} (hM:M.le (zk w)) (hF:F.le (zk w)) (hdj:M.disj F) {E:TypeId} {cs:List Value} (hh:w'.heap=w.heap.push (.cells cs.toArray E)) (ho:w'.os=w.os) (hp:w'.output=w.output) (ht:w'.tape=w.tape) (hd:w.drawn≤w'.drawn) :
  M w.heap.size=none∧(M.setCells w.heap.size E cs).le (zk w')∧F.le (zk w')∧(M.setCells w.heap.size E cs).disj F∧w'.os=w.os∧w'.output=w.output∧w'.tape=w.tape∧w.heap.size≤w'.heap.size∧w.drawn≤w'.drawn:=by
 have hn:∀ N:Mem,N.le (zk w)→N w.heap.size=none:=fun N hN=>Mem.none_of_le hN (Yd _)
 have other:∀ x o,w.heap[x]? = some o→zk w' x=some o:=fun x o hx=>by
  show w'.heap[x]? = some o;have hlt:x<w.heap.size:=(Y7.1 hx).1
  rw[hh,Array.getElem?_push_lt hlt,←Ybk hlt];exact hx
 refine⟨hn M hM,fun x o hx=>?_,fun x o hx=>other x o (hF x o hx),fun x=>?_,ho,hp,ht,by simp_all,hd⟩
 ·by_cases e:x=w.heap.size
  ·subst e;simp only[Mem.setCells,Yam,Y3] at hx;subst hx;show w'.heap[w.heap.size]? = _
   rw[hh];simp
  ·simp only[Mem.setCells,Yh _ _ e] at hx;exact other x o (hM x o hx)
 ·by_cases e:x=w.heap.size
  ·simp_all
  ·simp only[Mem.setCells,Yh _ _ e];exact hdj x
theorem zwb {M:Mem} {w:World} (hM:M.le (zk w)) {b:Nat} {E:TypeId} {cs:List Value} (hh:M.has b E cs) (j:Nat):w.cell? ⟨b,j,none⟩=cs[j]? ∧ w.frozen? ⟨b,j,none⟩=false∧w.shape? b=some (E,cs.length):=by
 have hhb:w.heap[b]? = some (.cells cs.toArray E (0,0)):=hM _ _ hh;refine⟨by simp[World.cell?, hhb],by simp[World.frozen?, hhb],by simp[World.shape?, hhb]⟩
def zEa (M M':Mem) (E:TypeId) (a:Option Addr) (c b' o' c':Nat) (cs':List Value) (l':List Int):Prop:=
 (l'.length≤c'∧c'≤maxLen)∧M'=M.setCells b' E cs'∧o'+c'≤cs'.length∧(cs'.drop o').take l'.length=l'.map (Value.int .i64) ∧
  ((o'=0∧cs'.length=c'∧M b'=none)∨(a=some ⟨b',o',none⟩∧c'=c∧∃ cs0,M.has b' E cs0∧cs'.length=cs0.length))
section
variable {P:Program} {ρ:Ren}
theorem zGF (L:Lays2.n21 P ρ) (he:zdZ P (ρ.f 21)=true) {M:Mem} {a:Option Addr} {c:Nat} {l:List Int} (h:zD9 M (ρ.t 3) a c l) (hc:l.length≤4194303) (i:Nat) (hi:i≤l.length) {vb vc:Nat} {x:Int} {E':TypeId} (hv:M.has vb E' [.int .i64 x]) (hne:∀ q,a=some q→q.block≠vb) :
  CallsM P (ρ.f 21) [.slice a l.length c,.int .i64 i,.slice (some ⟨vb,0,none⟩) 1 vc] M fun v M'=>∃ b' o' c' cs',v = .slice (some ⟨b',o',none⟩) (l.length+1) c'∧zEa M M' (ρ.t 3) a c b' o' c' cs' (l.take i++x::l.drop i):=by
 refine⟨he,fun F w hM hF hdj=>?_⟩;have hvc:=fun j=>zwb hM hv j
 have hvs:∀ (j:Nat) v,([Value.int .i64 x]:List Value)[j]? = some v→w.cell? ⟨vb,0+j,none⟩=some v:=fun j v hj=>by simp_all
 have h1v:∀ v∈([Value.int .i64 x]:List Value),v.oneCell'=true:=by simp[Value.oneCell']
 have h1c:∀ v∈l.map (Value.int .i64),v.oneCell'=true:=by simp[Value.oneCell']
 have hll:(l.map (Value.int .i64)).length=l.length:=by simp
 have hnew:∀ (w':World) (cells:List Value) (c':Nat),cells.length=c'→(l.length+1≤c'∧c'≤maxLen)→cells.take (l.length+1)=(l.take i++x::l.drop i).map (Value.int .i64) →
   w'.heap=w.heap.push (.cells cells.toArray (ρ.t 3))→w'.os=w.os→w'.output=w.output→w'.tape=w.tape→w.drawn≤w'.drawn →
   ∃ v M',(Ending.returned (.slice (some ⟨w.heap.size,0,none⟩) (l.length+1) c')) = .returned v∧(∃ b' o' c' cs',v = .slice (some ⟨b',o',none⟩) (l.length+1) c'∧zEa M M' (ρ.t 3) a c b' o' c' cs' (l.take i++x::l.drop i)) ∧
    M'.le (zk w')∧F.le (zk w')∧M'.disj F∧w'.os=w.os∧w'.output=w.output∧w'.tape=w.tape∧w.heap.size≤w'.heap.size∧w.drawn≤w'.drawn:=fun w' cells c' hcl hcc ht hh ho hp htt hd=>by
  obtain⟨hn,hrest⟩:=zJD hM hF hdj hh ho hp htt hd;have hlen:(l.take i++x::l.drop i).length=l.length+1:=by simp;omega
  exact⟨_,M.setCells w.heap.size (ρ.t 3) cells,rfl,⟨_,_,_,_,rfl,⟨by omega,rfl,by omega,by simp_all,.inl ⟨rfl,hcl,hn⟩⟩⟩,hrest⟩
 have hins:∀ cs:List Value,(cs.take l.length=l.map (Value.int .i64))→True:=fun _ _=>trivial
 obtain⟨⟨hlc,hcM⟩,⟨rfl,rfl⟩|⟨b,o,cs,rfl,hh,hoc,ht⟩⟩:=h
 ·have hl0:l=[]:=Y8 oM;subst hl0;have hi0:i=0:=by simpa using hi
  subst hi0;refine Ydf (Any2.slices_Insert_int_end_grow L none 0 0 vb 0 1 vc [] [.int .i64 x] w oD oD oD oD rfl rfl (fun _=>rfl) (fun a ha=>by simp) hvs h1v) ?_;rintro e w' ⟨rfl,rfl⟩;have hge:0+1≤grownCap w (0+1) 0 (ρ.t 3)∧grownCap w (0+1) 0 (ρ.t 3)≤maxLen:=⟨grownCap_ge w (0+1) 0 (ρ.t 3),grownCap_le_maxLen w (0+1) 0 (ρ.t 3) (by simp[maxLen])⟩
  generalize grownCap w (0+1) 0 (ρ.t 3)=g at *;refine hnew _ ([.int .i64 x]++(Builtin.zeroCells (Value.int .i64 0).cells (g - (0+1))).toList) g ?_ hge ?_ ?_ rfl rfl rfl (Yc3 _)
  ·simp[Builtin.zeroCells,Value.cells];omega
  ·simp
  ·show (w.heap.push _)=_;congr 2;simp
 ·have hcell:=fun j=>zwb hM hh j
  have hget:∀ (j:Nat) v,(l.map (Value.int .i64))[j]? = some v→w.cell? ⟨b,o+j,none⟩=some v:=fun j v hj=>by grind
  have hbv:vb≠b:=fun e=>hne _ rfl e.symm
  by_cases hroom:l.length+1≤c
  ·
   have fin:∀ (w':World) (q:Nat) (f:Array Value→Array Value) (cs':List Value),f cs.toArray=cs'.toArray→w'=mapBlock (Sort.ahead w q) b f→cs'.length=cs.length→(cs'.drop o).take (l.length+1)=(l.take i++x::l.drop i).map (Value.int .i64) →
     ∃ v M',(Ending.returned (.slice (some ⟨b,o,none⟩) (l.length+1) c)) = .returned v∧(∃ b' o' c' cs',v = .slice (some ⟨b',o',none⟩) (l.length+1) c'∧zEa M M' (ρ.t 3) (some ⟨b,o,none⟩) c b' o' c' cs' (l.take i++x::l.drop i)) ∧
      M'.le (zk w')∧F.le (zk w')∧M'.disj F∧w'.os=w.os∧w'.output=w.output∧w'.tape=w.tape∧w.heap.size≤w'.heap.size∧w.drawn≤w'.drawn:=fun w' q f cs' hf hw hcl ht'=>by
    have hlen:(l.take i++x::l.drop i).length=l.length+1:=by simp;omega
    exact⟨_,M.setCells b (ρ.t 3) cs',rfl,⟨_,_,_,_,rfl,⟨by omega,rfl,by omega,by simp_all,.inr ⟨rfl,rfl,cs,hh,hcl⟩⟩⟩,zGE hM hF hdj hh f hf hw⟩
   by_cases hend:i=l.length
   ·subst hend;refine Ydf (Any2.slices_Insert_int_end_room L b o l.length c vb 0 1 vc [.int .i64 x] w oD hroom (by assumption) rfl (fun j hj=>by grind) (fun j _=>(hcell _).2.1) hvs h1v) ?_;rintro e w' ⟨rfl,rfl⟩;rw[zbg];refine fin _ 0 _ (zd cs (o+l.length) [.int .i64 x]) (zhc _ _ _ (by grind)) rfl (by simp[zd];omega) ?_;unfold zd;rw[Yr,Ybl oE,Ycm,show o+l.length - o=l.length by omega,ht];rw[List.take_append,Yf oS];simp
   ·refine Ydf (Any2.slices_Insert_int_shift L b o l.length c i vb 0 1 vc (l.map (Value.int .i64)) [.int .i64 x] w oM oD hroom (by assumption) hbv hll rfl hget (fun j hj=>by grind) (fun j _=>(hcell _).2.1) hvs h1c h1v E' (ρ.t 3) 1 cs.length (hvc 0).2.2 (hcell 0).2.2 oM (hvc 0).2.1 (hvc 1).2.1) ?_;rintro e w' ⟨rfl,rfl⟩;rw[zbg,zbg,mapBlock_mapBlock];have hdl:((l.map (Value.int .i64)).drop i).length=l.length - i:=by simp
    have s1:(zd cs (o+(i+1)) ((l.map (Value.int .i64)).drop i)).length=cs.length:=by unfold zd;simp;omega
    refine fin _ 1 _ (zd (zd cs (o+(i+1)) ((l.map (Value.int .i64)).drop i)) (o+i) [.int .i64 x]) ?_ rfl (by unfold zd at s1 ⊢; simp at s1 ⊢; omega) ?_
    ·show zhy (zhy cs.toArray (o+(i+1)) ((l.map (Value.int .i64)).drop i)) (o+i) [.int .i64 x]=_;rw[zhc ((l.map (Value.int .i64)).drop i) (o+(i+1)) cs (by rw[hdl];omega),zhc [.int .i64 x] (o+i) _ (by rw[s1];simp;omega)]
    ·have hz:=zGC (A:=cs.drop o) (l:=l.map (Value.int .i64)) (i:=i) (x := .int .i64 x) (by simp_all) (by omega) oE;rw[hll] at hz;rw[zp8 (by rw[s1];omega),zp8 oM,hz];simp
  ·have hcl:c<l.length+1:=by omega
   have hge:l.length+1≤grownCap w (l.length+1) c (ρ.t 3)∧grownCap w (l.length+1) c (ρ.t 3)≤maxLen:=⟨grownCap_ge w (l.length+1) c (ρ.t 3),grownCap_le_maxLen w (l.length+1) c (ρ.t 3) (by simp[maxLen];omega)⟩
   by_cases hend:i=l.length
   ·subst hend;refine Ydf (Any2.slices_Insert_int_end_grow L (some ⟨b,o,none⟩) l.length c vb 0 1 vc (l.map (Value.int .i64)) [.int .i64 x] w oD hlc hcl oM hll rfl (fun h=>by cases h) (fun a ha j v hj=>by cases ha;rw[Addr.add_lit];exact hget j v hj) hvs h1v) ?_;rintro e w' ⟨rfl,rfl⟩;refine hnew _ (l.map (Value.int .i64)++[.int .i64 x]++(Builtin.zeroCells (Value.int .i64 0).cells (grownCap w (l.length+1) c (ρ.t 3) - (l.length+1))).toList) (grownCap w (l.length+1) c (ρ.t 3)) ?_ hge ?_ ?_ rfl rfl rfl (Yc3 _)
    ·simp[Builtin.zeroCells,Value.cells];omega
    ·grind
    ·show (w.heap.push _)=_;congr 2;simp
   ·refine Ydf (Any2.slices_Insert_int_grow L b o l.length c i vb 0 1 vc (l.map (Value.int .i64)) [.int .i64 x] w oM oD hlc hcl oM hll rfl hget hvs h1c h1v) ?_;rintro e w' ⟨rfl,rfl⟩;generalize grownCap w (l.length+1) c (ρ.t 3)=g at *;have hdl:((l.map (Value.int .i64)).drop i).length=l.length - i:=by simp
    obtain⟨C0,hC0⟩:∃ C0:List Value,C0=(l.map (Value.int .i64)).take i++(Builtin.zeroCells (Value.int .i64 0).cells (l.length+1 - i)).toList++(Builtin.zeroCells (Value.int .i64 0).cells (g - (l.length+1))).toList:=⟨_,rfl⟩
    have hC:(((l.map (Value.int .i64)).take i).toArray++Builtin.zeroCells (Value.int .i64 0).cells (l.length+1 - i)++Builtin.zeroCells (Value.int .i64 0).cells (g - (l.length+1)))=C0.toArray:=by rw[hC0];simp
    have hCl:C0.length=g:=by rw[hC0];simp[Builtin.zeroCells,Value.cells];omega
    have hCt:C0.take i=(l.map (Value.int .i64)).take i:=by rw[hC0,Yr,Y4 oE,Yf oE]
    have s1:(zd C0 i [Value.int .i64 x]).length=C0.length:=by unfold zd;simp;omega
    rw[hC];refine hnew _ (zd (zd C0 i [.int .i64 x]) (i+1) ((l.map (Value.int .i64)).drop i)) g ?_ hge ?_ ?_ ?_ ?_ ?_ ?_
    ·unfold zd at s1 ⊢; simp at s1 ⊢; omega
    ·have hz:=zGD (A:=C0) (l:=l.map (Value.int .i64)) (i:=i) (x := .int .i64 x) hCt (by omega) (by omega);rw[hll] at hz;rw[hz];simp
    ·rw[zbg,zbg];show ((w.heap.push (Obj.cells C0.toArray (ρ.t 3))).modify w.heap.size _).modify w.heap.size _=_
     rw[zp9,zp9];congr 1;show Obj.cells (zhy (zhy C0.toArray i [.int .i64 x]) (i+1) ((l.map (Value.int .i64)).drop i)) (ρ.t 3) _=_
     rw[zhc [.int .i64 x] i C0 oE,zhc _ (i+1) _ (by rw[s1,hdl];omega)]
    ·rw[zbg,zbg];rfl
    ·rw[zbg,zbg];rfl
    ·rw[zbg,zbg];rfl
    ·rw[zbg,zbg];exact Yz (Yc3 _) (Yc3 _)
theorem zGG (L:Lays2.n21 P ρ) (he:zdZ P (ρ.f 21)=true) {M:Mem} {a:Option Addr} {c:Nat} {l:List Int} (h:zD9 M (ρ.t 3) a c l) (hc:l.length≤4194303) (i:Nat) (hi:i≤l.length) {vb vc:Nat} {x:Int} {E':TypeId} (hv:M.has vb E' [.int .i64 x]) (hne:∀ q,a=some q→q.block≠vb) :
  CallsM P (ρ.f 21) [.slice a l.length c,.int .i64 i,.slice (some ⟨vb,0,none⟩) 1 vc] M fun v M'=>∃ a' c',v = .slice a' (l.length+1) c'∧zD9 M' (ρ.t 3) a' c' (l.take i++x::l.drop i)∧Mem.keep (blk a) M M'∧∀ q,a'=some q→blk a q.block∨M q.block=none:=by
 refine(zGF L he h hc i hi (vc:=vc) hv hne).mono ?_;rintro v M' ⟨b',o',c',cs',rfl,h1,rfl,h2,h3,h4⟩;refine⟨_,c',rfl,⟨h1,.inr ⟨b',o',cs',rfl,Yg,h2,h3⟩⟩,fun y o hy hyo=>?_,fun q hq=>?_⟩
 ·have e:y≠b':=fun e=>by
   subst e;rcases h4 with ⟨-, -, h5⟩|⟨h5, -, -⟩
   ·simp_all
   ·exact hy ⟨_,h5,rfl⟩
  simp only[Mem.setCells,Yh _ _ e];exact hyo
 ·cases hq;rcases h4 with ⟨-, -, h5⟩|⟨h5, -, -⟩
  ·simp_all
  ·exact .inl ⟨_,h5,rfl⟩
end
end
end Go.Vm
namespace Go.Proofs.YtlgbofpennelhaaGreat
open Go Go.Vm Go.Proofs.Tryz
attribute [local irreducible] Brn Ob Grow CallsM inR zI zF Mem.row Mem.cells Mem.setCells Mem.upd Go.Vm.Own zZ zaj zam zO New SrcOk subA NewSl Mem.textAt Mem.mapAt Mem.iterAt zC zB Wr NewEls Elems
set_option maxRecDepth 10000
section
@[reducible] def keyV (k:Int×Int):Value := .agg #[.int .i64 k.1,.int .i64 k.2]
theorem zIu:zeE keyV:=by
 intro a b;obtain⟨a1,a2⟩:=a;obtain⟨b1,b2⟩:=b;simp only[zeD,zbM,if_true,Yci]
 (grind)<;>simp_all
structure Ent where
 r:Nat
 a:Option Addr
 c:Nat
 up:Int
 more:List Int
def RowI (M:Mem) (a:Option Addr) (c:Nat) (l:List Int):Prop:=
 (l.length≤c∧c≤maxLen)∧((a=none∧c=0)∨∃ b o cs,a=some ⟨b,o,none⟩∧M.has b 3 cs∧o+c≤cs.length∧(cs.drop o).take l.length=l.map zi)
structure EntAt (M:Mem) (x:Ent):Prop where
 self:M.has x.r 350 [.int .i64 x.up,.slice x.a x.more.length x.c]
 more:RowI M x.a x.c x.more
theorem RowI.src {M:Mem} {a:Option Addr} {c:Nat} {l:List Int} (h:RowI M a c l):SrcOk M 1 a l.length (l.map zi):=by
 obtain⟨hc,⟨rfl,rfl⟩|⟨b,o,cs,rfl,hh,ho,ht⟩⟩:=h
 ·have:l=[]:=Y8 oM;subst this;unfold SrcOk;exact⟨rfl,.inl rfl⟩
 ·unfold SrcOk;refine⟨by simp,.inr ⟨b,o,rfl,?_⟩⟩;rw[hh.row oM,Ybi];rw[ht]
theorem RowI.mono {M M':Mem} {a:Option Addr} {c:Nat} {l:List Int} (h:RowI M a c l) (hk:∀ q o,a=some q→M q.block=some o→M' q.block=some o):RowI M' a c l:=by
 obtain⟨hc,h1|⟨b,o,cs,rfl,hh,hr⟩⟩:=h
 ·exact⟨hc,.inl h1⟩
 ·exact⟨hc,.inr ⟨b,o,cs,rfl,hk _ _ rfl hh,hr⟩⟩
theorem RowI.block {M:Mem} {a:Option Addr} {c:Nat} {l:List Int} (h:RowI M a c l) {q:Addr} (hq:a=some q):∃ cs,M.has q.block 3 cs:=by
 obtain⟨hc,⟨h1,_⟩|⟨b,o,cs,rfl,hh,hr⟩⟩:=h
 ·simp_all
 ·grind
def Ent.own (x:Ent):Nat→Prop:=fun y=>y=x.r∨blk x.a y
theorem EntAt.mono {M M':Mem} {x:Ent} (h:EntAt M x) (hk:∀ y o,x.own y→M y=some o→M' y=some o):EntAt M' x:=
 ⟨hk _ _ (.inl rfl) h.self,h.more.mono fun q o hq=>hk _ o (.inr ⟨q,hq,rfl⟩)⟩
theorem EntAt.le {M M':Mem} {x:Ent} (h:EntAt M x) (hle:M.le M'):EntAt M' x:=h.mono fun y o _=>hle y o
def zIv (x y:Ent):Prop:=∀ z,x.own z→¬y.own z
@[reducible] def zoj (x:Ent):Value:=ptr x.r
structure SetAt (M:Mem) (p b:Nat) (gaps:Int) (es:List ((Int×Int)×Ent)):Prop where
 self:M.has p 347 [.int .i64 gaps,.map (some b)]
 map:MapAt keyV zoj M b es
 ents:∀ q∈es,EntAt M q.2
 apart:es.Pairwise fun x y=>zIv x.2 y.2
theorem SetAt.le {M M':Mem} {p b:Nat} {gaps:Int} {es:List ((Int×Int)×Ent)} (h:SetAt M p b gaps es) (hle:M.le M'):SetAt M' p b gaps es:=
 ⟨h.self.le hle,h.map.mono fun o=>hle _ o,fun q hq=>(h.ents q hq).le hle,h.apart⟩
theorem EntAt.nomap {M:Mem} {x:Ent} (h:EntAt M x) {b:Nat} {es:List ((Int×Int)×Ent)} (hm:MapAt keyV zoj M b es):¬x.own b:=by
 rintro (e|⟨q,hq,e⟩)
 ·exact hm.nb h.self e.symm
 ·obtain⟨cs,hh⟩:=h.more.block hq;exact hm.nb hh e
variable {M:Mem} {p b:Nat} {gaps:Int} {es:List ((Int×Int)×Ent)}
theorem zIw (gaps:Int):CallsM prog 146 [.int .i64 gaps] M fun v M'=>
  ((gaps<0∨256<gaps)∧v = .tuple #[.pointer none,.int .i64 1]∧M'=M) ∨
  (¬(gaps<0∨256<gaps)∧∃ p b,v = .tuple #[ptr p,.int .i64 0]∧M p=none∧M b=none∧M.le M'∧SetAt M' p b gaps []):=by
 refine zxE oS ?_;refine brn (fun h=>?_) (fun h=>?_)
 ·refine zR ?_;exact .inl ⟨.inl (Zd0 h),rfl,rfl⟩
 refine brn (fun h1=>?_) (fun h1=>?_)
 ·(conv=>whnf);exact .inl ⟨.inr (Zd0 h1),rfl,rfl⟩
 ·refine new (fun b hb=>?_);replace hb:M b=none:=hb;refine new (fun p hp=>?_);replace hp:(M.upd b (.map #[] 0)) p=none:=hp;have hne:p≠b:=fun e=>by subst e;rw[Yam] at hp;cases hp
  rw[Yh _ _ hne] at hp
  have hn:¬(gaps<0∨256<gaps):=by
   have:=Zd1 h;have:=Zd1 h1
   omega
  refine .inr ⟨hn,p,b,rfl,hp,hb,Yc (Ya8 hb) (Yw (by rw[Yh _ _ hne];exact hp)),Yg,?_,by simp,by simp⟩;refine(Ydq M b).mono fun o ho=>?_
  unfold Mem.setCells;rw[Yh _ _ (Ne.symm hne)];exact ho
theorem zAi (h:SetAt M p b gaps es) (o d e c:Int):CallsM prog 282 [ptr p,.agg #[.int .i64 o,.int .i64 d,.int .i64 e,.int .i64 c]] M fun v M'=>
  (∃ x,ze es (o,e)=some x∧v=ptr x.r∧M'=M) ∨
  (ze es (o,e)=none∧∃ r,v=ptr r∧M r=none∧M'=M.setCells r 350 [.int .i64 0,.slice none 0 0]):=by
 refine zsR oS ?_;refine zK h.self ?_;refine h.map.get zIu (o,e) (fun hn=>?_) (fun x j hx=>?_)
 ·refine zR ?_;refine new (fun r hr=>?_);replace hr:M r=none:=hr;exact .inr ⟨hn,r,rfl,hr,rfl⟩
 ·refine zR ?_;exact .inl ⟨x,hx,rfl,rfl⟩
end
section
set_option maxRecDepth 10000 in
theorem zEb (a:Option Addr) (n c:Nat) (x:Int) (M:Mem) (l:List Int) (hs:SrcOk M 1 a n (l.map zi)) (hn:n≤4194304) :
  CallsM prog 271 [.slice a n c,.int .i64 x] M fun v M'=>(∃ i:Int,v = .int .i64 i∧(0≤i↔x∈l))∧M=M':=by
 refine zkj oS ?_;have hl:=hs.maplen
 refine zem [8] (fun (i:Nat)=>[(8,.int .i64 i)]) (fun i=>i≤n∧x∉l.take i) (fun i=>n - i) 0 ⟨by omega,by simp⟩ zS ?_;intro i ⟨hi,hnot⟩;refine brn (fun h=>?_) (fun h=>?_)
 ·simp only[decide_eq_true_eq] at h;obtain⟨hlt,b,o,rfl,hrow⟩:=hs.at (i:=i) oM;refine ob oM ?_;refine on hrow ?_;refine brn (fun g=>?_) (fun g=>?_)
  ·(conv=>whnf);refine⟨⟨i,rfl,?_⟩,rfl⟩;simp only[decide_eq_true_eq] at g;subst g;exact⟨fun _=>Yai _,fun _=>by omega⟩
  ·refine zP ?_;refine⟨i+1,⟨by omega,?_⟩,by omega,zS⟩;simp only[decide_eq_false_iff_not] at g;rw[Y1,Yb hlt];simp only[Option.toList_some,Yy,Y0,not_or];exact⟨hnot,g⟩
 ·(conv=>whnf);simp only[decide_eq_false_iff_not] at h;refine⟨⟨-1,rfl,?_⟩,rfl⟩;rw[Yf oM] at hnot;simp[hnot]
theorem zio (a:Option Addr) (n c:Nat) (x:Int) (M:Mem) (l:List Int) (hs:SrcOk M 1 a n (l.map zi)) (hn:n≤4194304) :
  CallsM prog 184 [.slice a n c,.int .i64 x] M fun v M'=>v = .bool (decide (x∈l))∧M=M':=by
 refine ziR oS ?_;refine(zEb a n c x M l hs hn).mono ?_;rintro v M' ⟨⟨i,rfl,hi⟩,rfl⟩;exact⟨by simp[hi],rfl⟩
variable {M:Mem} {p b:Nat} {gaps:Int} {es:List ((Int×Int)×Ent)}
def zca (es:List ((Int×Int)×Ent)) (k:Int×Int):Int:=match ze es k with|some x=>x.up|none=>0
def zbw (es:List ((Int×Int)×Ent)) (k:Int×Int):List Int:=match ze es k with|some x=>x.more|none=>[]
def zft (es:List ((Int×Int)×Ent)) (o d e c:Int):Bool:=decide (idErr o d e c=0)&&(decide (c≤zca es (o,e))||decide (c∈zbw es (o,e)))
def zaD (es:List ((Int×Int)×Ent)):Nat:=(es.map fun q=>q.2.more.length).sum
theorem zAj {l r:List ((Int×Int)×Ent)} (h:l.Perm r):zaD l=zaD r:=(h.map _).sum_nat
theorem zjY {q:(Int×Int)×Ent}:∀ {es:List ((Int×Int)×Ent)},q∈es→q.2.more.length≤zaD es
 | [],h=>by cases h
 | x::r,h=>by
  simp only[zaD,Yq,Ybb];rcases Yp.1 h with rfl|h
  ·omega
  ·have:=zjY h;simp only[zaD] at this;omega
def zvb (es:List ((Int×Int)×Ent)):Prop:=∀ q∈es,0≤q.2.up∧q.2.up≤65535
theorem zCj (h:SetAt M p b gaps es) (hg:zaD es≤4194304) (o d e c:Int):CallsM prog 281 [ptr p,.agg #[.int .i64 o,.int .i64 d,.int .i64 e,.int .i64 c]] M fun v M'=>v = .bool (zft es o d e c)∧M.le M':=by
 refine zrP oS ?_;refine brn_f rfl ?_;refine zJ (zfc o d e c M) ?_;refine brn (fun g=>?_) (fun g=>?_)
 ·(conv=>whnf);have:¬idErr o d e c=0:=by simpa using g
  exact⟨by simp[zft,this],Ya _⟩
 have hok:idErr o d e c=0:=by simpa using g
 refine(zAi h o d e c).mono ?_;rintro v M1 (⟨x,hx,rfl,rfl⟩|⟨hn,r,rfl,hr,rfl⟩)
 ·have hxe:=h.ents _ (zG hx);have hlen:x.more.length≤4194304:=Yz (zjY (zG hx)) hg
  refine on (hxe.self.c1 rfl) ?_;refine brn (fun g1=>?_) (fun g1=>?_)
  ·have g1':c≤x.up:=Zd0 g1;refine zR ?_;exact⟨by simp[zft,hok,zca,hx,g1'],Ya _⟩
  ·have g1':¬c≤x.up:=Zd1 g1;refine on (hxe.self.c1 rfl) ?_;refine zU ?_;refine zJ (zio x.a x.more.length x.c c _ x.more hxe.more.src hlen) ?_;exact⟨by simp[zft,hok,zca,zbw,hx,g1'],Ya _⟩
 ·have hle:M.le (M.setCells r 350 [.int .i64 0,.slice none 0 0]):=Yw hr;have hh:=Yg (M:=M) (b:=r) (E:=350) (l:=[.int .i64 0,.slice none 0 0])
  obtain⟨M1,hM1⟩:=oI (M.setCells r 350 [.int .i64 0,.slice none 0 0]);rw[←hM1] at hle hh ⊢;have hc:1≤c:=by unfold idErr at hok;split at hok<;>(try cases hok);omega
  refine on (hh.c1 rfl) ?_;refine brn_f oE ?_;refine on (hh.c1 rfl) ?_;refine zU ?_;refine zJ (zio none 0 0 c M1 [] (Ybh M1 1) oM) ?_;have hlt:¬c≤0:=by omega
  exact⟨by simp[zft,hok,zca,zbw,hn,hlt],hle⟩
theorem zGH (h:SetAt M p b gaps es) (hg:zaD es≤4611686018427387904):CallsM prog 283 [ptr p] M fun v M'=>v = .int .i64 (zaD es)∧M.le M':=by
 refine zqz oS ?_;refine brn_t rfl ?_;refine zK h.self ?_;refine h.map.range fun q bi hbi hI=>?_
 replace hbi:M bi=none:=hbi
 refine zak (σ:=Mem×Nat×List ((Int×Int)×Ent)) [3] (fun x=>[(3,.int .i64 x.2.1)]) (fun _=>[]) (fun x=>x.1)
  (fun|⟨M1,n,todo⟩=>M.le M1∧Iter keyV zoj M1 bi b es todo∧n+zaD todo=zaD es) (fun x=>x.2.2.length) ⟨_,0,es⟩
  ⟨Ya8 hbi,hI,by omega⟩ zS ?_
 rintro ⟨M1,n,todo⟩ ⟨hle,hI1,hsum⟩;refine hI1.next (fun h0=>?_) (fun i k todo' o' hperm hI2 hent=>?_)
 ·subst h0;refine zR ?_;refine⟨?_,hle⟩;have:zaD []=0:=rfl
  congr 1;dsimp only;omega
 ·have hle2:M.le (M1.upd bi o'):=fun y o hb=>by
   rw[Yh _ _ (fun e=>by simp_all)];exact hle _ _ hb
  obtain⟨M2,hM2⟩:=oI (M1.upd bi o');rw[←hM2] at hI2 hent hle2;have hmem:(i,k)∈es:=hI1.todo_sub _ (hperm.mem_iff.2 oS)
  have hke:=(h.le hle2).ents _ hmem;have hs:=zAj hperm
  simp only[zaD,Yq,Ybb] at hs;have hsum':n+k.more.length+zaD todo'=zaD es:=by simp only[zaD] at hsum ⊢; omega
  erw [←hM2];refine zR ?_;refine on hent ?_;refine on (hke.self.c1 rfl) ?_;refine obr (inR_i64 (by grind)) ?_;refine⟨⟨M2,n+k.more.length,todo'⟩,⟨hle2,hI2,hsum'⟩,by have:=hperm.length_eq;simp at this ⊢; omega,zS⟩
def mayE (gaps:Int) (es:List ((Int×Int)×Ent)) (o d e c:Int):Int:=
 if idErr o d e c≠0 then idErr o d e c else if zft es o d e c then 5 else if c≠zca es (o,e)+1∧gaps≤zaD es then 6 else 0
theorem zrX (hgd:zvb es) (k:Int×Int):0≤zca es k∧zca es k≤65535:=by
 unfold zca;cases hx:ze es k with
 | none=>simp
 | some x=>exact hgd _ (zG hx)
theorem zwc (h:SetAt M p b gaps es) (hg:zaD es≤4194304) (hgd:zvb es) (o d e c:Int):CallsM prog 200 [ptr p,.agg #[.int .i64 o,.int .i64 d,.int .i64 e,.int .i64 c]] M fun v M'=>v = .int .i64 (mayE gaps es o d e c)∧M.le M':=by
 refine zrJ oS ?_;refine brn_f rfl ?_;refine zJ (zfc o d e c M) ?_;refine brn (fun g=>?_) (fun g=>?_)
 ·(conv=>whnf);have:¬idErr o d e c=0:=by simpa using g
  exact⟨by simp[mayE,this],Ya _⟩
 have hok:idErr o d e c=0:=by simpa using g
 refine(zCj h hg o d e c).mono ?_;rintro v M1 ⟨rfl,hle1⟩;have h1:=h.le hle1
 refine brn (fun g=>?_) (fun g=>?_)
 ·(conv=>whnf);exact⟨by simp[mayE,hok,g],hle1⟩
 have hno:zft es o d e c=false:=g;have hur:=zrX hgd (o,e)
 have fin:∀ (t:Bool),t=(decide (c≠zca es (o,e)+1)&&decide (gaps≤zaD es))→mayE gaps es o d e c=if t then 6 else 0:=fun t ht=>by
  subst ht;simp only[mayE,hok,hno];by_cases e1:c=zca es (o,e)+1<;>by_cases e2:gaps≤(zaD es:Int)<;>simp[e1,e2]
 have key:CallsM prog 282 [ptr p,.agg #[.int .i64 o,.int .i64 d,.int .i64 e,.int .i64 c]] M1 fun v M'=>∃ r,v=ptr r∧M1.le M'∧M'.row r 0 1=some [.int .i64 (zca es (o,e))]:=(zAi h1 o d e c).mono fun v M' hv=>by
  rcases hv with ⟨x,hx,rfl,rfl⟩|⟨hn,r,rfl,hr,rfl⟩
  ·refine⟨x.r,rfl,Ya _,?_⟩;have:=(h1.ents _ (zG hx)).self.c1 (o:=0) rfl
   simpa[zca,hx] using this
  ·refine⟨r,rfl,Yw hr,?_⟩;have:=(Yg (M:=M1) (b:=r) (E:=350) (l:=[.int .i64 0,.slice none 0 0])).c1 (o:=0) rfl
   simpa[zca,hn] using this
 refine⟨M1,Ya _,?_⟩;refine zU ?_;refine key.mono ?_;rintro v M2 ⟨r,rfl,hle2,hrow⟩;have hself2:=(h1.le hle2).self
 refine ob rfl ?_;refine zJs M2 hle2 (Ya _) ?_;refine on hrow ?_;refine obr (inR_i64 oM) ?_;refine brn (fun g1=>?_) (fun g1=>?_)
 ·refine on (hself2.c1 rfl) ?_;refine zU ?_;refine(zGH (h1.le hle2) oM).mono ?_;rintro v M3 ⟨rfl,hle3⟩;refine zT (hle3) ?_;refine brn (fun g2=>?_) (fun g2=>?_)
  ·have e:=fin true (by simp_all);exact⟨by rw[e];rfl,Yc hle1 (Yc hle2 hle3)⟩
  ·have e:=fin false (by simp_all);exact⟨by rw[e];rfl,Yc hle1 (Yc hle2 hle3)⟩
 ·have e:=fin false (by simp_all);refine zU ?_;exact⟨by rw[e];rfl,Yc hle1 hle2⟩
end
section
variable {M:Mem}
theorem zqO (x:Int):CallsM prog 334 [.int .i64 x] M fun v M'=>v = .bool false∧M=M':=by
 refine zqB oS ?_;refine zR ?_;exact⟨by simp,rfl⟩
theorem zIx (x:Int):CallsM prog 344 [.int .i64 x] M fun v M'=>v = .bool false∧M=M':=by
 refine znA oS ?_;refine zR ?_;exact⟨by simp,rfl⟩
theorem zGI (x y:Int):CallsM prog 261 [.int .i64 x,.int .i64 y] M fun v M'=>v = .bool (decide (x<y))∧M=M':=by
 refine zrN oS ?_;refine zN (zqO x) ?_;exact⟨rfl,rfl⟩
theorem zAk {a:Option Addr} {n c:Nat} {l:List Int} (hs:SrcOk M 1 a n (l.map zi)) (hn:n≤4194304) (hl:l.Pairwise (· < ·)) (x:Int) :
  CallsM prog 285 [.slice a n c,.int .i64 x] M fun v M'=>∃ (i:Nat) (f:Bool),v = .tuple #[.int .i64 i,.bool f]∧i≤n∧(∀ k y,k<i→l[k]? = some y→y<x)∧(∀ k y,i≤k→l[k]? = some y→x≤y)∧M=M':=by
 refine zhq oS ?_;have hll:=hs.maplen
 have hmono:∀ k k' y y',k≤k'→l[k]? = some y→l[k']? = some y'→y≤y':=fun k k' y y' hk h1 h2=>by
  rcases Ydo k k' with h|h
  ·have hk':=(Yu.1 h2).1;have:=Ycx.1 hl k k' oM hk' h
   rw[Yb oM] at h1;rw[Yb hk'] at h2;cases h1;cases h2;omega
  ·have:k=k':=Nat.le_antisymm hk h;subst this;rw[h1] at h2;cases h2;omega
 refine zem (σ:=Nat×Nat) [7,8] (fun q=>[(7,.int .i64 q.1),(8,.int .i64 q.2)]) (fun|⟨i,j⟩=>i≤j∧j≤n∧(∀ k y,k<i→l[k]? = some y→y<x)∧(∀ k y,j≤k→l[k]? = some y→x≤y)) (fun q=>q.2 - q.1) ⟨0,n⟩
  ⟨by omega,by omega,fun k y hk=>by omega,fun k y hk hy=>by simp_all⟩ zS ?_
 rintro ⟨i,j⟩ ⟨hij,hj,h1,h2⟩;refine brn (fun g=>?_) (fun g=>?_)
 ·have hlt:i<j:=by have:=Zd0 g;dsimp only at this;omega
  refine obr (inR_i64 (by omega)) ?_;refine ob oD ?_;(conv=>whnf)
  have hmid:IntKind.i64.wrap ((IntKind.u64.wrap ((i:Int)+j)).fdiv (2 ^ min (Int.toNat 1) IntKind.u64.bits))=(((i+j) / 2:Nat):Int):=by
   have e1:IntKind.u64.wrap ((i:Int)+j)=((i+j:Nat):Int):=by rw[IntKind.wrap_u64];omega
   have e2:(2:Int) ^ min (Int.toNat 1) IntKind.u64.bits=2:=by decide
   have e3:((i+j:Nat):Int).fdiv 2=(((i+j) / 2:Nat):Int):=by rw[Yb5 _ (by decide)];omega
   rw[e1,e2,e3,IntKind.wrap_i64];omega
  rw[hmid];obtain⟨m,hm⟩:=oI ((i+j) / 2);rw[←hm];obtain⟨hlm,b,o,rfl,hrow⟩:=hs.at (i:=m) oM;have hgm:l[m]? = some l[m]:=Yb hlm
  refine ob oM ?_;refine on hrow ?_;refine zJ (zGI _ _) ?_;refine brn (fun g1=>?_) (fun g1=>?_)
  ·have hx:l[m]<x:=Zd0 g1;refine zP ?_;refine⟨⟨m+1,j⟩,⟨by omega,by omega,fun k y hk hy=>?_,h2⟩,by omega,zS⟩;have:=hmono k m y l[m] oM hy hgm
   omega
  ·have hx:¬l[m]<x:=Zd1 g1;refine⟨⟨i,m⟩,⟨by omega,by omega,h1,fun k y hk hy=>?_⟩,by omega,zS⟩;have:=hmono m k l[m] y hk hgm hy
   omega
 ·have he:i=j:=by have:=Zd1 g;dsimp only at this;omega
  subst he;refine brn (fun g=>?_) (fun g=>?_)
  ·have hlt:i<n:=by have:=Zd0 g;dsimp only at this;omega
   obtain⟨_,b,o,rfl,hrow⟩:=hs.at (i:=i) hlt;refine ob (by omega) ?_;refine on hrow ?_;refine brn (fun g1=>?_) (fun g1=>?_)
   ·refine zR ?_;exact⟨i,_,rfl,hj,h1,h2,rfl⟩
   ·refine ob (by omega) ?_;refine on hrow ?_;refine zN (zIx _) ?_;exact⟨i,_,rfl,hj,h1,h2,rfl⟩
  ·refine zR ?_;exact⟨i,_,rfl,hj,h1,h2,rfl⟩
end
section
variable {M:Mem} {p b:Nat} {gaps:Int} {es:List ((Int×Int)×Ent)}
theorem EntAt.some {x:Ent} (h:EntAt M x) {y:Nat} (hy:x.own y):M y≠none:=by
 rcases hy with rfl|⟨q,hq,rfl⟩
 ·have:=h.self;unfold Mem.has at this;rw[this];simp
 ·obtain⟨cs,hh⟩:=h.more.block hq;unfold Mem.has at hh;rw[hh];simp
theorem EntAt.noset {x:Ent} (h:EntAt M x) {p:Nat} {l:List Value} (hp:M.has p 347 l):¬x.own p:=by
 rintro (e|⟨q,hq,e⟩)
 ·subst e;exact absurd (h.self.inj hp).1 oD
 ·obtain⟨cs,hh⟩:=h.more.block hq;subst e;exact absurd (hh.inj hp).1 oD
theorem SetAt.turn {M':Mem} (h:SetAt M p b gaps es) {k:Int×Int} {x x':Ent} (hx:ze es k=some x) (hk:Mem.keep x.own M M') (he:EntAt M' x') (hr:x'.r=x.r) (hown:∀ y,x'.own y→x.own y∨M y=none):SetAt M' p b gaps (zt es k x'):=by
 have hxe:=h.ents _ (zG hx);have hpa:zt es k x'=zbX es k x':=by simp[zt,hx]
 obtain⟨u,v,h1,h2,h3,h4⟩:=zmi h.map.nodup hx x';have hap:=h.apart
 rw[h1] at hap;have hap':=Yax.1 hap
 have hmem:∀ q,q∈u∨q∈v→q∈es:=fun q hq=>by grind
 have hfar:∀ q,q∈u∨q∈v→∀ y,q.2.own y→¬x.own y:=fun q hq y hy hxy=>by
  rcases hq with hq|hq
  ·exact hap'.2.2 q hq (k,x) oS y hy hxy
  ·exact(Yx.1 hap'.2.1).1 q hq y hxy hy
 have hfar':∀ q,q∈u∨q∈v→∀ y,q.2.own y→¬x'.own y:=fun q hq y hy hxy=>by
  rcases hown y hxy with h5|h5
  ·grind
  ·exact(h.ents q (hmem q hq)).some hy h5
 rw[hpa,h2];refine⟨hk _ _ (hxe.noset h.self) h.self,?_,fun q hq=>?_,?_⟩
 ·have hm:=h.map.relabel (fun q=>if q.1=k then x' else q.2) (fun q hq=>by grind)
  have e:(es.map fun q=>(q.1,if q.1=k then x' else q.2))=u++(k,x')::v:=by
   rw[h1,Yv,Yq];congr 1
   ·rw[Yav (g:=id),Ydh];intro q hq;simp[h3 q hq]
   ·congr 1
    ·simp
    ·rw[Yav (g:=id),Ydh];intro q hq;simp[h4 q hq]
  rw[e] at hm;exact hm.mono fun o ho=>hk _ o (hxe.nomap h.map) ho
 ·rcases Yy.1 hq with hq|hq
  ·exact(h.ents q (hmem q (.inl hq))).mono fun y o hy ho=>hk y o (hfar q (.inl hq) y hy) ho
  ·rcases Yp.1 hq with rfl|hq
   ·exact he
   ·exact(h.ents q (hmem q (.inr hq))).mono fun y o hy ho=>hk y o (hfar q (.inr hq) y hy) ho
 ·rw[Yax];refine⟨hap'.1,Yx.2 ⟨fun q hq y hy hqy=>hfar' q (.inr hq) y hqy hy,(Yx.1 hap'.2.1).2⟩,fun q hq q' hq'=>?_⟩;rcases Yp.1 hq' with rfl|hq'
  ·exact fun y hy hxy=>hfar' q (.inl hq) y hy hxy
  ·grind
theorem SetAt.more {M':Mem} (h:SetAt M p b gaps es) {k:Int×Int} {x:Ent} (hx:ze es k=none) (hk:Mem.keep (fun y=>y=b) M M') (hm:MapAt keyV zoj M' b (zt es k x)) (he:EntAt M' x) (hown:∀ y,x.own y→M y=none):SetAt M' p b gaps (zt es k x):=by
 have hpa:zt es k x=es++[(k,x)]:=by simp[zt,hx]
 refine⟨hk _ _ (h.map.nb h.self) h.self,hm,fun q hq=>?_,?_⟩
 ·rw[hpa] at hq;rcases Yy.1 hq with hq|hq
  ·exact(h.ents q hq).mono fun y o hy ho=>hk y o (fun e=>by subst e;exact(h.ents q hq).nomap h.map hy) ho
  ·simp_all
 ·rw[hpa,Yax];refine⟨h.apart,by simp,fun q hq q' hq'=>?_⟩;simp at hq';subst hq';exact fun y hy hxy=>(h.ents q hq).some hy (hown y hxy)
end
section
variable {M:Mem} {p b:Nat} {gaps:Int} {es:List ((Int×Int)×Ent)}
def zdE (c:Int):List Int→List Int
 | []=>[c]
 | y::r=>if y<c then y::zdE c r else c::y::r
theorem zyN (c:Int):∀ (l:List Int) (i:Nat),i≤l.length→(∀ k y,k<i→l[k]? = some y→y<c)→(∀ k y,i≤k→l[k]? = some y→c≤y)→l.take i++c::l.drop i=zdE c l
 | [],i,hi,_,_=>by
  have:i=0:=by simpa using hi
  subst this;rfl
 | y::r,0,_,_,h2=>by
  have:=h2 0 y (Yd _) rfl;simp only[List.take_zero,Ycn,Yaa,zdE];rw[if_neg oM]
 | y::r,i+1,hi,h1,h2=>by
  have:=h1 0 y oM rfl;simp only[Ybu,List.drop_succ_cons,Yby,zdE];rw[if_pos this,zyN c r i (by simpa using hi) (fun k y hk hy=>h1 (k+1) y oM (by simpa using hy)) (fun k y hk hy=>h2 (k+1) y oM (by simpa using hy))]
theorem zqP (c:Int):∀ l:List Int,(zdE c l).length=l.length+1
 | []=>rfl
 | y::r=>by
  simp only[zdE];split
  ·simp[zqP c r]
  ·simp
def normC (up:Int):List Int→Int×List Int
 | []=>(up,[])
 | y::r=>if y=up+1 then normC (up+1) r else (up,y::r)
theorem RowI.pop {M:Mem} {a:Option Addr} {c:Nat} {y:Int} {r:List Int} (h:RowI M a c (y::r)):RowI M (subA a 1 (r.length+1) 1) r.length r∧∀ q,subA a 1 (r.length+1) 1=some q→∃ q',a=some q'∧q'.block=q.block:=by
 obtain⟨⟨h1,h2⟩,⟨rfl,rfl⟩|⟨b,o,cs,rfl,hh,ho,ht⟩⟩:=h
 ·simp at h1
 ·simp only[Ym] at h1 ht;unfold subA;split
  ·have hr:r=[]:=Y8 oM;subst hr;exact⟨⟨⟨Yd _,Y5 _⟩,.inr ⟨b,o,cs,rfl,hh,by omega,by simp⟩⟩,fun q hq=>⟨_,rfl,by grind⟩⟩
  ·refine⟨⟨⟨Yd _,by omega⟩,.inr ⟨b,o+1,cs,by rfl,hh,by omega,?_⟩⟩,fun q hq=>⟨_,rfl,by simp[zb7] at hq;rw[←hq]⟩⟩;have h5:((cs.drop o).take (r.length+1)).drop 1=r.map zi:=by rw[ht];rfl
   rw[Ycm,Ybo] at h5;simpa using h5
theorem SetAt.remap {M':Mem} (h:SetAt M p b gaps es) (hk:Mem.keep (fun y=>y=b) M M') (hm:MapAt keyV zoj M' b es):SetAt M' p b gaps es:=
 ⟨hk _ _ (h.map.nb h.self) h.self,hm,fun q hq=>(h.ents q hq).mono fun y o hy ho=>hk y o (fun e=>by subst e;exact(h.ents q hq).nomap h.map hy) ho,h.apart⟩
def setB (p b:Nat) (es:List ((Int×Int)×Ent)):Nat→Prop:=fun y=>y=p∨y=b∨∃ q∈es,q.2.own y
def zfu (es:List ((Int×Int)×Ent)) (o e c:Int):Int×List Int:=normC (zca es (o,e)) (zdE c (zbw es (o,e)))
theorem zIy (h:SetAt M p b gaps es) (hg:zaD es≤4194000) (hgd:zvb es) (hso:∀ q∈es,q.2.more.Pairwise (· < ·)) (o d e c:Int):CallsM prog 211 [ptr p,.agg #[.int .i64 o,.int .i64 d,.int .i64 e,.int .i64 c]] M fun v M'=>
  v = .int .i64 (mayE gaps es o d e c)∧((mayE gaps es o d e c≠0∧M.le M') ∨
   (mayE gaps es o d e c=0∧Mem.keep (setB p b es) M M'∧∃ x,SetAt M' p b gaps (zt es (o,e) x)∧(x.up,x.more)=zfu es o e c∧∀ y,x.own y→setB p b es y∨M y=none)):=by
 refine zrL oS ?_;refine(zwc h oM hgd o d e c).mono ?_;rintro v M1 ⟨rfl,hle1⟩;refine brn (fun g=>?_) (fun g=>?_)
 ·have hne:¬mayE gaps es o d e c=0:=by simpa using g
  exact⟨rfl,.inl ⟨hne,hle1⟩⟩
 have hz:mayE gaps es o d e c=0:=by simpa using g
 have hok:idErr o d e c=0:=by
  apply Ybe;intro hn;simp[mayE,hn] at hz
 have hcr:1≤c∧c≤65535:=by unfold idErr at hok;split at hok<;>(try cases hok);omega
 have h1:=h.le hle1
 have key:CallsM prog 282 [ptr p,.agg #[.int .i64 o,.int .i64 d,.int .i64 e,.int .i64 c]] M1 fun v M'=>∃ x0,v=ptr x0.r∧M1.le M'∧SetAt M' p b gaps es∧x0.up=zca es (o,e)∧x0.more=zbw es (o,e)∧(x0.more.Pairwise (· < ·)∧x0.more.length≤4194000)∧(∀ y,x0.own y→setB p b es y∨M y=none) ∧
   ∀ ob,MapAt keyV zoj (M'.upd b ob) b (zt es (o,e) x0)→SetAt (M'.upd b ob) p b gaps (zt es (o,e) x0):=(zAi h1 o d e c).mono fun v M' hv=>by
  rcases hv with ⟨x,hx,rfl,rfl⟩|⟨hn,r,rfl,hr,rfl⟩
  ·have hpa:zt es (o,e) x=es:=by simp only[zt,hx];exact zBS hx
   refine⟨x,rfl,Ya _,h1,by simp[zca,hx],by simp[zbw,hx],⟨hso _ (zG hx),Yz (zjY (zG hx)) hg⟩,fun y hy => .inl (.inr (.inr ⟨_,zG hx,hy⟩)),fun ob hm=>?_⟩;rw[hpa] at hm ⊢;exact h1.remap (Yad _ _ rfl) hm
  ·have hle:=Yw (E:=350) (l:=[.int .i64 0,.slice none 0 0]) hr
   have hrM:M r=none:=by
    cases hM:M r with
    | none=>rfl
    | some z=>rw[hle1 _ _ hM] at hr;cases hr
   refine⟨⟨r,none,0,0,[]⟩,rfl,hle,h1.le hle,by simp[zca,hn],by simp[zbw,hn],by simp,fun y hy=>?_,fun ob hm=>?_⟩
   ·rcases hy with rfl|⟨q,hq,_⟩
    ·simp_all
    ·cases hq
   ·have hrb:r≠b:=fun e=>by subst e;obtain⟨l1,c1,hh,_⟩:=h1.map;rw[hh] at hr;cases hr
    have hk:Mem.keep (fun y=>y=b) M1 ((M1.setCells r 350 [.int .i64 0,.slice none 0 0]).upd b ob):=Yac (Ybt hle) (Yad _ _ rfl);refine h1.more hn hk hm ⟨Mem.has_setCells.upd hrb ob,⟨by simp,by simp⟩,.inl ⟨rfl,rfl⟩⟩ fun y hy=>?_
    rcases hy with rfl|⟨q,hq,_⟩
    ·exact hr
    ·cases hq
 refine key.mono ?_;rintro v M2 ⟨x0,rfl,hle2,hS2,hup0,hmore0,⟨hso0,hlen0⟩,hown0,hput⟩;refine zK hS2.self ?_;refine⟨?_,True.intro⟩;refine hS2.map.put zIu (o,e) x0 fun q f hm=>?_
 have hS3:=hput _ (hm M2);obtain⟨M3,hM3⟩:=oI (M2.upd b (zdg q f (keyV (o,e)) (zoj x0)));have hk3:Mem.keep (fun y=>y=b) M2 M3:=hM3▸Yad _ _ rfl
 rw[←hM3] at hS3;erw [←hM3];have hx0:ze (zt es (o,e) x0) (o,e)=some x0:=by rw[zbL,if_pos rfl]
 have hE3:=hS3.ents _ (zG hx0);refine zK hE3.self ?_;refine zU ?_;refine(zAk hE3.more.src (by grind) hso0 c).mono ?_;rintro v _ ⟨i,ff,rfl,hi,hlo,hhi,rfl⟩;dsimp only at hi hlo hhi;have hinsC:=zyN c x0.more i hi hlo hhi
 refine zK hE3.self ?_;refine zU ?_;refine new (fun vb hvb=>?_);replace hvb:M3 vb=none:=hvb;have hle4:M3.le (M3.setCells vb 3 [.int .i64 c]):=Yw hvb
 have hhv:(M3.setCells vb 3 [.int .i64 c]).has vb 3 [.int .i64 c]:=Yg;obtain⟨M4,hM4⟩:=oI (M3.setCells vb 3 [.int .i64 c]);rw[←hM4] at hle4 hhv;erw [←hM4];have hE4:=hE3.le hle4
 refine zU ?_
 refine(zGG (vc:=1) Tryz.laysIns (by kernel_rfl) (M:=M4) (a:=x0.a) (c:=x0.c) (l:=x0.more) hE4.more oM i hi hhv fun q hq e=>by
  obtain⟨cs,hh⟩:=hE3.more.block hq;have e:q.block=vb:=e
  rw[e] at hh;unfold Mem.has at hh;rw[hvb] at hh;cases hh).mono ?_
 rintro v M5 ⟨a',c',rfl,hrow5,hk5,hblk5⟩;rw[hinsC] at hrow5;replace hrow5:RowI M5 a' c' (zdE c x0.more):=hrow5
 have hnr:¬blk x0.a x0.r:=fun ⟨q,hq,e⟩=>by
  obtain⟨cs,hh⟩:=hE3.more.block hq;rw[e] at hh;exact absurd (hh.inj hE3.self).1 oD
 have hself5:M5.has x0.r 350 [.int .i64 x0.up,.slice x0.a x0.more.length x0.c]:=hk5 _ _ hnr hE4.self;refine zR ?_;refine on hself5.cells ?_;refine ob (Yd 2) ?_;have hcap:(zdE c x0.more).length=x0.more.length+1:=zqP c x0.more
 have hnr5:¬blk a' x0.r:=fun ⟨q,hq,e⟩=>by
  rcases hblk5 q hq with h6|h6
  ·simp_all
  ·have h7:=hE4.self;unfold Mem.has at h7;rw[e] at h6;rw[h6] at h7;cases h7
 obtain⟨M6,hM6⟩:=oI (M5.setCells x0.r 350 [.int .i64 x0.up,.slice a' (zdE c x0.more).length c'])
 have hE6:EntAt M6 ⟨x0.r,a',c',x0.up,zdE c x0.more⟩:=by
  refine⟨hM6▸Yg,hrow5.mono fun q o' hq ho=>?_⟩;rw[hM6];unfold Mem.setCells;rw[Yh _ _ fun e=>hnr5 ⟨q,hq,e⟩];exact ho
 have hk6:Mem.keep x0.own M3 M6:=Yac (Ybt hle4) (Yac (Mem.keep_mono hk5 fun y hy => .inr hy) (hM6▸fun y o' hy ho=>by
  unfold Mem.setCells
  rw[Yh _ _ fun e=>hy (.inl e)];exact ho))
 have hown6:∀ y,Ent.own ⟨x0.r,a',c',x0.up,zdE c x0.more⟩ y→x0.own y∨M3 y=none:=fun y hy=>by
  rcases hy with e|⟨q,hq,e⟩
  ·exact .inl (.inl e)
  ·rcases hblk5 q hq with h6|h6
   ·exact .inl (.inr (e▸h6))
   ·right;rw[e] at h6;cases hM:M3 y with
    | none=>rfl
    | some z=>rw[hle4 _ _ hM] at h6;cases h6
 rw[hcap] at hM6;erw [←hM6];have hup:=zrX hgd (o,e)
 rw[←hup0] at hup;have hadd:normC x0.up (zdE c x0.more)=zfu es o e c:=by rw[zfu,hup0,hmore0]
 refine zak (σ:=Mem×Ent) [] (fun _=>[]) (fun _=>[.live 33 [.v (.int .i64 o),.v (.int .i64 d),.v (.int .i64 e),.v (.int .i64 c)],.gone vb]) (fun y=>y.1)
  (fun|⟨Mc,x⟩=>Mem.keep x0.own M3 Mc∧EntAt Mc x∧x.r=x0.r∧(∀ y,x.own y→x0.own y∨M3 y=none)∧normC x.up x.more=zfu es o e c∧0≤x.up∧x.up+x.more.length≤5000000) (fun y=>y.2.more.length) ⟨M6,⟨x0.r,a',c',x0.up,zdE c x0.more⟩⟩
  ⟨hk6,hE6,rfl,hown6,hadd,hup.1,by grind⟩ zS ?_
 rintro ⟨Mc,x⟩ ⟨hkC,hEC,hrC,hownC,hnC,hu0,hu1⟩;have hselfC:=hEC.self
 rw[hrC] at hselfC;refine zK hselfC ?_;refine brn (fun g1=>?_) (fun g1=>?_)
 ·obtain⟨y,r,hxm⟩:∃ y r,x.more=y::r:=by
   cases hxm:x.more with
   | nil=>simp_all
   | cons y r=>simp
  have hxl:x.more.length=r.length+1:=by rw[hxm];rfl
  obtain⟨_,bb,oo,hba,hrow0⟩:=hEC.more.src.at (i:=0) oM;have hy0:x.more[0]'oM=y:=by simp[hxm]
  rw[hy0] at hrow0;refine on (hselfC.c1 rfl) ?_;refine ob ⟨Yae _,by omega⟩ ?_;refine atp hba ?_;refine on hrow0 ?_;refine on (hselfC.c1 rfl) ?_;refine obr (inR_i64 oM) ?_;refine brn (fun g2=>?_) (fun g2=>?_)
  ·have hy:y=x.up+1:=Zd0 g2;refine zQ hselfC ?_;refine on hselfC.cells ?_;refine ob (Yc3 1) ?_;obtain⟨M7,hM7⟩:=oI (Mc.setCells x0.r 350 [.int .i64 (x.up+1),.slice x.a x.more.length x.c]);have hself7:M7.has x0.r 350 [.int .i64 (x.up+1),.slice x.a x.more.length x.c]:=hM7▸Yg
   erw [←hM7];refine zR ?_;refine on (hself7.c1 rfl) ?_;refine on (hself7.c1 rfl) ?_;refine on (hself7.c1 rfl) ?_;refine ob ⟨by decide,by omega,by omega,by have:=hEC.more.1.1;omega⟩ ?_;refine zU ?_;refine on hself7.cells ?_;refine ob (Yd 2) ?_;have e1:((x.more.length:Int)).toNat - (1:Int).toNat=r.length:=by omega
   have e2:((x.more.length:Int)).toNat=r.length+1:=by omega
   have e3:(1:Int).toNat=1:=rfl;obtain⟨hpop,hpb⟩:=RowI.pop (hxm▸hEC.more);obtain⟨M8,hM8⟩:=oI (M7.setCells x0.r 350 [.int .i64 (x.up+1),.slice (subA x.a (1:Int).toNat ((x.more.length:Int)).toNat 1) (((x.more.length:Int)).toNat - (1:Int).toNat) (((x.more.length:Int)).toNat - (1:Int).toNat)])
   have hself8:M8.has x0.r 350 [.int .i64 (x.up+1),.slice (subA x.a 1 (r.length+1) 1) r.length r.length]:=by
    have:M8.has x0.r 350 _:=hM8▸Yg;rw[e1,e2,e3] at this;exact this
   have hk8:Mem.keep (fun z=>z=x0.r) Mc M8:=fun z oo' hz ho=>by
    rw[hM8,hM7];unfold Mem.setCells;rw[Yh _ _ hz,Yh _ _ hz];exact ho
   have hblkr:∀ q,x.a=some q→q.block≠x0.r:=fun q hq e=>by
    obtain⟨cs,hh⟩:=hEC.more.block hq;rw[e] at hh;exact absurd (hh.inj hselfC).1 oD
   refine⟨⟨M8,⟨x0.r,subA x.a 1 (r.length+1) 1,r.length,x.up+1,r⟩⟩,⟨Yac hkC (Mem.keep_mono hk8 fun z hz => .inl hz),⟨hself8,hpop.mono fun q o' hq ho=>?_⟩,rfl,fun z hz=>?_,?_,by grind,by grind⟩,by simp_all,?_⟩
   ·obtain⟨q',hq',eb⟩:=hpb q hq;exact hk8 _ _ (fun e=>hblkr q' hq' (eb.trans e)) ho
   ·rcases hz with e|⟨q,hq,e⟩
    ·exact .inl (.inl e)
    ·obtain⟨q',hq',eb⟩:=hpb q hq;exact hownC z (.inr ⟨q',hq',eb.trans e⟩)
   ·rw[←hnC,hxm];simp only[normC,if_pos hy]
   ·rw[hM8];exact zS
  ·have hfin:normC x.up x.more=(x.up,x.more):=by
    have:¬y=x.up+1:=Zd1 g2;rw[hxm];simp only[normC,if_neg this]
   refine zR ?_;have hS:=hS3.turn hx0 hkC hEC hrC hownC
   rw[zod] at hS;refine⟨by rw[hz],.inr ⟨hz,fun y o' hy ho=>?_,x,hS,?_,fun y hy=>?_⟩⟩
   ·have hM2:M2 y=some o':=hle2 _ _ (hle1 _ _ ho);have hM3:=hk3 y o' (fun e=>hy (.inr (.inl e))) hM2
    refine hkC y o' (fun hxy=>?_) hM3;rcases hown0 y hxy with h8|h8
    ·exact hy h8
    ·simp_all
   ·simp_all
   ·rcases hownC y hy with h8|h8
    ·simp_all
    ·right;cases hM:M y with
     | none=>rfl
     | some z=>
      have hM2:M2 y=some z:=hle2 _ _ (hle1 _ _ hM);by_cases e:y=b
      ·subst e;obtain⟨l1,c1,hh,_⟩:=hS3.map;rw[hh] at h8;cases h8
      ·rw[hk3 y z e hM2] at h8;cases h8
 ·have hfin:normC x.up x.more=(x.up,x.more):=by
   have:x.more=[]:=Y8 (by simp_all);rw[this];rfl
  refine zR ?_;have hS:=hS3.turn hx0 hkC hEC hrC hownC
  rw[zod] at hS;refine⟨by rw[hz],.inr ⟨hz,fun y o' hy ho=>?_,x,hS,?_,fun y hy=>?_⟩⟩
  ·have hM2:M2 y=some o':=hle2 _ _ (hle1 _ _ ho);have hM3:=hk3 y o' (fun e=>hy (.inr (.inl e))) hM2
   refine hkC y o' (fun hxy=>?_) hM3;rcases hown0 y hxy with h8|h8
   ·exact hy h8
   ·simp_all
  ·simp_all
  ·rcases hownC y hy with h8|h8
   ·simp_all
   ·right;cases hM:M y with
    | none=>rfl
    | some z=>
     have hM2:M2 y=some z:=hle2 _ _ (hle1 _ _ hM);by_cases e:y=b
     ·subst e;obtain⟨l1,c1,hh,_⟩:=hS3.map;rw[hh] at h8;cases h8
     ·rw[hk3 y z e hM2] at h8;cases h8
end
section
@[reducible] def idV (o d e c:Int):Value := .agg #[.int .i64 o,.int .i64 d,.int .i64 e,.int .i64 c]
structure IdT where
 o:Int
 d:Int
 e:Int
 c:Int
deriving DecidableEq
end
section
variable {M:Mem}
structure K where
 o:Int
 e:Int
 c:Int
deriving DecidableEq,Inhabited
@[reducible] def zKM (k:K):List Value:=[.int .i64 k.o,.int .i64 k.e,.int .i64 k.c]
def zFU (a b:K):Bool:=if a.o≠b.o then decide (a.o<b.o) else if a.e≠b.e then decide (a.e<b.e) else decide (a.c<b.c)
def putK (k:K):List K→List K
 | []=>[k]
 | x::r=>if zFU k x then k::x::r else x::putK k r
end
section
variable {M:Mem}
def zjZ (x y:Int):Int:=if x<y then -1 else if y<x then 1 else 0
theorem zIz (x y:Int):CallsM prog 291 [.int .i64 x,.int .i64 y] M fun v M'=>v = .int .i64 (zjZ x y)∧M=M':=by
 refine zob oS ?_;refine zN (zqO x) ?_;refine zN (zqO y) ?_;refine brn (fun h=>?_) (fun h=>?_)
 ·refine zR ?_;exact⟨by simp[zjZ,Zd0 h],rfl⟩
 ·have h1:=Zd1 h;refine brn (fun g=>?_) (fun g=>?_)
  ·refine zR ?_;exact⟨by simp[zjZ,h1,Zd0 g],rfl⟩
  ·refine zR ?_;have g1:=Zd1 g
   refine⟨?_,rfl⟩;unfold zjZ;rw[if_neg h1,if_neg g1]
def zlg:List Int→List Int→Int
 | [],[]=>0
 | [],_::_ => -1
 | _::_,[]=>1
 | x::r,y::s=>if zjZ x y≠0 then zjZ x y else zlg r s
theorem zAl {a b:Option Addr} {n m c d:Nat} {X Y:List Int} (hx:SrcOk M 1 a n (X.map zi)) (hy:SrcOk M 1 b m (Y.map zi)) (hn:n≤4194304) (hm:m≤4194304) :
  CallsM prog 224 [.slice a n c,.slice b m d] M fun v M'=>v = .int .i64 (zlg X Y)∧M=M':=by
 refine zji oS ?_;have hX:=hx.maplen
 have hY:=hy.maplen;refine zem [11] (fun (i:Nat)=>[(11,.int .i64 i)]) (fun i=>i≤n∧i≤m∧zlg X Y=zlg (X.drop i) (Y.drop i)) (fun i=>n - i) 0 ⟨by omega,by omega,rfl⟩ zS ?_;rintro i ⟨hi,hj,he⟩;refine brn (fun h=>?_) (fun h=>?_)
 ·have hlt:i<n:=by have:=Zd0 h;omega
  obtain⟨h1,b1,o1,rfl,hrow1⟩:=hx.at (i:=i) hlt;refine ob oM ?_;refine on hrow1 ?_;refine brn (fun g=>?_) (fun g=>?_)
  ·have hge:m≤i:=by have:=Zd0 g;omega
   refine zR ?_;refine⟨?_,rfl⟩;rw[he,Y2 h1,Yaf (l:=Y) oM];rfl
  ·have hlt2:i<m:=by have:=Zd1 g;omega
   obtain⟨h2,b2,o2,rfl,hrow2⟩:=hy.at (i:=i) hlt2;refine ob oM ?_;refine on hrow2 ?_;refine zJ (zIz _ _) ?_
   have he2:zlg X Y=if zjZ X[i] Y[i]≠0 then zjZ X[i] Y[i] else zlg (X.drop (i+1)) (Y.drop (i+1)):=by
    rw[he,Y2 h1,Y2 h2];rfl
   refine brn (fun k=>?_) (fun k=>?_)
   ·have hk:zjZ X[i] Y[i]≠0:=by simpa using k
    refine zR ?_;refine⟨?_,rfl⟩;rw[he2,if_pos hk]
   ·have hk:¬zjZ X[i] Y[i]≠0:=by simpa using k
    refine zP ?_;refine⟨i+1,⟨by omega,by omega,?_⟩,by omega,zS⟩;rw[he2,if_neg hk]
 ·have hge:n≤i:=by have:=Zd1 h;omega
  have hdx:X.drop i=[]:=Yaf oM;refine brn (fun g=>?_) (fun g=>?_)
  ·have hlt2:i<m:=by have:=Zd0 g;omega
   refine zR ?_;refine⟨?_,rfl⟩;rw[he,hdx,Y2 (l:=Y) oM];rfl
  ·have hge2:m≤i:=by have:=Zd1 g;omega
   refine zR ?_;refine⟨?_,rfl⟩;rw[he,hdx,Yaf (l:=Y) oM];rfl
structure MkC where
 o:Int
 e:Int
 up:Int
 a:Option Addr
 c:Nat
 more:List Int
deriving Inhabited
@[reducible] def zok (m:MkC):List Value:=[.int .i64 m.o,.int .i64 m.e,.int .i64 m.up,.slice m.a m.more.length m.c]
theorem zwd (m:MkC):(zok m).length=4:=rfl
def zqQ (x y:MkC):Int:=zlg [x.o,x.e] [y.o,y.e]
theorem zGJ (x y:MkC):CallsM prog 223 [.agg (zok x).toArray,.agg (zok y).toArray] M fun v _=>v = .int .i64 (zqQ x y):=by
 refine znu oS ?_;refine zR ?_;refine new (fun b1 hb1=>?_);replace hb1:M b1=none:=hb1;refine zR ?_;refine new (fun b2 hb2=>?_);replace hb2:(M.setCells b1 3 [.int .i64 x.o,.int .i64 x.e]) b2=none:=hb2;refine zR ?_;refine(zAl (X:=[x.o,x.e]) (Y:=[y.o,y.e]) ?_ ?_ (by omega) (by omega)).mono ?_
 ·exact((Yg (M:=M)).src rfl).le (Yw hb2)
 ·exact Mem.has_setCells.src rfl
 rintro v _ ⟨rfl,rfl⟩;refine zR ?_;rfl
theorem zyO (x y:MkC):zqQ x y<0↔x.o<y.o∨(x.o=y.o∧x.e<y.e):=by
 unfold zqQ zlg zlg zlg zjZ
 repeat' split
 all_goals omega
theorem zEc:Go.Sort.SWO (Go.Proofs.ltOf zqQ):=by
 have h:∀ x y:MkC,Go.Proofs.ltOf zqQ x y=decide (x.o<y.o∨(x.o=y.o∧x.e<y.e)):=fun x y=>by
  unfold Go.Proofs.ltOf;simp only[zyO]
 refine⟨fun x=>?_,fun x y z=>?_,fun x y z=>?_⟩<;>simp only[h,decide_eq_true_eq,decide_eq_false_iff_not]<;>omega
end
section
variable {M:Mem} {p b:Nat} {gaps:Int} {es:List ((Int×Int)×Ent)}
structure Mk where
 o:Int
 e:Int
 up:Int
 more:List Int
deriving DecidableEq
def MkC.mk' (m:MkC):Mk:=⟨m.o,m.e,m.up,m.more⟩
def zfv (q:(Int×Int)×Ent):Mk:=⟨q.1.1,q.1.2,q.2.up,q.2.more⟩
structure MarksAt (M0:Mem) (a:Option Addr) (n c:Nat) (l:List MkC) (M':Mem):Prop where
 row:NewSl M0 84 4 a n c (l.flatMap zok) M'
 more:∀ m∈l,NewSl M0 3 1 m.a m.more.length m.c (m.more.map zi) M'
theorem MarksAt.len {M0 M':Mem} {a:Option Addr} {n c:Nat} {l:List MkC} (h:MarksAt M0 a n c l M'):l.length=n:=h.row.src.flen zwd oD
theorem zEd (x:MkC):∀ v∈zok x,v.oneCell'=true:=by
 intro v hv;simp only[zok,Yp,Yco,or_false] at hv;rcases hv with rfl|rfl|rfl|rfl<;>rfl
theorem zEe (h:SetAt M p b gaps es) (hg:zaD es≤4194304) (hn:es.length≤4194000):CallsM prog 145 [ptr p] M fun v M'=>
  ∃ a n c l,v = .slice a n c∧MarksAt M a n c l M'∧(l.map MkC.mk').Perm (es.map zfv)∧l.Pairwise (fun x y=>¬zqQ y x<0):=by
 refine zpl oS ?_;refine brn_f rfl ?_;refine zK h.self ?_;refine h.map.range fun q bi hbi hI=>?_
 replace hbi:M bi=none:=hbi
 refine zak (σ:=Mem×(Option Addr×Nat×Nat)×List MkC×List ((Int×Int)×Ent)) [3] (fun x=>[(3,.slice x.2.1.1 x.2.1.2.1 x.2.1.2.2)]) (fun _=>[]) (fun x=>x.1)
  (fun|⟨M1,(a,n,c),l,todo⟩=>MarksAt M a n c l M1∧Iter keyV zoj M1 bi b es todo∧(l.map MkC.mk'++todo.map zfv).Perm (es.map zfv)) (fun x=>x.2.2.2.length) ⟨_,(none,0,0),[],es⟩
  ⟨⟨(Yaw M _ _).up (Ya8 hbi),by simp⟩,hI,.refl _⟩ zS ?_
 rintro ⟨M1,⟨a,n,c⟩,l,todo⟩ ⟨hMk,hI1,hperm⟩;refine hI1.next (fun h0=>?_) (fun i k todo' o' hperm2 hI2 hent=>?_)
 ·subst h0;refine zR ?_;have hlen:=hMk.len
  refine(zqN Tryz.laysF (by kernel_rfl) (k:=4) oD isAgg84 sizeOf84 zwd zEd zEc (g:=223) (fun args w=>zhn (by kernel_rfl) args w) (fun x y=>zGJ x y) hMk.row.wr (by have:=hperm.length_eq;simp at this;omega)).mono ?_;rintro v M5 ⟨rfl,l',hp',hs',hw',hk'⟩;refine⟨a,n,c,l',rfl,⟨hMk.row.ofWr hw' hk' rfl,fun m hm=>(hMk.more m (hp'.mem_iff.1 hm)).keep hk' (fun y ⟨q,hq,e⟩=>e▸(hMk.row.block hq).1) fun q hq ⟨q',hq',e⟩=>?_⟩,?_,hs'⟩
  ·exact hMk.row.ne (hMk.more m (hp'.mem_iff.1 hm)) oD hq' hq e
  ·grind
 ·have hk2:Mem.keep (fun y=>y=bi) M1 (M1.upd bi o'):=Yad _ _ rfl
  have hle2:M.le (M1.upd bi o'):=fun y o hb=>by
   rw[Yh _ _ (fun e=>by simp_all)];exact hMk.row.le _ _ hb
  have hMk2:MarksAt M a n c l (M1.upd bi o'):=⟨hMk.row.keep hk2 (fun y e=>e▸hbi) (fun q hq e=>by
    obtain⟨_,cs,hh⟩:=hMk.row.block hq
    exact(hI1.nb hh).1 e),fun m hm=>(hMk.more m hm).keep hk2 (fun y e=>e▸hbi) (fun q hq e=>by
    obtain⟨_,cs,hh⟩:=(hMk.more m hm).block hq
    exact(hI1.nb hh).1 e)⟩
  obtain⟨M2,hM2⟩:=oI (M1.upd bi o');rw[←hM2] at hI2 hent hle2 hMk2;have hmem:(i,k)∈es:=hI1.todo_sub _ (hperm2.mem_iff.2 oS)
  have hke:=(h.le hle2).ents _ hmem;have hkl:k.more.length≤4194304:=Yz (zjY hmem) hg
  erw [←hM2];refine zR ?_;refine on hent ?_;refine zQ hke.self ?_;refine new (fun b1 hb1=>?_);replace hb1:M2 b1=none:=hb1;have hN1:NewSl M2 3 1 (some ⟨b1,0,none⟩) 0 0 (([]:List Int).map zi) _:=Ybc hb1 3 1 0 [] rfl
  obtain⟨M3,hM3⟩:=oI (M2.setCells b1 3 []);rw[←hM3] at hN1;erw [←hM3];refine zT (hN1.le) ?_;refine zb2 (hke.more.src.le hN1.le) ?_;refine zb8 M2 _ hN1 (by grind) (by dsimp only;simp[maxLen];omega) oC fun a5 c5 M4 hN4=>?_
  have hMk4:MarksAt M a n c l M4:=⟨hMk2.row.up hN4.le,fun m hm=>(hMk2.more m hm).up hN4.le⟩
  have hnew:NewSl M 3 1 a5 k.more.length c5 (k.more.map zi) M4:=by
   have:=hN4.mono hle2;simpa using this
  have hlen:=hMk.len;have hlt:l.length<es.length:=by have:=hperm.length_eq;have:=hperm2.length_eq;simp at *; omega
  refine zT (hN4.le) ?_;refine zvM M hMk4.row ⟨i.1,i.2,k.up,a5,c5,k.more⟩ oS (by grind) (by dsimp only;simp[maxLen];omega) oC fun a6 c6 M6 hN6 hk6=>?_
  have hfr:∀ y,blk a y→M y=none:=fun y ⟨q,hq,e⟩=>e▸(hMk4.row.block hq).1
  have hI4:=hI2.le hN4.le
  have hnb:∀ y,blk a y→y≠bi∧y≠b:=fun y ⟨q,hq,e⟩=>by
   obtain⟨_,cs,hh⟩:=hMk4.row.block hq;exact e▸hI4.nb hh
  have hI6:=hI4.keep hk6 (fun hb=>(hnb _ hb).1 rfl) (fun hb=>(hnb _ hb).2 rfl);refine⟨⟨M6,(a6,n+1,c6),l++[⟨i.1,i.2,k.up,a5,c5,k.more⟩],todo'⟩,⟨⟨hN6,fun m hm=>?_⟩,hI6,?_⟩,by have:=hperm2.length_eq;simp at this ⊢; omega,zS⟩
  ·rcases Yy.1 hm with hm|hm
   ·exact(hMk4.more m hm).keep hk6 hfr fun q hq ⟨q',hq',e⟩=>hMk4.row.ne (hMk4.more m hm) oD hq' hq e
   ·simp only[Y0] at hm;subst hm;exact hnew.keep hk6 hfr fun q hq ⟨q',hq',e⟩=>hMk4.row.ne hnew oD hq' hq e
  ·refine List.Perm.trans ?_ hperm;rw[Yv,Yr];refine Yc9 _ ?_;have:=hperm2.map zfv
   simpa[MkC.mk',zfv] using this.symm
end
section
variable {M:Mem}
structure zCk (M:Mem) (a:Option Addr) (n:Nat) (l:List MkC):Prop where
 row:SrcOk M 4 a n (l.flatMap zok)
 more:∀ m∈l,SrcOk M 1 m.a m.more.length (m.more.map zi)
theorem MarksAt.r {M0 M':Mem} {a:Option Addr} {n c:Nat} {l:List MkC} (h:MarksAt M0 a n c l M'):zCk M' a n l:=⟨h.row.src,fun m hm=>(h.more m hm).src⟩
def zKN (l:List MkC):Prop:=∀ m∈l,m.more.length≤4194304
end
end Go.Proofs.YtlgbofpennelhaaGreat
namespace Go.Proofs.YtlgbofpennelhaaGreat
open Go Go.Vm
section
def CanR (up:Int) (more:List Int):Prop:=0≤up∧more.Pairwise (· < ·)∧∀ c∈more,up+1<c
def inM (up:Int) (more:List Int) (c:Int):Prop:=(1≤c∧c≤up)∨c∈more
theorem zmw {α:Type} {R:α→α→Prop} (irr:∀ x,¬R x x) (asym:∀ x y,R x y→¬R y x):∀ {l l':List α},l.Pairwise R→l'.Pairwise R→(∀ x,x∈l↔x∈l')→l=l'
 | [],[],_,_,_=>rfl
 | [],y::s,_,_,h=>absurd ((h y).2 oS) oS
 | x::r,[],_,_,h=>absurd ((h x).1 oS) oS
 | x::r,y::s,h1,h2,h=>by
  obtain⟨h3,h4⟩:=Yx.1 h1;obtain⟨h5,h6⟩:=Yx.1 h2
  have hxy:x=y:=by
   rcases Yp.1 ((h x).1 oS) with e|e
   ·exact e
   ·rcases Yp.1 ((h y).2 oS) with e'|e'
    ·simp_all
    ·grind
  subst hxy;rw[zmw irr asym h4 h6 fun z=>?_];constructor
  ·grind
  ·grind
theorem CanR.up_le {up up':Int} {more more':List Int} (h':CanR up' more') (he:∀ c,inM up more c↔inM up' more' c):up≤up':=by
 apply Ybe;intro hn;have h1:inM up' more' (up'+1):=(he _).1 (.inl ⟨by have:=h'.1;omega,by omega⟩)
 rcases h1 with h1|h1
 ·omega
 ·have:=h'.2.2 _ h1;omega
theorem CanR.uniq {up up':Int} {more more':List Int} (h:CanR up more) (h':CanR up' more') (he:∀ c,inM up more c↔inM up' more' c):up=up'∧more=more':=by
 have e:up=up':=Yd8 (CanR.up_le h' he) (CanR.up_le h fun c=>(he c).symm);subst e;refine⟨rfl,zmw (R:=(· < ·)) (fun x=>by omega) (fun x y=>by omega) h.2.1 h'.2.1 fun c=>⟨fun hc=>?_,fun hc=>?_⟩⟩
 ·have h1:=h.2.2 c hc;rcases(he c).1 (.inr hc) with h2|h2
  ·omega
  ·exact h2
 ·have h1:=h'.2.2 c hc;rcases(he c).2 (.inr hc) with h2|h2
  ·omega
  ·exact h2
def zey (x y:Mk):Prop:=x.o<y.o∨(x.o=y.o∧x.e<y.e)
theorem zmx:∀ {l:List Mk},l.Pairwise zey→∀ {x y:Mk},x∈l→y∈l→x.o=y.o→x.e=y.e→x=y
 | [],_,x,y,hx,_,_,_=>by cases hx
 | z::r,h,x,y,hx,hy,h1,h2=>by
  obtain⟨h3,h4⟩:=Yx.1 h;rcases Yp.1 hx with e|e
  ·rcases Yp.1 hy with e'|e'
   ·rw[e,e']
   ·subst e;have:=h3 y e';unfold zey at this;omega
  ·rcases Yp.1 hy with e'|e'
   ·subst e';have:=h3 x e;unfold zey at this;omega
   ·exact zmx h4 e e' h1 h2
structure Canon (S:Int→Int→Int→Prop) (l:List Mk):Prop where
 sorted:l.Pairwise zey
 can:∀ m∈l,CanR m.up m.more∧(0<m.up∨m.more≠[])
 mem:∀ o e c,S o e c↔∃ m∈l,m.o=o∧m.e=e∧inM m.up m.more c
theorem CanR.some {up:Int} {more:List Int} (h:0<up∨more≠[]):∃ c,inM up more c:=by
 rcases h with h|h
 ·exact⟨up,.inl ⟨by omega,Yae _⟩⟩
 ·obtain⟨x,r,rfl⟩:=List.exists_cons_of_ne_nil h;exact⟨x,.inr oS⟩
theorem Canon.sub {S:Int→Int→Int→Prop} {l l':List Mk} (h:Canon S l) (h':Canon S l') {m:Mk} (hm:m∈l):m∈l':=by
 obtain⟨h1,h2⟩:=h.can m hm;obtain⟨c0,hc0⟩:=CanR.some h2;obtain⟨m',hm',e1,e2, -⟩:=(h'.mem _ _ _).1 ((h.mem _ _ _).2 ⟨m,hm,rfl,rfl,hc0⟩)
 have he:∀ c,inM m.up m.more c↔inM m'.up m'.more c:=fun c=>by
  constructor
  ·intro hc;obtain⟨m2,hm2,e3,e4,hc2⟩:=(h'.mem _ _ _).1 ((h.mem _ _ _).2 ⟨m,hm,rfl,rfl,hc⟩);rw[zmx h'.sorted hm' hm2 oM oM];exact hc2
  ·intro hc;obtain⟨m2,hm2,e3,e4,hc2⟩:=(h.mem _ _ _).1 ((h'.mem _ _ _).2 ⟨m',hm',rfl,rfl,hc⟩);rw[zmx h.sorted hm hm2 oM oM];exact hc2
 obtain⟨e3,e4⟩:=h1.uniq (h'.can m' hm').1 he
 have:m=m':=by
  obtain⟨a,b,c,d⟩:=m;obtain⟨a',b',c',d'⟩:=m';simp only at e1 e2 e3 e4;rw[e1,e2,e3,e4]
 rw[this];exact hm'
theorem Canon.uniq {S:Int→Int→Int→Prop} {l l':List Mk} (h:Canon S l) (h':Canon S l'):l=l':=
 zmw (R:=zey) (fun x=>by unfold zey;omega) (fun x y=>by unfold zey;omega) h.sorted h'.sorted fun _=>⟨fun hm=>h.sub h' hm,fun hm=>h'.sub h hm⟩
theorem zmy (c:Int):∀ (l:List Int) (x:Int),x∈zdE c l↔x=c∨x∈l
 | [],x=>by simp[zdE]
 | y::r,x=>by
  simp only[zdE];split
  ·simp only[Yp,zmy c r x];constructor
   ·grind
   ·grind
  ·simp
theorem zqa (c:Int):∀ (l:List Int),l.Pairwise (· < ·)→c∉l→(zdE c l).Pairwise (· < ·)
 | [],_,_=>by simp[zdE]
 | y::r,h,hn=>by
  obtain⟨h1,h2⟩:=Yx.1 h;simp only[Yp,not_or] at hn;simp only[zdE];split
  ·refine Yx.2 ⟨fun z hz=>?_,zqa c r h2 hn.2⟩;rcases(zmy c r z).1 hz with e|e
   ·omega
   ·exact h1 z e
  ·refine Yx.2 ⟨fun z hz=>?_,h⟩;rcases Yp.1 hz with e|e
   ·omega
   ·grind
theorem zqR:∀ (l:List Int) (up:Int),0≤up→l.Pairwise (· < ·)→(∀ x∈l,up<x)→CanR (normC up l).1 (normC up l).2∧(∀ c,inM (normC up l).1 (normC up l).2 c↔inM up l c)∧(normC up l).2.length≤l.length
 | [],up,h0,_,_=>by simp[normC,CanR,h0]
 | y::r,up,h0,h1,h2=>by
  obtain⟨h3,h4⟩:=Yx.1 h1;simp only[normC];split
  ·rename_i e;obtain⟨i1,i2,i3⟩:=zqR r (up+1) oM h4 (fun x hx=>by simp_all);refine⟨i1,fun c=>(i2 c).trans ?_,by simp;omega⟩;unfold inM;simp only[Yp];constructor
   ·grind
   ·grind
  ·rename_i e;refine⟨⟨h0,h1,fun x hx=>?_⟩,fun c => .rfl,by simp⟩;have hy:=h2 y oS
   rcases Yp.1 hx with e'|e'
   ·omega
   ·grind
theorem zCl (up:Int) (r:List Int) (h0:0≤up) (h:((up+1)::r).Pairwise (· < ·)):(normC up ((up+1)::r)).2.length≤r.length:=by
 obtain⟨h3,h4⟩:=Yx.1 h;simp only[normC,if_true];exact(zqR r (up+1) oM h4 h3).2.2
end
section
abbrev EsT:=List ((Int×Int)×Ent)
def inE (es:EsT) (o e c:Int):Prop:=inM (zca es (o,e)) (zbw es (o,e)) c
def zwe (o e:Int):Prop:=0≤o∧o≤63∧1≤e∧e≤65535
structure InvE (es:EsT):Prop where
 nodup:(es.map (·.1)).Nodup
 can:∀ q∈es,CanR q.2.up q.2.more∧(0<q.2.up∨q.2.more≠[])
 range:∀ q∈es,zwe q.1.1 q.1.2∧∀ c,inM q.2.up q.2.more c→c≤65535
theorem InvE.nil:InvE []:=⟨by simp,by simp,by simp⟩
theorem InvE.good {es:EsT} (h:InvE es):zvb es:=fun q hq=>by
 obtain⟨h1,_⟩:=h.can q hq;have h0:=h1.1
 refine⟨h0,?_⟩;by_cases e:q.2.up=0
 ·omega
 ·exact(h.range q hq).2 _ (.inl ⟨by omega,Yae _⟩)
theorem InvE.sorted {es:EsT} (h:InvE es):∀ q∈es,q.2.more.Pairwise (· < ·):=fun q hq=>(h.can q hq).1.2.1
theorem zs6 {es:EsT} (h:InvE es) (o e c:Int):inE es o e c↔∃ q∈es,q.1.1=o∧q.1.2=e∧inM q.2.up q.2.more c:=by
 unfold inE zca zbw;cases hx:ze es (o,e) with
 | none=>
  refine⟨fun hc=>?_,fun ⟨q,hq,e1,e2,_⟩=>?_⟩
  ·simp only[inM,Yco,or_false] at hc;omega
  ·have:=aget_none.1 hx;exact absurd (Yj.2 ⟨q,hq,by grind⟩) this
 | some x=>
  refine⟨fun hc=>⟨((o,e),x),zG hx,rfl,rfl,hc⟩,fun ⟨q,hq,e1,e2,hc⟩=>?_⟩;have:ze es (o,e)=some q.2:=zbK h.nodup (by grind)
  rw[hx] at this;cases this;exact hc
theorem zGK {es:EsT} (h:InvE es) (k:Int×Int):CanR (zca es k) (zbw es k):=by
 unfold zca zbw;cases hx:ze es k with
 | none=>simp[CanR]
 | some x=>exact(h.can _ (zG hx)).1
theorem zxS {es:EsT} (h:InvE es) {l:List MkC} (hp:(l.map MkC.mk').Perm (es.map zfv)) (hs:l.Pairwise (fun x y=>¬zqQ y x<0)):Canon (inE es) (l.map MkC.mk'):=by
 have hkeys:((l.map MkC.mk').map fun m=>(m.o,m.e)).Nodup:=by
  rw[(hp.map _).nodup_iff,Ya4];exact h.nodup
 refine⟨?_,fun m hm=>?_,fun o e c=>?_⟩
 ·rw[Ya4,List.Nodup,Ybd] at hkeys;rw[Ybd];refine(hs.and hkeys).imp fun {x y} ⟨h1,h2⟩=>?_
  rw[zyO] at h1;have h3:¬(x.o=y.o∧x.e=y.e):=fun ⟨e1,e2⟩=>h2 (by simp[MkC.mk',e1,e2])
  show x.o<y.o∨(x.o=y.o∧x.e<y.e)
  omega
 ·obtain⟨q,hq,rfl⟩:=Yj.1 (hp.mem_iff.1 hm);exact h.can q hq
 ·rw[zs6 h];constructor
  ·rintro ⟨q,hq,e1,e2,hc⟩;exact⟨zfv q,hp.mem_iff.2 (Yj.2 ⟨q,hq,rfl⟩),e1,e2,hc⟩
  ·rintro ⟨m,hm,e1,e2,hc⟩;obtain⟨q,hq,rfl⟩:=Yj.1 (hp.mem_iff.1 hm);exact⟨q,hq,e1,e2,hc⟩
theorem zwf:∀ (es:EsT) (k:Int×Int) (x x0:Ent),ze es k=some x0→zaD (zbX es k x)+x0.more.length=zaD es+x.more.length
 | [],k,x,x0,h=>by simp[ze] at h
 | (k1,y)::r,k,x,x0,h=>by
  simp only[ze] at h;by_cases e:k1=k
  ·subst e;simp only[if_true,Y3] at h;subst h;simp only[zbX,if_true,zaD,Yq,Ybb];omega
  ·rw[if_neg e] at h;have ih:=zwf r k x x0 h
   simp only[zbX,if_neg e,zaD,Yq,Ybb] at ih ⊢;omega
theorem zCm (es:EsT) (k:Int×Int) (x:Ent):zaD (zt es k x)+(zbw es k).length=zaD es+x.more.length:=by
 unfold zbw zt;cases hx:ze es k with
 | none=>simp[zaD]
 | some x0=>exact zwf es k x x0 hx
theorem zmz {es:EsT} (hn:(es.map (·.1)).Nodup) {k:Int×Int} {x:Ent} {q:(Int×Int)×Ent} (hq:q∈zt es k x):q=(k,x)∨(q∈es∧q.1≠k):=by
 unfold zt at hq;cases hx:ze es k with
 | none=>
  rw[hx] at hq;rcases Yy.1 hq with h|h
  ·refine .inr ⟨h,fun e=>aget_none.1 hx (Yj.2 ⟨q,h,e⟩)⟩
  ·simp_all
 | some x0=>
  rw[hx] at hq;obtain⟨u,v,h1,h2,h3,h4⟩:=zmi hn hx x;rw[h2] at hq;rcases Yy.1 hq with h|h
  ·grind
  ·grind
theorem zmA {o d e c:Int} (h:idErr o d e c=0):zwe o e∧1≤c∧c≤65535:=by
 unfold idErr at h;split at h
 ·unfold zwe;omega
 ·omega
theorem zEf {es:EsT} {o d e c:Int} (h:idErr o d e c=0):zft es o d e c=true↔inE es o e c:=by
 obtain⟨_,h1,_⟩:=zmA h;simp only[zft,h,decide_true,Bool.true_and,Ydl,decide_eq_true_eq,inE,inM];constructor
 ·simp_all
 ·simp_all
theorem zt2 {gaps:Int} {es:EsT} {o d e c:Int} (h:mayE gaps es o d e c=0):idErr o d e c=0∧¬inE es o e c∧(c=zca es (o,e)+1∨(zaD es:Int)<gaps):=by
 have hid:idErr o d e c=0:=by
  apply Ybe;intro hn;simp[mayE,hn] at h
 refine⟨hid,fun hi=>?_,?_⟩
 ·have:=(zEf hid).2 hi;simp[mayE,hid,this] at h
 ·by_cases e1:c=zca es (o,e)+1
  ·omega
  ·right;by_cases e2:gaps≤(zaD es:Int)
   ·by_cases hh:zft es o d e c=true<;>simp[mayE,hid,e1,e2,hh] at h
   ·omega
theorem zGL {gaps:Int} {es:EsT} (h:InvE es) {o d e c:Int} (hz:mayE gaps es o d e c=0) {x:Ent} (hx:(x.up,x.more)=zfu es o e c) :
  InvE (zt es (o,e) x)∧(∀ o' e' c',inE (zt es (o,e) x) o' e' c'↔(o'=o∧e'=e∧c'=c)∨inE es o' e' c')∧((zaD es:Int)≤gaps→(zaD (zt es (o,e) x):Int)≤gaps)∧zaD (zt es (o,e) x)≤zaD es+1:=by
 obtain⟨hid,hni,hroom⟩:=zt2 hz;obtain⟨hrk,hc1,hc2⟩:=zmA hid;have hcan:=zGK h (o,e)
 obtain⟨h0,h1,h2⟩:=hcan
 have hni':¬c≤zca es (o,e)∧c∉zbw es (o,e):=by
  unfold inE inM at hni;exact⟨fun hh=>hni (.inl ⟨hc1,hh⟩),fun hh=>hni (.inr hh)⟩
 have hso:=zqa c _ h1 hni'.2
 have hab:∀ y∈zdE c (zbw es (o,e)),zca es (o,e)<y:=fun y hy=>by
  rcases(zmy c _ y).1 hy with e1|e1
  ·omega
  ·grind
 obtain⟨n1,n2,n3⟩:=zqR _ _ h0 hso hab;have hup:x.up=(zfu es o e c).1:=congrArg Prod.fst hx
 have hmo:x.more=(zfu es o e c).2:=congrArg Prod.snd hx;unfold zfu at hup hmo;rw[←hup,←hmo] at n1 n2;rw[←hmo] at n3;rw[zqP] at n3
 have hin:∀ c',inM x.up x.more c'↔c'=c∨inE es o e c':=fun c'=>by
  rw[n2];unfold inE inM;rw[zmy];constructor
  ·grind
  ·grind
 have hg:=zCm es (o,e) x;refine⟨⟨zf6 h.nodup _ _,fun q hq=>?_,fun q hq=>?_⟩,fun o' e' c'=>?_,fun hle=>?_,by omega⟩
 ·rcases zmz h.nodup hq with rfl|⟨hq,_⟩
  ·refine⟨n1,?_⟩;by_cases e1:x.more=[]
   ·left;rcases(hin c).2 (.inl rfl) with h5|h5
    ·grind
    ·simp_all
   ·simp_all
  ·exact h.can q hq
 ·rcases zmz h.nodup hq with rfl|⟨hq,_⟩
  ·refine⟨hrk,fun c' hc'=>?_⟩;rcases(hin c').1 hc' with e1|e1
   ·omega
   ·obtain⟨q,hq,_,_,hm⟩:=(zs6 h _ _ _).1 e1;exact(h.range q hq).2 _ hm
  ·exact h.range q hq
 ·unfold inE zca zbw;rw[zbL];by_cases e1:(o',e')=(o,e)
  ·rw[if_pos e1];obtain⟨rfl,rfl⟩:=Yci .. ▸ e1;dsimp only;rw[hin];unfold inE zca zbw;simp
  ·grind
 ·rcases hroom with e1|e1
  ·have hins:zdE c (zbw es (o,e))=c::zbw es (o,e):=by
    cases hm:zbw es (o,e) with
    | nil=>rfl
    | cons y r=>
     simp only[zdE];rw[if_neg];have:=h2 y (by simp_all)
     omega
   rw[hins,e1] at hmo hso;have:=zCl _ _ h0 hso
   rw[←hmo] at this;omega
  ·omega
end
end Go.Proofs.YtlgbofpennelhaaGreat
namespace Go.Proofs.YtlgbofpennelhaaGreat
open Go Go.Vm
attribute [local irreducible] Brn Ob Grow CallsM inR zI zF Mem.row Mem.cells Mem.setCells Mem.upd Go.Vm.Own zZ zaj zam zO New SrcOk subA NewSl Mem.textAt Mem.mapAt Mem.iterAt zC zB Wr NewEls Elems
set_option maxRecDepth 10000
section
variable {M M0:Mem} {p b:Nat} {gaps:Int} {es:EsT}
structure FreshS (M0 M:Mem) (p b:Nat) (gaps:Int) (es:EsT):Prop where
 le:M0.le M
 at':SetAt M p b gaps es
 inv:InvE es
 room:(zaD es:Int)≤gaps∧gaps≤256
 fresh:∀ y,setB p b es y→M0 y=none
theorem FreshS.few (h:FreshS M0 M p b gaps es):zaD es≤256:=by have:=h.room;omega
theorem FreshS.to (h:FreshS M0 M p b gaps es) {M':Mem} (hle:M.le M'):FreshS M0 M' p b gaps es:=⟨Yc h.le hle,h.at'.le hle,h.inv,h.room,h.fresh⟩
theorem FreshS.some (h:FreshS M0 M p b gaps es) {y:Nat} (hy:setB p b es y):M y≠none:=by
 rcases hy with rfl|rfl|⟨q,hq,hy⟩
 ·have:=h.at'.self;unfold Mem.has at this;rw[this];simp
 ·obtain⟨l,c,hh,_⟩:=h.at'.map;rw[hh];simp
 ·exact(h.at'.ents q hq).some hy
theorem newS (gaps:Int):CallsM Tryz.prog 146 [.int .i64 gaps] M fun v M'=>
  ((gaps<0∨256<gaps)∧v = .tuple #[.pointer none,.int .i64 1]∧M'=M) ∨
  (¬(gaps<0∨256<gaps)∧∃ p b,v = .tuple #[ptr p,.int .i64 0]∧FreshS M M' p b gaps []):=
 (zIw gaps).mono fun v M' h=>by
  rcases h with h|⟨h1,p,b,h2,h3,h4,h5,h6⟩
  ·exact .inl h
  ·refine .inr ⟨h1,p,b,h2,h5,h6,InvE.nil,⟨by simp[zaD];omega,by omega⟩,fun y hy=>?_⟩;rcases hy with rfl|rfl|⟨q,hq,_⟩
   ·exact h3
   ·exact h4
   ·cases hq
def zAm (gaps:Int) (es es':EsT) (o d e c:Int):Prop:=(mayE gaps es o d e c≠0∧es'=es)∨(mayE gaps es o d e c=0∧∃ x:Ent,es'=zt es (o,e) x∧(x.up,x.more)=zfu es o e c)
theorem zKO (h:FreshS M0 M p b gaps es) (o d e c:Int):CallsM Tryz.prog 211 [ptr p,idV o d e c] M fun v M'=>
  ∃ es',v = .int .i64 (mayE gaps es o d e c)∧FreshS M0 M' p b gaps es'∧zAm gaps es es' o d e c:=
 (zIy h.at' (by have:=h.few;omega) h.inv.good h.inv.sorted o d e c).mono fun v M' hv=>by
  obtain⟨rfl,⟨hn,hle⟩|⟨hz,hk,x,h1,hx,hown⟩⟩:=hv
  ·exact⟨es,rfl,h.to hle,.inl ⟨hn,rfl⟩⟩
  ·obtain⟨i1,i2,i3,i4⟩:=zGL h.inv hz hx;refine⟨zt es (o,e) x,rfl,⟨hk.le h.le h.fresh,h1,i1,⟨i3 h.room.1,h.room.2⟩,fun y hy=>?_⟩,.inr ⟨hz,x,rfl,hx⟩⟩
   have lo:∀ y,M y=none→M0 y=none:=fun y hy=>by
    cases e1:M0 y with
    | none=>rfl
    | some z=>rw[h.le _ _ e1] at hy;cases hy
   rcases hy with rfl|rfl|⟨q,hq,hy⟩
   ·exact h.fresh _ (.inl rfl)
   ·exact h.fresh _ (.inr (.inl rfl))
   ·rcases zmz h.inv.nodup hq with rfl|⟨hq,_⟩
    ·rcases hown y hy with h2|h2
     ·exact h.fresh _ h2
     ·simp_all
    ·exact h.fresh _ (.inr (.inr ⟨q,hq,hy⟩))
end
section
variable {M:Mem}
structure zLu (M0:Mem) (a:Option Addr) (c:Nat) (l:List MkC) (M':Mem):Prop where
 row:NewSl M0 84 4 a l.length c (l.flatMap zok) M'
 more:∀ m∈l,NewSl M0 3 1 m.a m.more.length m.c (m.more.map zi) M'
 apart:l.Pairwise fun x y=>∀ z,blk x.a z→¬blk y.a z
end
end Go.Proofs.YtlgbofpennelhaaGreat
namespace Go.Proofs.YtlgbofpennelhaaGreat
open Go Go.Vm
section
def zKP (L:List K) (o e c:Int):Prop:=(⟨o,e,c⟩:K)∈L
def zJE (L:List K):Prop:=L.Pairwise (fun a b=>zFU a b=true)∧∀ k∈L,1≤k.c
end
section
structure zKQ (es:EsT) (L:List K):Prop where
 inv:InvE es
 sort:zJE L
 same:∀ o e c,inE es o e c↔zKP L o e c
end
end Go.Proofs.YtlgbofpennelhaaGreat
namespace Go.Proofs.YtlgbofpennelhaaGreat
open Go Go.Vm Go.Proofs.Tryz
attribute [local irreducible] Brn Ob Grow CallsM inR zI zF Mem.row Mem.cells Mem.setCells Mem.upd Go.Vm.Own zZ zaj zam zO New SrcOk subA NewSl Mem.textAt Mem.mapAt Mem.iterAt zC zB Wr NewEls Elems
set_option maxRecDepth 10000
section
structure zcF where
 id:IdT
 p:List UInt8
deriving DecidableEq
structure StR where
 self:Int
 qh:Int
 qb:Int
 qg:Int
 epoch:Int
 used:List Int
 l:List zcF
structure EvD where
 kind:Int
 id:IdT
 p:List UInt8
@[reducible] def zer (i:IdT):Int:=idErr i.o i.d i.e i.c
@[reducible] def zeT (i:IdT) (n:Nat):Int:=msgErr i.o i.d i.e i.c n
def zhz (i:IdT):Prop:=i.o=0∧i.d=0∧i.e=0∧i.c=0
instance (i:IdT):Decidable (zhz i):=by unfold zhz;infer_instance
def zba (k:Int) (i:IdT) (n:Nat):Int:=
 if k=1 then (if ¬zhz i∨0<n then 2 else 0)
 else if k=2 then zeT i n
 else if k=3∨k=4 then (if zer i≠0 then zer i else if 0<n then 2 else 0)
 else 1
def zn (l:List zcF):Nat:=(l.map fun m=>m.p.length).sum
def zfQ (l:List zcF) (i:IdT):Bool:=l.any fun m=>decide (m.id=i)
def za2 (S:StR) (set:IdT→Int) (k:Int) (i:IdT) (n:Nat):Int:=
 if zba k i n≠0 then zba k i n
 else if k=1 then (if S.epoch=65535 then 10 else 0)
 else if k=2 then (if i.d=S.self∨(i.o=S.self∧S.epoch<i.e) then 2 else if zfQ S.l i then 5 else if S.qh≤S.l.length∨S.qb<zn S.l+n then 6 else 0)
 else if k=3 then (if zfQ S.l i then 0 else 4)
 else (if i.d≠S.self then 2 else set i)
def zdt (S:StR) (d:Int):Int:=S.used.getD d.toNat 0
def zai (S:StR) (k:Int) (i:IdT) (p:List UInt8):StR:=
 if k=1 then { S with epoch:=S.epoch+1,used:=List.replicate 64 0 }
 else if k=2 then { S with l:=S.l++[⟨i,p⟩],used:=if i.o=S.self∧i.e=S.epoch then S.used.set i.d.toNat (max (zdt S i.d) i.c) else S.used }
 else if k=3 then { S with l:=S.l.filter fun m=>decide (m.id≠i) }
 else S
structure zlh (S:StR):Prop where
 self:0≤S.self∧S.self≤63
 epoch:0≤S.epoch∧S.epoch≤65535
 ulen:S.used.length=64
 used:∀ n∈S.used,0≤n∧n≤65535
 qh:(S.l.length:Int)≤S.qh∧S.qh≤2097152
 qb:(zn S.l:Int)≤S.qb∧S.qb≤134217728
 msgs:∀ m∈S.l,zeT m.id m.p.length=0∧m.id.d≠S.self∧(m.id.o=S.self→m.id.e≤S.epoch)
 nodup:(S.l.map (·.id)).Nodup
structure PX where
 id:IdT
 a:Option Addr
 c:Nat
 p:List UInt8
 n:Int
@[reducible] def PX.msg (x:PX):zcF:=⟨x.id,x.p⟩
abbrev HsT:=List (IdT×PX)
@[reducible] def idA (i:IdT):Value := .agg #[.int .i64 i.o,.int .i64 i.d,.int .i64 i.e,.int .i64 i.c]
@[reducible] def pxV (x:PX):Value := .agg #[.int .i64 x.id.o,.int .i64 x.id.d,.int .i64 x.id.e,.int .i64 x.id.c,.slice x.a x.p.length x.c,.int .i64 x.n]
theorem idK:zeE idA:=by
 intro a b;obtain⟨a1,a2,a3,a4⟩:=a;obtain⟨b1,b2,b3,b4⟩:=b;simp only[zeD,zbM,if_true,IdT.mk.injEq]
 (grind)<;>simp_all
@[reducible] def zaq (S:StR) (b:Nat) (came:Int) (bytes:Int) (sp:Nat):List Value:=
 [.int .i64 S.self,.int .i64 S.qh,.int .i64 S.qb,.int .i64 S.qg,.int .i64 S.epoch]++S.used.map zi++[.map (some b),.int .i64 came,.int .i64 bytes,ptr sp]
structure StAt (M:Mem) (p b sp sb:Nat) (S:StR) (came:Int) (xs:HsT) (es:EsT):Prop where
 self:M.has p 258 (zaq S b came (zn S.l) sp)
 map:MapAt idA pxV M b xs
 data:∀ q∈xs,Wr M 5 1 q.2.a q.2.p.length q.2.c (q.2.p.map zc)
 set:SetAt M sp sb S.qg es
 held:xs.map (fun q=>q.2.msg)=S.l
 keys:∀ q∈xs,q.2.id=q.1
 ord:xs.Pairwise fun x y=>x.2.n<y.2.n
 came:0≤came∧∀ q∈xs,0≤q.2.n∧q.2.n<came
 ne:b≠sb
def stB (p b sp sb:Nat) (xs:HsT) (es:EsT):Nat→Prop:=fun y=>y=p∨y=b∨(∃ q∈xs,blk q.2.a y)∨setB sp sb es y
variable {M:Mem} {p b sp sb:Nat} {S:StR} {came:Int} {xs:HsT} {es:EsT}
theorem SetAt.mono {M':Mem} {gaps:Int} (h:SetAt M sp sb gaps es) (hk:∀ y o,setB sp sb es y→M y=some o→M' y=some o):SetAt M' sp sb gaps es:=
 ⟨hk _ _ (.inl rfl) h.self,h.map.mono fun o ho=>hk _ _ (.inr (.inl rfl)) ho,fun q hq=>(h.ents q hq).mono fun y o hy ho=>hk y o (.inr (.inr ⟨q,hq,hy⟩)) ho,h.apart⟩
theorem StAt.mono {M':Mem} (h:StAt M p b sp sb S came xs es) (hk:∀ y o,stB p b sp sb xs es y→M y=some o→M' y=some o):StAt M' p b sp sb S came xs es:=
 ⟨hk _ _ (.inl rfl) h.self,h.map.mono fun o ho=>hk _ _ (.inr (.inl rfl)) ho,fun q hq=>(h.data q hq).mono fun y o hy ho=>hk _ o (.inr (.inr (.inl ⟨q,hq,_,hy,rfl⟩))) ho,h.set.mono fun y o hy ho=>hk y o (.inr (.inr (.inr hy))) ho,h.held,h.keys,h.ord,h.came,h.ne⟩
theorem StAt.le {M':Mem} (h:StAt M p b sp sb S came xs es) (hle:M.le M'):StAt M' p b sp sb S came xs es:=h.mono fun y o _=>hle y o
theorem zia (hu:S.used.length=64) (b:Nat) (came bytes:Int) (sp:Nat):(zaq S b came bytes sp).length=73:=by simp[hu]
theorem zfR (hu:S.used.length=64) (b:Nat) (came bytes:Int) (sp:Nat):(zaq S b came bytes sp)[69]? = some (.map (some b)):=by
 simp[hu]
theorem zt4 (hu:S.used.length=64) (b:Nat) (came bytes:Int) (sp:Nat):(zaq S b came bytes sp)[70]? = some (.int .i64 came):=by
 simp[hu]
theorem zjq (hu:S.used.length=64) (b:Nat) (came bytes:Int) (sp:Nat):(zaq S b came bytes sp)[71]? = some (.int .i64 bytes):=by
 simp[hu]
theorem zj0 (hu:S.used.length=64) (b:Nat) (came bytes:Int) (sp:Nat):(zaq S b came bytes sp)[72]? = some (ptr sp):=by
 simp[hu]
theorem zt5 (hu:S.used.length=64) (b:Nat) (came bytes:Int) (sp:Nat) {d:Nat} (hd:d<64):(zaq S b came bytes sp)[5+d]? = some (.int .i64 (S.used.getD d 0)):=by
 have h:d<S.used.length:=by omega
 rw[Nat.add_comm 5 d];simp[List.getElem?_append,h]
end
section
variable {M:Mem} {p b sp sb:Nat} {S:StR} {came:Int} {xs:HsT} {es:EsT}
theorem zol (n most:Int):CallsM prog 128 [.int .i64 n,.int .i64 most] M fun v M'=>v = .bool (decide (0≤n∧n≤most))∧M=M':=by
 refine zxC oS ?_;refine brn (fun h=>?_) (fun h=>?_)
 all_goals (conv=>whnf)
 ·simp_all
 ·grind
theorem zyP (k:Int) (i:IdT) (a:Option Addr) (n c:Nat):CallsM prog 199 [.agg #[.int .i64 k,.int .i64 i.o,.int .i64 i.d,.int .i64 i.e,.int .i64 i.c,.slice a n c]] M fun v M'=>v = .int .i64 (zba k i n)∧M=M':=by
 refine zuL oS ?_;refine brn (fun h=>?_) (fun h=>?_)
 ·have h':k=1:=Zd0 h;subst h';refine zR ?_;refine brn (fun g=>?_) (fun g=>?_)
  ·have g1:¬zhz i:=by unfold zhz;simp at g;omega
   refine zR ?_;exact⟨by unfold zba;rw[if_pos rfl,if_pos (.inl g1)],rfl⟩
  have g1:zhz i:=by unfold zhz;simp at g;omega
  refine brn (fun g2=>?_) (fun g2=>?_)
  ·have g3:0<n:=by have:=Zd0 g2;omega
   refine zR ?_;exact⟨by unfold zba;rw[if_pos rfl,if_pos (.inr g3)],rfl⟩
  ·have g3:¬0<n:=by have:=Zd1 g2;omega
   refine zR ?_;exact⟨by unfold zba;rw[if_pos rfl,if_neg (by simp_all)],rfl⟩
 refine brn (fun h2=>?_) (fun h2=>?_)
 ·have h':k=2:=Zd0 h2;subst h';refine zN (zin _ _ _ _ _ _ _ _) ?_;exact⟨rfl,rfl⟩
 have e1:¬k=1:=Zd1 h;have e2:¬k=2:=Zd1 h2
 refine brn (fun h3=>?_) (fun h3=>?_)
 ·have e3:k=3:=Zd0 h3;refine brn_t h3 ?_;refine zR ?_;refine zJ (zfc _ _ _ _ _) ?_;refine brn (fun g=>?_) (fun g=>?_)
  ·have g':¬zer i=0:=by simpa using g
   refine zR ?_;exact⟨by unfold zba;rw[if_neg e1,if_neg e2,if_pos oM,if_pos g'],rfl⟩
  have g':zer i=0:=by simpa using g
  refine brn (fun g2=>?_) (fun g2=>?_)
  ·have g3:0<n:=by have:=Zd0 g2;omega
   refine zR ?_;exact⟨by unfold zba;rw[if_neg e1,if_neg e2,if_pos oM,if_neg (by simp[g']),if_pos g3],rfl⟩
  ·have g3:¬0<n:=by have:=Zd1 g2;omega
   refine zR ?_;exact⟨by unfold zba;rw[if_neg e1,if_neg e2,if_pos oM,if_neg (by simp[g']),if_neg g3],rfl⟩
 have e3:¬k=3:=Zd1 h3;refine brn (fun h4=>?_) (fun h4=>?_)
 ·have e4:k=4:=Zd0 h4;refine zR ?_;refine zJ (zfc _ _ _ _ _) ?_;refine brn (fun g=>?_) (fun g=>?_)
  ·have g':¬zer i=0:=by simpa using g
   refine zR ?_;exact⟨by unfold zba;rw[if_neg e1,if_neg e2,if_pos oM,if_pos g'],rfl⟩
  have g':zer i=0:=by simpa using g
  refine brn (fun g2=>?_) (fun g2=>?_)
  ·have g3:0<n:=by have:=Zd0 g2;omega
   refine zR ?_;exact⟨by unfold zba;rw[if_neg e1,if_neg e2,if_pos oM,if_neg (by simp[g']),if_pos g3],rfl⟩
  ·have g3:¬0<n:=by have:=Zd1 g2;omega
   refine zR ?_;exact⟨by unfold zba;rw[if_neg e1,if_neg e2,if_pos oM,if_neg (by simp[g']),if_neg g3],rfl⟩
 ·have e4:¬k=4:=Zd1 h4;refine zR ?_;exact⟨by unfold zba;rw[if_neg e1,if_neg e2,if_neg oM],rfl⟩
structure FreshSt (M0 M:Mem) (p b sp sb:Nat) (S:StR) (came:Int) (xs:HsT) (es:EsT):Prop where
 le:M0.le M
 at':StAt M p b sp sb S came xs es
 inv:zlh S
 invE:InvE es
 room:(zaD es:Int)≤S.qg∧S.qg≤256
 fresh:∀ y,stB p b sp sb xs es y→M0 y=none
def zcN (self qh qb qg:Int):Prop:=¬(0≤self∧self≤63)∨¬(0≤qh∧qh≤256)∨¬(0≤qb∧qb≤1048576)∨¬(0≤qg∧qg≤256)
def zli (self qh qb qg:Int):StR:=⟨self,qh,qb,qg,0,List.replicate 64 0,[]⟩
theorem zEg {self qh qb qg:Int} (h:¬zcN self qh qb qg):zlh (zli self qh qb qg):=by
 unfold zcN at h;refine⟨?_,?_,?_,?_,?_,?_,?_,?_⟩<;>simp[zli,zn]<;>omega
theorem zEh (self qh qb qg:Int):CallsM prog 79 [.int .i64 self,.agg #[.int .i64 qh,.int .i64 qb,.int .i64 qg]] M fun v M'=>
  (zcN self qh qb qg∧v = .tuple #[.pointer none,.int .i64 1]∧M=M') ∨
  (¬zcN self qh qb qg∧∃ p b sp sb,v = .tuple #[ptr p,.int .i64 0]∧FreshSt M M' p b sp sb (zli self qh qb qg) 0 [] []):=by
 refine zvE oS ?_;refine zJ (zol _ _) ?_;refine brn (fun g=>?_) (fun g=>?_)
 ·(conv=>whnf);refine zR ?_;exact .inl ⟨by unfold zcN;simp only[Yah,decide_eq_false_iff_not] at *; omega,rfl,rfl⟩
 refine zJ (zol _ _) ?_;refine brn (fun g1=>?_) (fun g1=>?_)
 ·(conv=>whnf);refine zR ?_;exact .inl ⟨by unfold zcN;simp only[Yah,decide_eq_false_iff_not] at *; omega,rfl,rfl⟩
 refine zJ (zol _ _) ?_;refine brn (fun g2=>?_) (fun g2=>?_)
 ·(conv=>whnf);refine zR ?_;exact .inl ⟨by unfold zcN;simp only[Yah,decide_eq_false_iff_not] at *; omega,rfl,rfl⟩
 refine zJ (zol _ _) ?_;refine brn (fun g3=>?_) (fun g3=>?_)
 ·(conv=>whnf);refine zR ?_;exact .inl ⟨by unfold zcN;simp only[Yah,decide_eq_false_iff_not] at *; omega,rfl,rfl⟩
 have hn:¬zcN self qh qb qg:=by
  unfold zcN;simp only[Ybq,decide_eq_true_eq] at *;omega
 refine zM (newS qg) ?_;rintro v M1 (⟨h, -⟩|⟨-, sp,sb,rfl,h1⟩)
 ·grind
 refine zR ?_;refine new (fun b hb=>?_);replace hb:M1 b=none:=hb;refine new (fun p hp=>?_);replace hp:(M1.upd b (.map #[] 0)) p=none:=hp;have hne:p≠b:=fun e=>by subst e;rw[Yam] at hp;cases hp
 rw[Yh _ _ hne] at hp;refine .inr ⟨hn,p,b,sp,sb,rfl,?_⟩;have hq:M1.le (M1.upd b (.map #[] 0)):=Ya8 hb
 have hp':(M1.upd b (.map #[] 0)) p=none:=by rw[Yh _ _ hne];exact hp
 have hq2:(M1.upd b (.map #[] 0)).le ((M1.upd b (.map #[] 0)).setCells p 258 (zaq (zli self qh qb qg) b 0 0 sp)):=Yw hp';have hsl:=h1.at'.le (Yc hq hq2)
 have hnb:b≠sb:=fun e=>by
  subst e;obtain⟨l,c,hh,_⟩:=h1.at'.map;rw[hh] at hb;cases hb
 have lo:∀ y,M1 y=none→M y=none:=fun y hy=>by
  cases e:M y with
  | none=>rfl
  | some o=>rw[h1.le y o e] at hy;cases hy
 refine⟨Yc h1.le (Yc hq hq2),⟨Yg,(Ydq M1 b).mono fun o ho=>hq2 _ _ ho,by simp,hsl,rfl,by simp,by simp,by simp,hnb⟩,zEg hn,InvE.nil,h1.room,fun y hy=>?_⟩;rcases hy with rfl|rfl|⟨q,hq,_⟩|hy
 ·simp_all
 ·simp_all
 ·cases hq
 ·exact h1.fresh y hy
end
section
variable {M:Mem} {p b sp sb:Nat} {S:StR} {came:Int} {xs:HsT} {es:EsT}
def zaW (S:StR) (d:Int):IdT×Int:=
 if S.epoch=0 then (⟨0,0,0,0⟩,7) else if ¬(0≤d∧d≤63) then (⟨0,0,0,0⟩,1) else if d=S.self then (⟨0,0,0,0⟩,2)
 else if zdt S d=65535 then (⟨0,0,0,0⟩,10) else (⟨S.self,d,S.epoch,zdt S d+1⟩,0)
theorem zqb (hI:zlh S) (d:Int):0≤zdt S d∧zdt S d≤65535:=by
 unfold zdt;rw[Ys];cases h:S.used[d.toNat]? with
 | none=>simp
 | some x=>exact hI.used x (Yao h)
theorem zEi (h:StAt M p b sp sb S came xs es) (hI:zlh S) (d:Int):CallsM prog 69 [ptr p,.int .i64 d] M fun v M'=>
  v = .tuple #[idA (zaW S d).1,.int .i64 (zaW S d).2]∧M=M':=by
 refine zl2 oS ?_;have hr:=zqb hI d
 refine zK h.self ?_;refine brn (fun g=>?_) (fun g=>?_)
 ·have g1:S.epoch=0:=Zd0 g;refine zR ?_;exact⟨by unfold zaW;rw[if_pos g1],rfl⟩
 have g1:¬S.epoch=0:=Zd1 g;refine zJ (zol _ _) ?_;refine brn (fun g2=>?_) (fun g2=>?_)
 ·have g3:¬(0≤d∧d≤63):=by simp at g2;omega
  refine zR ?_;exact⟨by unfold zaW;rw[if_neg g1,if_pos g3],rfl⟩
 have g3:0≤d∧d≤63:=by simpa using g2
 refine on (h.self.c1 rfl) ?_;refine brn (fun g4=>?_) (fun g4=>?_)
 ·have g5:d=S.self:=Zd0 g4;refine zR ?_;exact⟨by unfold zaW;rw[if_neg g1,if_neg oM,if_pos g5],rfl⟩
 have g5:¬d=S.self:=Zd1 g4;obtain⟨k,rfl⟩:∃ k:Nat,d=k:=⟨d.toNat,by omega⟩
 have hk:M.row p (0+0+5+((k:Int)).toNat*1) 1=some [.int .i64 (zdt S k)]:=by
  have:=h.self.c1 (zt5 hI.ulen b came (zn S.l) sp (d:=k) oM);rw[show 0+0+5+((k:Int)).toNat*1=5+k by omega];exact this
 refine ob oM ?_;refine on hk ?_;refine brn (fun g6=>?_) (fun g6=>?_)
 ·have g7:zdt S k=65535:=Zd0 g6;refine zR ?_;exact⟨by unfold zaW;rw[if_neg g1,if_neg oM,if_neg g5,if_pos g7],rfl⟩
 have g7:¬zdt S k=65535:=Zd1 g6;refine on (h.self.c1 rfl) ?_;refine on (h.self.c1 rfl) ?_;refine ob oM ?_;refine on hk ?_;(conv=>whnf);refine obr (inR_i64 (by omega)) ?_;refine zR ?_;exact⟨by unfold zaW;rw[if_neg g1,if_neg oM,if_neg g5,if_neg g7],rfl⟩
theorem zhe (h:StAt M p b sp sb S came xs es) (i:IdT):(ze xs i=none∧zfQ S.l i=false∧∀ m∈S.l,m.id≠i)∨(∃ x,ze xs i=some x∧x.id=i∧zfQ S.l i=true∧x.msg∈S.l):=by
 cases e:ze xs i with
 | none=>
  have hn:∀ m∈S.l,m.id≠i:=fun m hm he=>by
   rw[←h.held] at hm;obtain⟨q,hq,rfl⟩:=Yj.1 hm;exact aget_none.1 e (Yj.2 ⟨q,hq,by rw[←h.keys q hq];exact he⟩)
  refine .inl ⟨rfl,?_,hn⟩;unfold zfQ;rw[List.any_eq_false];intro m hm;simpa using hn m hm
 | some x=>
  have hm:=zG e;have hx:x.id=i:=h.keys _ hm
  have hl:x.msg∈S.l:=by rw[←h.held];exact Yj.2 ⟨_,hm,rfl⟩
  refine .inr ⟨x,rfl,hx,?_,hl⟩;unfold zfQ;rw[Yb7];exact⟨_,hl,by simp[hx]⟩
theorem zGM (h:StAt M p b sp sb S came xs es) (hI:zlh S) (i:IdT):CallsM prog 343 [ptr p,idA i] M fun v M'=>
  (v = .tuple #[.agg #[.int .i64 0,.int .i64 0,.int .i64 0,.int .i64 0,.slice none 0 0],.bool false]∧zfQ S.l i=false∧M=M') ∨
  (∃ a n c l,v = .tuple #[.agg #[.int .i64 i.o,.int .i64 i.d,.int .i64 i.e,.int .i64 i.c,.slice a n c],.bool true]∧zfQ S.l i=true∧⟨i,l⟩∈S.l∧NewSl M 5 1 a n c (l.map zc) M'):=by
 refine znz oS ?_;refine zR ?_;refine on (h.self.c1 (zfR hI.ulen ..)) ?_;refine h.map.get idK i (fun hn=>?_) (fun x j hx=>?_)
 ·rcases zhe h i with ⟨_,h0,_⟩|⟨x,hx,_⟩
  rotate_left
  ·rw[hn] at hx;cases hx
  refine zR ?_;exact .inl ⟨rfl,h0,rfl⟩
 ·rcases zhe h i with ⟨hn,_⟩|⟨x',hx',hxi,h0,hm⟩
  ·rw[hx] at hn;cases hn
  rw[hx] at hx';cases hx';have hd:=h.data _ (zG hx)
  have hpl:x.p.length≤48:=by
   have:zeT x.id x.p.length=0:=(hI.msgs _ hm).1;unfold zeT msgErr at this
   repeat' split at this
   all_goals omega
  refine zR ?_;refine new (fun b2 hb2=>?_);replace hb2:M b2=none:=hb2;have hN1:NewSl M 5 1 (some ⟨b2,0,none⟩) 0 0 (([]:List UInt8).map zc) _:=Ybc hb2 5 1 0 [] rfl
  obtain⟨M5,hM5⟩:=oI (M.setCells b2 5 []);rw[←hM5] at hN1;erw [←hM5];refine zT (hN1.le) ?_;refine zb2 (hd.src.le hN1.le) ?_;refine zb8 M _ hN1 (by omega) (by simp[maxLen];omega) (by simp[Value.oneCell',zc]) fun a5 c5 M6 hN6=>?_
  refine zT (hN6.le) ?_;refine zR ?_;exact .inr ⟨a5,_,c5,x.p,rfl,h0,by grind,by simpa using hN6⟩
end
section
variable {M M0:Mem} {p b sp sb:Nat} {S:StR} {came:Int} {xs:HsT} {es:EsT}
@[reducible] def zes (S:StR) (es:EsT) (i:IdT):Int:=mayE S.qg es i.o i.d i.e i.c
@[reducible] def evV (k:Int) (i:IdT) (a:Option Addr) (n c:Nat):Value := .agg #[.int .i64 k,.int .i64 i.o,.int .i64 i.d,.int .i64 i.e,.int .i64 i.c,.slice a n c]
theorem zwh (h:FreshSt M0 M p b sp sb S came xs es) (k:Int) (i:IdT) (a:Option Addr) (n c:Nat) (hn:n≤1048576):CallsM prog 129 [ptr p,evV k i a n c] M fun v M'=>
  v = .int .i64 (za2 S (zes S es) k i n)∧M.le M':=by
 refine zn1 oS ?_;have hI:=h.inv
 have hA:=h.at';have hqb:=hI.qb
 have hqh:=hI.qh;have hxl:xs.length=S.l.length:=by rw[←hA.held,Y9]
 refine zJ (zyP k i a n c) ?_;refine brn (fun g=>?_) (fun g=>?_)
 ·have g1:¬zba k i n=0:=by simpa using g
  refine zR ?_;exact⟨by unfold za2;rw[if_pos g1],Ya _⟩
 have g1:zba k i n=0:=by simpa using g
 have hk:k=1∨k=2∨k=3∨k=4:=by
  unfold zba at g1
  repeat' split at g1
  all_goals omega
 refine zR ?_;refine on (hA.self.c1 (zfR hI.ulen ..)) ?_;refine hA.map.get idK i (fun hn=>?_) (fun x j hx=>?_)
 ·rcases zhe hA i with ⟨_,h0,_⟩|⟨x,hx,_⟩
  rotate_left
  ·rw[hn] at hx;cases hx
  rcases hk with rfl|rfl|rfl|rfl
  ·refine zK hA.self ?_;refine brn (fun g2=>?_) (fun g2=>?_)
   ·have g3:S.epoch=65535:=Zd0 g2;refine zR ?_;exact⟨by unfold za2;rw[if_neg (by simp[g1]),if_pos rfl,if_pos g3],Ya _⟩
   ·have g3:¬S.epoch=65535:=Zd1 g2;refine zR ?_;exact⟨by unfold za2;rw[if_neg (by simp[g1]),if_pos rfl,if_neg g3],Ya _⟩
  ·refine zK hA.self ?_;refine brn (fun a1=>?_) (fun a1=>?_)
   ·have a2:i.d=S.self:=Zd0 a1;refine zR ?_;exact⟨by unfold za2;rw[if_neg (by simp[g1]),if_neg oD,if_pos rfl,if_pos (.inl a2)],Ya _⟩
   have a2:¬i.d=S.self:=Zd1 a1;refine on (hA.self.c1 rfl) ?_;refine brn (fun a3=>?_) (fun a3=>?_)
   ·have a4:i.o=S.self:=Zd0 a3;refine on (hA.self.c1 rfl) ?_;refine brn (fun a5=>?_) (fun a5=>?_)
    ·have a6:S.epoch<i.e:=Zd0 a5;refine brn_t a5 ?_;refine zR ?_;exact⟨by unfold za2;rw[if_neg (by simp[g1]),if_neg oD,if_pos rfl,if_pos (.inr ⟨a4,a6⟩)],Ya _⟩
    ·have a6:¬S.epoch<i.e:=Zd1 a5;have a7:¬(i.d=S.self∨(i.o=S.self∧S.epoch<i.e)):=by omega
     refine zR ?_;refine on (hA.self.c1 (zfR hI.ulen ..)) ?_;refine hA.map.len fun e2 c2 hsz=>?_
     refine on (hA.self.c1 rfl) ?_;refine brn (fun a8=>?_) (fun a8=>?_)
     ·have a9:S.qh≤S.l.length:=by have:=Zd0 a8;dsimp only at this;rw[hsz] at this;omega
      refine zR ?_;exact⟨by unfold za2;rw[if_neg (by simp[g1]),if_neg oD,if_pos rfl,if_neg a7,h0,if_neg oD,if_pos (.inl a9)],Ya _⟩
     have a9:¬S.qh≤S.l.length:=by have:=Zd1 a8;dsimp only at this;rw[hsz] at this;omega
     refine on (hA.self.c1 rfl) ?_;refine on (hA.self.c1 (zjq hI.ulen ..)) ?_;refine obr (inR_i64 oM) ?_;refine brn (fun b8=>?_) (fun b8=>?_)
     ·have b9:S.qb<zn S.l+n:=by have:=Zd0 b8;omega
      refine zR ?_;exact⟨by unfold za2;rw[if_neg (by simp[g1]),if_neg oD,if_pos rfl,if_neg a7,h0,if_neg oD,if_pos (.inr b9)],Ya _⟩
     have b9:¬S.qb<zn S.l+n:=by have:=Zd1 b8;omega
     refine zR ?_;exact⟨by unfold za2;rw[if_neg (by simp[g1]),if_neg oD,if_pos rfl,if_neg a7,h0,if_neg oD,if_neg oM],Ya _⟩
   ·have a4:¬i.o=S.self:=Zd1 a3;have a7:¬(i.d=S.self∨(i.o=S.self∧S.epoch<i.e)):=by omega
    refine zR ?_;refine on (hA.self.c1 (zfR hI.ulen ..)) ?_;refine hA.map.len fun e2 c2 hsz=>?_
    refine on (hA.self.c1 rfl) ?_;refine brn (fun a8=>?_) (fun a8=>?_)
    ·have a9:S.qh≤S.l.length:=by have:=Zd0 a8;dsimp only at this;rw[hsz] at this;omega
     refine zR ?_;exact⟨by unfold za2;rw[if_neg (by simp[g1]),if_neg oD,if_pos rfl,if_neg a7,h0,if_neg oD,if_pos (.inl a9)],Ya _⟩
    have a9:¬S.qh≤S.l.length:=by have:=Zd1 a8;dsimp only at this;rw[hsz] at this;omega
    refine on (hA.self.c1 rfl) ?_;refine on (hA.self.c1 (zjq hI.ulen ..)) ?_;refine obr (inR_i64 oM) ?_;refine brn (fun b8=>?_) (fun b8=>?_)
    ·have b9:S.qb<zn S.l+n:=by have:=Zd0 b8;omega
     refine zR ?_;exact⟨by unfold za2;rw[if_neg (by simp[g1]),if_neg oD,if_pos rfl,if_neg a7,h0,if_neg oD,if_pos (.inr b9)],Ya _⟩
    have b9:¬S.qb<zn S.l+n:=by have:=Zd1 b8;omega
    refine zR ?_;exact⟨by unfold za2;rw[if_neg (by simp[g1]),if_neg oD,if_pos rfl,if_neg a7,h0,if_neg oD,if_neg oM],Ya _⟩
  ·(conv=>whnf);refine zR ?_;exact⟨by unfold za2;rw[if_neg (by simp[g1]),if_neg oD,if_neg oD,if_pos rfl,h0];rfl,Ya _⟩
  ·refine zK hA.self ?_;refine brn (fun g2=>?_) (fun g2=>?_)
   ·have g3:i.d≠S.self:=by simpa using g2
    refine zR ?_;exact⟨by unfold za2;rw[if_neg (by simp[g1]),if_neg oD,if_neg oD,if_neg oD,if_pos g3],Ya _⟩
   ·have g3:¬i.d≠S.self:=by simpa using g2
    refine zR ?_;refine on (hA.self.c1 (zj0 hI.ulen ..)) ?_;refine zM (zwc hA.set (by have:=h.room;omega) h.invE.good i.o i.d i.e i.c) ?_;rintro v M1 ⟨rfl,h1⟩;refine zR ?_;exact⟨by unfold za2;rw[if_neg (by simp[g1]),if_neg oD,if_neg oD,if_neg oD,if_neg g3],h1⟩
 ·rcases zhe hA i with ⟨hn,_⟩|⟨x',hx',hxi,h0,hm⟩
  ·rw[hx] at hn;cases hn
  rcases hk with rfl|rfl|rfl|rfl
  ·refine zK hA.self ?_;refine brn (fun g2=>?_) (fun g2=>?_)
   ·have g3:S.epoch=65535:=Zd0 g2;refine zR ?_;exact⟨by unfold za2;rw[if_neg (by simp[g1]),if_pos rfl,if_pos g3],Ya _⟩
   ·have g3:¬S.epoch=65535:=Zd1 g2;refine zR ?_;exact⟨by unfold za2;rw[if_neg (by simp[g1]),if_pos rfl,if_neg g3],Ya _⟩
  ·refine zK hA.self ?_;refine brn (fun a1=>?_) (fun a1=>?_)
   ·have a2:i.d=S.self:=Zd0 a1;refine zR ?_;exact⟨by unfold za2;rw[if_neg (by simp[g1]),if_neg oD,if_pos rfl,if_pos (.inl a2)],Ya _⟩
   have a2:¬i.d=S.self:=Zd1 a1;refine on (hA.self.c1 rfl) ?_;refine brn (fun a3=>?_) (fun a3=>?_)
   ·have a4:i.o=S.self:=Zd0 a3;refine on (hA.self.c1 rfl) ?_;refine brn (fun a5=>?_) (fun a5=>?_)
    ·have a6:S.epoch<i.e:=Zd0 a5;refine brn_t a5 ?_;refine zR ?_;exact⟨by unfold za2;rw[if_neg (by simp[g1]),if_neg oD,if_pos rfl,if_pos (.inr ⟨a4,a6⟩)],Ya _⟩
    ·have a6:¬S.epoch<i.e:=Zd1 a5;have a7:¬(i.d=S.self∨(i.o=S.self∧S.epoch<i.e)):=by omega
     refine zR ?_;exact⟨by unfold za2;rw[if_neg (by simp[g1]),if_neg oD,if_pos rfl,if_neg a7,h0];rfl,Ya _⟩
   ·have a4:¬i.o=S.self:=Zd1 a3;have a7:¬(i.d=S.self∨(i.o=S.self∧S.epoch<i.e)):=by omega
    refine zR ?_;exact⟨by unfold za2;rw[if_neg (by simp[g1]),if_neg oD,if_pos rfl,if_neg a7,h0];rfl,Ya _⟩
  ·(conv=>whnf);refine zR ?_;exact⟨by unfold za2;rw[if_neg (by simp[g1]),if_neg oD,if_neg oD,if_pos rfl,h0];rfl,Ya _⟩
  ·refine zK hA.self ?_;refine brn (fun g2=>?_) (fun g2=>?_)
   ·have g3:i.d≠S.self:=by simpa using g2
    refine zR ?_;exact⟨by unfold za2;rw[if_neg (by simp[g1]),if_neg oD,if_neg oD,if_neg oD,if_pos g3],Ya _⟩
   ·have g3:¬i.d≠S.self:=by simpa using g2
    refine zR ?_;refine on (hA.self.c1 (zj0 hI.ulen ..)) ?_;refine zM (zwc hA.set (by have:=h.room;omega) h.invE.good i.o i.d i.e i.c) ?_;rintro v M1 ⟨rfl,h1⟩;refine zR ?_;exact⟨by unfold za2;rw[if_neg (by simp[g1]),if_neg oD,if_neg oD,if_neg oD,if_neg g3],h1⟩
end
end Go.Proofs.YtlgbofpennelhaaGreat
namespace Go.Proofs.YtlgbofpennelhaaGreat
open Go Go.Vm
variable {S:StR} {set:IdT→Int} {k:Int} {i:IdT} {p:List UInt8}
theorem zng (l r:List zcF):zn (l++r)=zn l+zn r:=by simp[zn]
theorem zuR (l:List zcF) (f:zcF→Bool):zn (l.filter f)≤zn l:=by
 induction l with
 | nil=>simp
 | cons x r ih=>
  simp only[Yb8];split
  ·simp only[zn,Yq,Ybb] at ih ⊢; omega
  ·simp only[zn,Yq,Ybb] at ih ⊢; omega
theorem zAn {l:List zcF} (h:zfQ l i=false):∀ m∈l,m.id≠i:=fun m hm=>by
 unfold zfQ at h;rw[List.any_eq_false] at h;simpa using h m hm
theorem zkE {a b c d:Int} (h:idErr a b c d=0):(0≤a∧a≤63)∧(0≤b∧b≤63)∧(1≤c∧c≤65535)∧(1≤d∧d≤65535)∧a≠b:=by
 unfold idErr at h
 repeat' split at h
 all_goals omega
theorem zdf {n:Nat} (h:zeT i n=0):zer i=0∧0<n∧n≤48:=by
 unfold zeT msgErr at h;unfold zer
 repeat' split at h
 all_goals omega
theorem zs7 (h:za2 S set 2 i p.length=0):zeT i p.length=0∧i.d≠S.self∧¬(i.o=S.self∧S.epoch<i.e)∧zfQ S.l i=false∧(S.l.length:Int)<S.qh∧(zn S.l:Int)+p.length≤S.qb:=by
 unfold za2 at h;split at h
 ·omega
 rename_i g;have g0:zba 2 i p.length=0:=by simpa using g
 rw[if_neg oD,if_pos rfl] at h;have g1:zeT i p.length=0:=by unfold zba at g0;rwa [if_neg oD,if_pos rfl] at g0
 split at h
 ·cases h
 rename_i g2;split at h
 ·cases h
 rename_i g3;split at h
 ·cases h
 rename_i g4;exact⟨g1,by omega,by omega,by simp_all,by omega,by omega⟩
theorem zAo (hI:zlh S) (hm:za2 S set k i p.length=0):zlh (zai S k i p):=by
 by_cases h1:k=1
 ·subst h1
  have he:S.epoch<65535:=by
   have:=hI.epoch;unfold za2 at hm;split at hm
   ·omega
   rw[if_pos rfl] at hm;split at hm
   ·cases hm
   ·omega
  have e:zai S 1 i p={ S with epoch:=S.epoch+1,used:=List.replicate 64 0 }:=by unfold zai;rw[if_pos rfl]
  rw[e];refine⟨hI.self,?_,by simp,?_,hI.qh,hI.qb,fun m h=>?_,hI.nodup⟩
  ·have:=hI.epoch;dsimp only;omega
  ·simp
  ·obtain⟨a,b,c⟩:=hI.msgs m h;exact⟨a,b,fun h=>by grind⟩
 by_cases h2:k=2
 ·subst h2;obtain⟨g1,g2,g3,g4,g5,g6⟩:=zs7 hm;obtain⟨u1,u2,u3⟩:=zdf g1;have hc:=(zmA u1).2
  have e:zai S 2 i p={ S with l:=S.l++[⟨i,p⟩],used:=if i.o=S.self∧i.e=S.epoch then S.used.set i.d.toNat (max (zdt S i.d) i.c) else S.used }:=by unfold zai;rw[if_neg oD,if_pos rfl]
  rw[e];refine⟨hI.self,hI.epoch,?_,?_,?_,?_,fun m h=>?_,?_⟩
  ·dsimp only;split
   ·rw[List.length_set];exact hI.ulen
   ·exact hI.ulen
  ·intro n hn;dsimp only at hn;split at hn
   ·rcases List.mem_or_eq_of_mem_set hn with h|h
    ·exact hI.used n h
    ·have:=zqb hI i.d;omega
   ·exact hI.used n hn
  ·have:=hI.qh;simp only[Yi,Ybv];omega
  ·have:=hI.qb;rw[zng];simp only[zn,Yq,Ybz,Ybb,List.sum_nil] at *; omega
  ·rcases Yy.1 h with h|h
   ·exact hI.msgs m h
   ·simp_all
  ·rw[Yv,Ydw];refine⟨hI.nodup,by simp,fun a ha b hb=>?_⟩;simp at hb;subst hb;obtain⟨m,hm,rfl⟩:=Yj.1 ha;exact zAn g4 m hm
 by_cases h3:k=3
 ·subst h3;have e:zai S 3 i p={ S with l:=S.l.filter fun m=>decide (m.id≠i) }:=by unfold zai;rw[if_neg oD,if_neg oD,if_pos rfl]
  rw[e];refine⟨hI.self,hI.epoch,hI.ulen,hI.used,?_,?_,fun m h=>hI.msgs m (Ya3.1 h).1,?_⟩
  ·have:=hI.qh;have h4:=Yat (fun m:zcF=>decide (m.id≠i)) S.l;dsimp only;omega
  ·have:=hI.qb;have h4:=zuR S.l (fun m:zcF=>decide (m.id≠i));dsimp only;omega
  ·exact hI.nodup.sublist (Ydz _ Ycl)
 ·have e:zai S k i p=S:=by unfold zai;rw[if_neg h1,if_neg h2,if_neg h3]
  rw[e];exact hI
end Go.Proofs.YtlgbofpennelhaaGreat
namespace Go.Proofs.YtlgbofpennelhaaGreat
open Go Go.Vm
attribute [local irreducible] Brn Ob Grow CallsM inR zI zF Mem.row Mem.cells Mem.setCells Mem.upd Go.Vm.Own zZ zaj zam zO New SrcOk subA NewSl Mem.textAt Mem.mapAt Mem.iterAt zC zB Wr NewEls Elems
set_option maxRecDepth 10000
variable {M M0:Mem} {p b sp sb:Nat} {S:StR} {came:Int} {xs:HsT} {es:EsT}
theorem StAt.pset (h:StAt M p b sp sb S came xs es):¬setB sp sb es p:=by
 rintro (e|e|⟨q,hq,hy⟩)
 ·have:=h.set.self;rw[←e] at this;exact absurd (this.inj h.self).1 oD
 ·exact h.set.map.nb h.self e
 ·have hE:=h.set.ents q hq;rcases hy with e|⟨a,ha,e⟩
  ·have:=hE.self;rw[←e] at this;exact absurd (this.inj h.self).1 oD
  ·obtain⟨cs,hh⟩:=hE.more.block ha;rw[e] at hh;exact absurd (hh.inj h.self).1 oD
theorem StAt.bset (h:StAt M p b sp sb S came xs es):¬setB sp sb es b:=by
 rintro (e|e|⟨q,hq,hy⟩)
 ·exact h.map.nb h.set.self e.symm
 ·exact h.ne e
 ·have hE:=h.set.ents q hq;rcases hy with e|⟨a,ha,e⟩
  ·exact h.map.nb hE.self e.symm
  ·obtain⟨cs,hh⟩:=hE.more.block ha;exact h.map.nb hh e
theorem StAt.dhas (h:StAt M p b sp sb S came xs es) {q:IdT×PX} (hq:q∈xs) {y:Nat} (hy:blk q.2.a y):∃ cs,M.has y 5 cs:=by
 obtain⟨a,ha,e⟩:=hy;obtain⟨cs,hh⟩:=(h.data q hq).block ha;exact⟨cs,e▸hh⟩
theorem StAt.dset (h:StAt M p b sp sb S came xs es) {q:IdT×PX} (hq:q∈xs) {y:Nat} (hy:blk q.2.a y):¬setB sp sb es y∧y≠p∧y≠b:=by
 obtain⟨cs,hc⟩:=h.dhas hq hy;refine⟨?_,fun e=>?_,h.map.nb hc⟩
 ·rintro (e|e|⟨q,hq,hy⟩)
  ·have:=h.set.self;rw[←e] at this;exact absurd (this.inj hc).1 oD
  ·exact h.set.map.nb hc e
  ·have hE:=h.set.ents q hq;rcases hy with e|⟨a,ha,e⟩
   ·have:=hE.self;rw[←e] at this;exact absurd (this.inj hc).1 oD
   ·obtain⟨cs,hh⟩:=hE.more.block ha;rw[e] at hh;exact absurd (hh.inj hc).1 oD
 ·subst e;exact absurd (h.self.inj hc).1 oD
theorem StAt.head {M':Mem} (h:StAt M p b sp sb S came xs es) {S':StR} {came':Int} (hk:Mem.keep (fun y=>y=p) M M') (hs:M'.has p 258 (zaq S' b came' (zn S'.l) sp)) (hl:S'.l=S.l) (hq:S'.qg=S.qg) (hc:came≤came'):StAt M' p b sp sb S' came' xs es:=by
 have hb:b≠p:=(h.map.nb h.self).symm;refine⟨hs,h.map.mono fun o ho=>hk b o hb ho,fun q hx=>(h.data q hx).mono fun a o ha ho=>hk _ o (h.dset hx ⟨a,ha,rfl⟩).2.1 ho,?_,hl▸h.held,h.keys,h.ord,⟨Int.le_trans h.came.1 hc,fun q hx=>⟨(h.came.2 q hx).1,Int.lt_of_lt_of_le (h.came.2 q hx).2 hc⟩⟩,h.ne⟩;rw[hq];exact h.set.mono fun y o hy ho=>hk y o (fun e=>h.pset (e▸hy)) ho
theorem StAt.turned {M':Mem} {es':EsT} (h:StAt M p b sp sb S came xs es) (hB:(M.minus (setB sp sb es)).le M') (hs:SetAt M' sp sb S.qg es'):StAt M' p b sp sb S came xs es':=by
 have keep:∀ y o,¬setB sp sb es y→M y=some o→M' y=some o:=fun y o hy ho=>hB y o (by unfold Mem.minus;rw[if_neg hy];exact ho)
 exact⟨keep _ _ h.pset h.self,h.map.mono fun o ho=>keep _ _ h.bset ho,fun q hq=>(h.data q hq).mono fun a o ha ho=>keep _ o (h.dset hq ⟨a,ha,rfl⟩).1 ho,hs,h.held,h.keys,h.ord,h.came,h.ne⟩
theorem StAt.turn {M':Mem} (h:StAt M p b sp sb S came xs es) {S':StR} {came':Int} {xs':HsT} (hk:Mem.keep (fun y=>y=p∨y=b) M M') (hs:M'.has p 258 (zaq S' b came' (zn S'.l) sp)) (hm:MapAt idA pxV M' b xs')
  (hd:∀ q∈xs',q∈xs∨Wr M' 5 1 q.2.a q.2.p.length q.2.c (q.2.p.map zc)) (hq:S'.qg=S.qg) (hl:xs'.map (fun q=>q.2.msg)=S'.l) (hkeys:∀ q∈xs',q.2.id=q.1) (hord:xs'.Pairwise fun x y=>x.2.n<y.2.n)
  (hc:0≤came'∧∀ q∈xs',0≤q.2.n∧q.2.n<came'):StAt M' p b sp sb S' came' xs' es:=by
 refine⟨hs,hm,fun q hx=>?_,?_,hl,hkeys,hord,hc,h.ne⟩
 ·rcases hd q hx with hx|hx
  ·exact(h.data q hx).mono fun a o ha ho=>hk _ o (fun e=>by have:=h.dset hx ⟨a,ha,rfl⟩;rcases e with e|e;exact this.2.1 e;exact this.2.2 e) ho
  ·exact hx
 ·rw[hq];exact h.set.mono fun y o hy ho=>hk y o (fun e=>by rcases e with e|e;exact h.pset (e▸hy);exact h.bset (e▸hy)) ho
theorem zrY {i:IdT}:∀ {l:List zcF} {m:zcF},(l.map (·.id)).Nodup→m∈l→m.id=i→zn (l.filter fun m=>decide (m.id≠i))+m.p.length=zn l
 | x::r,m,hn,hm,he=>by
  simp only[Yq,Yau] at hn;rcases Yp.1 hm with rfl|hm
  ·have hall:r.filter (fun m=>decide (m.id≠i))=r:=by
    rw[Ycz];intro y hy;have:y.id≠m.id:=fun e=>hn.1 (Yj.2 ⟨y,hy,e⟩)
    simp;rw[←he];exact this
   rw[Yb8,if_neg (by simp[he]),hall];simp only[zn,Yq,Ybb];omega
  ·have hx:x.id≠i:=fun e=>hn.1 (Yj.2 ⟨m,hm,by rw[he,e]⟩)
   have ih:=zrY hn.2 hm he;rw[Yb8,if_pos (by simp_all)];simp only[zn,Yq,Ybb] at ih ⊢;omega
theorem zs8 {L R:List Value} {x y:Value} {n:Nat} (h:L.length=n):zd (L++x::R) n [y]=L++y::R:=by
 unfold zd;subst h;simp
theorem zwi (S:StR) (b:Nat) (came bytes:Int) (sp:Nat):zaq S b came bytes sp=([.int .i64 S.self,.int .i64 S.qh,.int .i64 S.qb,.int .i64 S.qg,.int .i64 S.epoch]++S.used.map zi++[.map (some b)]) ++ .int .i64 came::[.int .i64 bytes,ptr sp]:=by simp[zaq]
theorem zuS (hu:S.used.length=64) (came bytes v:Int):zd (zaq S b came bytes sp) 70 [.int .i64 v]=zaq S b v bytes sp:=by
 rw[zwi,zwi,zs8 (by simp[hu])]
theorem zs9 (hu:S.used.length=64) (came bytes v:Int):zd (zaq S b came bytes sp) 71 [.int .i64 v]=zaq S b came v sp:=by
 have e:∀ w,zaq S b came w sp=([.int .i64 S.self,.int .i64 S.qh,.int .i64 S.qb,.int .i64 S.qg,.int .i64 S.epoch]++S.used.map zi++[.map (some b),.int .i64 came]) ++ .int .i64 w::[ptr sp]:=fun w=>by simp[zaq]
 rw[e,e,zs8 (by simp[hu])]
theorem zuT (hu:S.used.length=64) (came bytes v:Int) {d:Nat} (hd:d<64):zd (zaq S b came bytes sp) (5+d) [.int .i64 v]=zaq { S with used:=S.used.set d v } b came bytes sp:=by
 unfold zaq
 have h1:zd (([.int .i64 S.self,.int .i64 S.qh,.int .i64 S.qb,.int .i64 S.qg,.int .i64 S.epoch]:List Value)++S.used.map zi++[.map (some b),.int .i64 came,.int .i64 bytes,ptr sp]) (5+d) [.int .i64 v]=([.int .i64 S.self,.int .i64 S.qh,.int .i64 S.qb,.int .i64 S.qg,.int .i64 S.epoch]:List Value)++(S.used.map zi).set d (zi v)++[.map (some b),.int .i64 came,.int .i64 bytes,ptr sp]:=by
  have hlt:d<(S.used.map zi).length:=by simp[hu,hd]
  obtain⟨A,x,B,hAB,hA⟩:∃ A x B,S.used.map zi=A++x::B∧A.length=d:=⟨_,_,_,(Ycu d _).symm.trans (by rw[Y2 hlt]),by grind⟩
  rw[hAB];have e2:(A++x::B).set d (zi v)=A++zi v::B:=by subst hA;simp
  rw[e2];have e3:∀ y,([.int .i64 S.self,.int .i64 S.qh,.int .i64 S.qb,.int .i64 S.qg,.int .i64 S.epoch]:List Value)++(A++y::B)++[.map (some b),.int .i64 came,.int .i64 bytes,ptr sp]=(([.int .i64 S.self,.int .i64 S.qh,.int .i64 S.qb,.int .i64 S.qg,.int .i64 S.epoch]:List Value)++A)++y::(B++[.map (some b),.int .i64 came,.int .i64 bytes,ptr sp]):=fun y=>by simp
  rw[e3,e3,zs8 (by grind)]
 rw[h1,List.map_set]
end Go.Proofs.YtlgbofpennelhaaGreat
