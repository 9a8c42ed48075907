/- Part of this proof;laid by program. -/
import Derived.Test.YtpdkkbpkplhdpaaGreatJ7
import Derived.Test.YtpdkkbpkplhdpaaGreatJ8
import Derived.Test.YtpdkkbpkplhdpaaGreatJ9
import Derived.Test.YtpdkkbpkplhdpaaGreatJ6
set_option linter.unusedVariables false
set_option linter.unusedSimpArgs false
namespace Go.Vm
set_option linter.unusedSectionVars false
set_option linter.unusedSimpArgs false
section
section
variable {κ α:Type} [DecidableEq κ]
def zku (kv:κ→Value):Prop:=∀ a b,zfN (kv a) (kv b)=some (decide (a=b))
def zbY (kv:κ→Value) (vv:α→Value) (p:Nat×κ×α):MapEntry:={ key:=kv p.2.1,val:=vv p.2.2,born:=p.1 }
def zch (kv:κ→Value) (vv:α→Value) (l:List (Nat×κ×α)) (clock:Nat):Obj := .map (l.map (zbY kv vv)).toArray clock
structure MapOk (l:List (Nat×κ×α)) (clock:Nat):Prop where
 keys:(l.map (·.2.1)).Nodup
 old:∀ p∈l,p.1<clock
 apart:(l.map (·.1)).Nodup
def zD:List (κ×α)→κ→Option α
 | [],_=>none
 | (k,x)::r,i=>if k=i then some x else zD r i
def zcA:List (κ×α)→κ→α→List (κ×α)
 | [],_,_=>[]
 | (k,y)::r,i,x=>if k=i then (i,x)::r else (k,y)::zcA r i x
def zQ (l:List (κ×α)) (k:κ) (x:α):List (κ×α):=match zD l k with|some _=>zcA l k x|none=>l++[(k,x)]
def zfA (l:List (κ×α)) (k:κ):List (κ×α):=l.filter fun p=>decide (p.1≠k)
theorem aget_none {l:List (κ×α)} {k:κ}:zD l k=none↔k∉l.map (·.1):=by
 induction l with
 | nil=>simp[zD]
 | cons p r ih=>
  obtain⟨a,x⟩:=p;simp only[zD];split
  ·rename_i h;subst h;simp
  ·rename_i h;rw[ih];simp[Ne.symm h]
theorem zN {l:List (κ×α)} {k:κ} {x:α} (h:zD l k=some x):(k,x)∈l:=by
 induction l with
 | nil=>cases h
 | cons p r ih=>
  obtain⟨a,y⟩:=p;simp only[zD] at h;split at h
  ·rename_i e;subst e;cases h;simp
  ·exact List.mem_cons_of_mem _ (ih h)
theorem zdt {l:List (κ×α)} (hn:(l.map (·.1)).Nodup) {k:κ} {x:α} (h:(k,x)∈l):zD l k=some x:=by
 induction l with
 | nil=>cases h
 | cons p r ih=>
  obtain⟨a,y⟩:=p;simp only[List.map_cons,List.nodup_cons] at hn;simp only[zD];rcases List.mem_cons.1 h with e|e
  ·cases e;simp
  ·split
   ·rename_i ha;subst ha;exact absurd (List.mem_map.2 ⟨_,e,rfl⟩) hn.1
   ·exact ih hn.2 e
theorem zAh (l:List (κ×α)) (k:κ) (x:α):(zcA l k x).map (·.1)=l.map (·.1):=by
 induction l with
 | nil=>rfl
 | cons p r ih=>
  obtain⟨a,y⟩:=p;simp only[zcA];split
  ·rename_i e;simp[e]
  ·simp[ih]
theorem ztf (l:List (κ×α)) (k:κ) (x:α) (i:κ):zD (zcA l k x) i=if i=k∧(zD l k).isSome then some x else zD l i:=by
 induction l with
 | nil=>simp[zcA,zD]
 | cons p r ih=>
  obtain⟨a,y⟩:=p;simp only[zcA];by_cases ha:a=k
  ·rw[if_pos ha];subst ha;simp only[zD,if_true,Option.isSome_some,and_true];by_cases hi:a=i
   ·simp[hi]
   ·rw[if_neg hi,if_neg hi,if_neg (fun e=>hi e.symm)]
  ·rw[if_neg ha];simp only[zD,if_neg ha,ih];by_cases hi:a=i
   ·rw[if_pos hi,if_pos hi,if_neg (fun e=>ha (hi.trans e.1))]
   ·rw[if_neg hi,if_neg hi]
theorem zo9 (l r:List (κ×α)) (i:κ):zD (l++r) i=(zD l i).or (zD r i):=by
 induction l with
 | nil=>simp[zD]
 | cons p l ih=>
  obtain⟨a,y⟩:=p;simp only[List.cons_append,zD];split<;>simp_all
theorem zdX (l:List (κ×α)) (k:κ) (x:α) (i:κ):zD (zQ l k x) i=if i=k then some x else zD l i:=by
 unfold zQ;cases h:zD l k with
 | some y=>simp only[ztf,h,Option.isSome_some,and_true]
 | none=>
  simp only[zo9];by_cases hi:i=k
  ·subst hi;rw[h];simp[zD]
  ·rw[if_neg hi];simp only[zD];rw[if_neg (fun e=>hi e.symm)];simp
theorem ztg (l:List (κ×α)) (k:κ) (x:α):(zQ l k x).map (·.1)=if (zD l k).isSome then l.map (·.1) else l.map (·.1)++[k]:=by
 unfold zQ;cases h:zD l k<;>simp[zAh]
theorem zew {l:List (κ×α)} (h:(l.map (·.1)).Nodup) (k:κ) (x:α):((zQ l k x).map (·.1)).Nodup:=by
 rw[ztg];cases hg:zD l k with
 | some _=>simpa using h
 | none=>
  have:=aget_none.1 hg;simp only[Option.isSome_none,Bool.false_eq_true,if_false];rw[List.nodup_append];exact⟨h,by simp,fun a ha b hb=>by simp at hb;subst hb;exact fun e=>this (e▸ha)⟩
theorem zAi (l:List (κ×α)) (k i:κ):zD (zfA l k) i=if i=k then none else zD l i:=by
 unfold zfA
 induction l with
 | nil=>simp[zD]
 | cons p r ih=>
  obtain⟨a,y⟩:=p;simp only[List.filter_cons];by_cases ha:a=k
  ·simp only[ha,ne_eq,not_true_eq_false,decide_false,Bool.false_eq_true,if_false];rw[ih];by_cases hi:i=k
   ·simp[hi]
   ·rw[if_neg hi,if_neg hi];simp only[zD];rw[if_neg (fun e=>hi e.symm)]
  ·simp only[ne_eq,ha,not_false_eq_true,decide_true,if_true,zD];rw[ih];by_cases hi:a=i
   ·rw[if_pos hi,if_pos hi,if_neg (fun e=>ha (hi.trans e))]
   ·rw[if_neg hi,if_neg hi]
theorem zy4 {l:List (κ×α)} (h:(l.map (·.1)).Nodup) (k:κ):((zfA l k).map (·.1)).Nodup:=h.sublist (List.Sublist.map _ List.filter_sublist)
def bset:List (Nat×κ×α)→κ→α→List (Nat×κ×α)
 | [],_,_=>[]
 | (b,k,y)::r,i,x=>if k=i then (b,i,x)::r else (b,k,y)::bset r i x
def zl6 (l:List (Nat×κ×α)) (clock:Nat) (k:κ) (x:α):List (Nat×κ×α):=match zD (l.map (·.2)) k with|some _=>bset l k x|none=>l++[(clock,k,x)]
def zlz (l:List (Nat×κ×α)) (clock:Nat) (k:κ):Nat:=match zD (l.map (·.2)) k with|some _=>clock|none=>clock+1
def zla (l:List (Nat×κ×α)) (k:κ):List (Nat×κ×α):=l.filter fun p=>decide (p.2.1≠k)
theorem zBs (l:List (Nat×κ×α)) (k:κ) (x:α):(bset l k x).map (·.2)=zcA (l.map (·.2)) k x:=by
 induction l with
 | nil=>rfl
 | cons p r ih=>
  obtain⟨b,a,y⟩:=p;simp only[bset,List.map_cons,zcA];split<;>simp[ih]
theorem zth (l:List (Nat×κ×α)) (k:κ) (x:α):(bset l k x).map (·.1)=l.map (·.1):=by
 induction l with
 | nil=>rfl
 | cons p r ih=>
  obtain⟨b,a,y⟩:=p;simp only[bset];split<;>simp[ih]
theorem zqi (l:List (Nat×κ×α)) (clock:Nat) (k:κ) (x:α):(zl6 l clock k x).map (·.2)=zQ (l.map (·.2)) k x:=by
 unfold zl6 zQ;cases h:zD (l.map (·.2)) k<;>simp[zBs]
theorem zvU (l:List (Nat×κ×α)) (k:κ):(zla l k).map (·.2)=zfA (l.map (·.2)) k:=by
 unfold zla zfA;rw[List.filter_map];rfl
theorem zuJ (l:List (Nat×κ×α)):l.map (·.2.1)=(l.map (·.2)).map (·.1):=by simp
theorem MapOk.put {l:List (Nat×κ×α)} {clock:Nat} (h:MapOk l clock) (k:κ) (x:α):MapOk (zl6 l clock k x) (zlz l clock k):=by
 refine⟨?_,?_,?_⟩
 ·rw[zuJ,zqi];exact zew (by rw[←zuJ];exact h.keys) k x
 ·unfold zl6 zlz;cases hg:zD (l.map (·.2)) k with
  | some y=>
   intro p hp;simp only at hp ⊢;have:p.1∈(bset l k x).map (·.1):=List.mem_map.2 ⟨p,hp,rfl⟩
   rw[zth] at this;obtain⟨q,hq,e⟩:=List.mem_map.1 this;rw[←e];exact h.old q hq
  | none=>
   intro p hp;simp only[List.mem_append,List.mem_singleton] at hp ⊢;rcases hp with hp|rfl
   ·have:=h.old p hp;omega
   ·simp
 ·unfold zl6;cases hg:zD (l.map (·.2)) k with
  | some y=>simp only[zth];exact h.apart
  | none=>
   simp only[List.map_append,List.map_cons,List.map_nil];rw[List.nodup_append];refine⟨h.apart,by simp,fun a ha b hb=>?_⟩;simp at hb;subst hb;obtain⟨q,hq,e⟩:=List.mem_map.1 ha;have:=h.old q hq
   intro e';omega
theorem MapOk.del {l:List (Nat×κ×α)} {clock:Nat} (h:MapOk l clock) (k:κ):MapOk (zla l k) clock:=
 ⟨h.keys.sublist (List.Sublist.map _ List.filter_sublist),fun p hp=>h.old p (List.mem_filter.1 hp).1,h.apart.sublist (List.Sublist.map _ List.filter_sublist)⟩
theorem MapOk.empty:MapOk ([]:List (Nat×κ×α)) 0:=⟨by simp,by simp,by simp⟩
variable {kv:κ→Value} {vv:α→Value}
theorem ziU (hk:zku kv) {k:κ}:∀ {l:List (Nat×κ×α)} (i:Nat),zD (l.map (·.2)) k=none→zaj (kv k) (l.map (zbY kv vv)) i=some none
 | [],_,_=>rfl
 | (b,a,y)::r,i,h=>by
  simp only[List.map_cons,zD] at h;split at h
  ·cases h
  ·rename_i hne;simp only[List.map_cons,zaj,zbY,hk k a];rw[decide_eq_false (fun e=>hne e.symm)];exact ziU hk (i+1) h
theorem ziV (hk:zku kv) {k:κ} {x:α}:∀ {l:List (Nat×κ×α)} (i:Nat),zD (l.map (·.2)) k=some x→∃ j,zaj (kv k) (l.map (zbY kv vv)) i=some (some (i+j,vv x)) ∧
   (∀ y,((l.map (zbY kv vv)).modify j fun e=>{ e with key:=kv k,val:=vv y })=(bset l k y).map (zbY kv vv))∧(∀ (_:(l.map (·.2.1)).Nodup),(l.map (zbY kv vv)).eraseIdx j=(zla l k).map (zbY kv vv))∧j<l.length
 | [],_,h=>by cases h
 | (b,a,y)::r,i,h=>by
  simp only[List.map_cons,zD] at h;split at h
  ·rename_i e;subst e;cases h;refine⟨0,?_,?_,?_,by simp⟩
   ·simp[zaj,zbY,hk a a]
   ·intro y';simp[zbY,bset]
   ·intro hn;simp only[List.map_cons,List.nodup_cons] at hn;have:∀ p∈r,p.2.1≠a:=fun p hp e=>hn.1 (e▸List.mem_map.2 ⟨p,hp,rfl⟩)
    simp only[List.map_cons,List.eraseIdx_cons_zero,zla,List.filter_cons,ne_eq,not_true_eq_false,decide_false,Bool.false_eq_true,if_false];rw[List.filter_eq_self.2];intro p hp;simpa using this p hp
  ·rename_i hne;obtain⟨j,h1,h3,h4,h5⟩:=ziV hk (i+1) h;refine⟨j+1,?_,?_,?_,by simp;omega⟩
   ·simp only[List.map_cons,zaj,zbY,hk k a];rw[decide_eq_false (fun e=>hne e.symm)];simp only;rw[h1];congr 3;omega
   ·intro y';simp only[List.map_cons,List.modify_succ_cons,bset,if_neg hne];rw[h3]
   ·intro hn;simp only[List.map_cons,List.nodup_cons] at hn;simp only[List.map_cons,List.eraseIdx_cons_succ];rw[h4 hn.2];simp[zla,List.filter_cons,hne]
def MapAt (kv:κ→Value) (vv:α→Value) (M:Mem) (b:Nat) (m:List (κ×α)):Prop:=∃ l clock,M b=some (zch kv vv l clock)∧MapOk l clock∧l.map (·.2)=m
theorem MapAt.nodup {M:Mem} {b:Nat} {m:List (κ×α)} (h:MapAt kv vv M b m):(m.map (·.1)).Nodup:=by
 obtain⟨l,c,_,h1,rfl⟩:=h;rw[←zuJ];exact h1.keys
theorem MapAt.mono {M M':Mem} {b:Nat} {m:List (κ×α)} (h:MapAt kv vv M b m) (hb:∀ o,M b=some o→M' b=some o):MapAt kv vv M' b m:=by
 obtain⟨l,c,h0,h1⟩:=h;exact⟨l,c,hb _ h0,h1⟩
theorem MapAt.new (M:Mem) (b:Nat):MapAt kv vv (M.upd b (.map #[] 0)) b []:=⟨[],0,by simp[Mem.upd,zch],MapOk.empty,rfl⟩
theorem MapAt.get {M:Mem} {b:Nat} {m:List (κ×α)} (h:MapAt kv vv M b m) (hk:zku kv) (k:κ) {K:Option (Nat×Value)→Prop} (h0:zD m k=none→K none) (h1:∀ x i,zD m k=some x→K (some (i,vv x))) :
  onO (M.mapAt b) fun p=>onO (zaj (kv k) p.1.toList 0) K:=by
 obtain⟨l,c,hM,_,rfl⟩:=h;simp only[Mem.mapAt,hM,zch,onO];cases hg:zD (l.map (·.2)) k with
 | none=>simp only[ziU hk 0 hg];exact h0 hg
 | some x=>
  obtain⟨j,hj,_⟩:=ziV (vv:=vv) hk 0 hg;simp only[hj];exact h1 x _ hg
theorem MapAt.len {M:Mem} {b:Nat} {m:List (κ×α)} (h:MapAt kv vv M b m) {K:Array MapEntry×Nat→Prop} (hK:∀ es c,es.size=m.length→K (es,c)):onO (M.mapAt b) K:=by
 obtain⟨l,c,hM,_,rfl⟩:=h;simp only[Mem.mapAt,hM,zch,onO];exact hK _ _ (by simp)
theorem MapAt.put {M:Mem} {b:Nat} {m:List (κ×α)} (h:MapAt kv vv M b m) (hk:zku kv) (k:κ) (x:α) {K:Array MapEntry×Nat→Option (Nat×Value)→Prop}
  (h0:∀ p f,(∀ M':Mem,MapAt kv vv (M'.upd b (ze0 p f (kv k) (vv x))) b (zQ m k x))→K p f):onO (M.mapAt b) fun p=>onO (zaj (kv k) p.1.toList 0) fun f=>K p f:=by
 obtain⟨l,c,hM,hok,rfl⟩:=h;simp only[Mem.mapAt,hM,zch,onO];cases hg:zD (l.map (·.2)) k with
 | none=>
  simp only[ziU hk 0 hg];refine h0 _ _ fun M'=>⟨zl6 l c k x,zlz l c k,?_,hok.put k x,zqi ..⟩
  simp[Mem.upd,ze0,zch,zl6,zlz,hg,zbY]
 | some y=>
  obtain⟨j,hj,hset,_⟩:=ziV (vv:=vv) hk 0 hg;simp only[hj];refine h0 _ _ fun M'=>⟨zl6 l c k x,zlz l c k,?_,hok.put k x,zqi ..⟩
  simp[Mem.upd,ze0,zch,zl6,zlz,hg,hset]
theorem MapAt.del {M:Mem} {b:Nat} {m:List (κ×α)} (h:MapAt kv vv M b m) (hk:zku kv) (k:κ) {K:Array MapEntry×Nat→Option (Nat×Value)→Prop}
  (h0:∀ p f,(∀ M':Mem,MapAt kv vv (M'.upd b (zfO p f)) b (zfA m k))→K p f):onO (M.mapAt b) fun p=>onO (zaj (kv k) p.1.toList 0) fun f=>K p f:=by
 obtain⟨l,c,hM,hok,rfl⟩:=h;simp only[Mem.mapAt,hM,zch,onO];cases hg:zD (l.map (·.2)) k with
 | none=>
  simp only[ziU hk 0 hg];refine h0 _ _ fun M'=>⟨zla l k,c,?_,hok.del k,zvU ..⟩
  have:zla l k=l:=by
   unfold zla;rw[List.filter_eq_self];intro p hp;have:=aget_none.1 hg
   simp only[decide_eq_true_eq,ne_eq];intro e;exact this (by rw[←zuJ];exact List.mem_map.2 ⟨p,hp,e⟩)
  simp[Mem.upd,zfO,zch,this]
 | some y=>
  obtain⟨j,hj,_,hdel,hlt⟩:=ziV (vv:=vv) hk 0 hg;simp only[hj];refine h0 _ _ fun M'=>⟨zla l k,c,?_,hok.del k,zvU ..⟩
  have:=hdel hok.keys;simp[Mem.upd,zfO,zch,this,hlt]
end
end
section
section
variable {κ α:Type} [DecidableEq κ] {kv:κ→Value} {vv:α→Value}
def Iter (kv:κ→Value) (vv:α→Value) (M:Mem) (b m:Nat) (cur todo:List (κ×α)):Prop:=
 ∃ (l:List (Nat×κ×α)) (clock:Nat) (seen:List Nat) (tb:List (Nat×κ×α)),M m=some (zch kv vv l clock)∧MapOk l clock∧l.map (·.2)=cur∧M b=some (.mapIter (some m) clock (List.toArray seen) clock) ∧
  (∀ p∈l,p.1∈seen∨p∈tb)∧(∀ p∈tb,p∈l∧p.1∉seen)∧(tb.map (·.1)).Nodup∧tb.map (·.2)=todo
theorem Iter.mono {M M':Mem} {b m:Nat} {cur todo:List (κ×α)} (h:Iter kv vv M b m cur todo) (hb:∀ c o,c=b∨c=m→M c=some o→M' c=some o):Iter kv vv M' b m cur todo:=by
 obtain⟨l,c,seen,tb,h1,h2,h3,h4,hr⟩:=h;exact⟨l,c,seen,tb,hb _ _ (.inr rfl) h1,h2,h3,hb _ _ (.inl rfl) h4,hr⟩
theorem Iter.le {M M':Mem} {b m:Nat} {cur todo:List (κ×α)} (h:Iter kv vv M b m cur todo) (hle:M.le M'):Iter kv vv M' b m cur todo:=h.mono fun c o _=>hle c o
theorem Iter.keep {M M':Mem} {b m:Nat} {cur todo:List (κ×α)} {S:Nat→Prop} (h:Iter kv vv M b m cur todo) (hk:Mem.keep S M M') (h1:¬S b) (h2:¬S m):Iter kv vv M' b m cur todo:=
 h.mono fun c o hc=>hk c o (by rcases hc with rfl|rfl<;>assumption)
theorem Iter.ne {M:Mem} {b m:Nat} {cur todo:List (κ×α)} (h:Iter kv vv M b m cur todo):b≠m:=by
 obtain⟨l,c,seen,tb,h1,h2,h3,h4,hr⟩:=h;rintro rfl;rw[h1] at h4;simp[zch] at h4
theorem Iter.todo_sub {M:Mem} {b m:Nat} {cur todo:List (κ×α)} (h:Iter kv vv M b m cur todo):∀ p∈todo,p∈cur:=by
 obtain⟨l,c,seen,tb,h1,h2,rfl,h4,h5,h6,h7,rfl⟩:=h;intro p hp;obtain⟨q,hq,rfl⟩:=List.mem_map.1 hp;exact List.mem_map.2 ⟨q,(h6 q hq).1,rfl⟩
theorem zqj {β γ:Type} {l:List (β×γ)} (h:(l.map (·.1)).Nodup):l.Nodup:=by
 induction l with
 | nil=>simp
 | cons p r ih=>
  simp only[List.map_cons,List.nodup_cons] at h ⊢;exact⟨fun hp=>h.1 (List.mem_map.2 ⟨p,hp,rfl⟩),ih h.2⟩
theorem MapAt.range {M:Mem} {m:Nat} {cur:List (κ×α)} (h:MapAt kv vv M m cur) {K:Array MapEntry×Nat→Nat→Prop}
  (hk:∀ p b,M b=none→Iter kv vv (M.upd b (.mapIter (some m) p.2 #[] p.2)) b m cur cur→K p b) :
  onO (M.mapAt m) fun p=>New M fun b=>K p b:=by
 obtain⟨l,c,hM,hok,rfl⟩:=h;simp only[Mem.mapAt,hM,zch,onO];intro b hb;have hne:m≠b:=fun e=>by subst e;rw[hb] at hM;cases hM
 refine hk _ b hb ⟨l,c,[],l,?_,hok,rfl,by simp[Mem.upd],fun p hp => .inr hp,fun p hp=>⟨hp,by simp⟩,hok.apart,rfl⟩;rw[Mem.upd_ne _ _ hne,hM]
theorem Iter.next {M:Mem} {b m:Nat} {cur todo:List (κ×α)} (h:Iter kv vv M b m cur todo) {A:Prop} {k:SV→Mem→Prop} (h0:todo=[]→k (.c (.v (.tuple #[.bool false]))) M)
  (h1:∀ i x todo' o,todo.Perm ((i,x)::todo')→Iter kv vv (M.upd b o) b m cur todo'→zau (M.upd b o) b=some (kv i,vv x)→k (.c (.v (.tuple #[.bool true,kv i,vv x]))) (M.upd b o)) :
  onO (M.iterAt b) fun t=>zlG t.1 A (fun m=>onO (M.mapAt m) fun p=>zaJ M b t.2.1 t.2.2.2 m t.2.2.1 p.1 p.2 k):=by
 have hne:=h.ne;obtain⟨l,c,seen,tb,hM,hok,rfl,hI,h5,h6,h7,rfl⟩:=h;simp only[Mem.iterAt,hI,onO,zlG,Mem.mapAt,hM,zch];refine⟨?_,?_,?_⟩
 ·cases hl:l with
  | nil=>right;left;simp
  | cons p r=>
   right;right;refine⟨zbY kv vv p,by simp,?_⟩;exact hok.old p (by rw[hl];simp)
 ·intro hall;apply h0;cases htb:tb with
  | nil=>rfl
  | cons p r=>
   exfalso;obtain⟨hp,hns⟩:=h6 p (by rw[htb];simp);have hp1:=hok.old p hp
   rcases hall (zbY kv vv p) (by simp only[List.mem_map];exact⟨p,hp,rfl⟩) with hc|hc
   ·simp only[zbY,List.contains_toArray,List.contains_iff_mem] at hc;exact hns hc
   ·simp only[zbY] at hc;omega
 ·intro e he hns;simp only[List.mem_map] at he;obtain⟨p,hp,rfl⟩:=he;have hns':p.1∉seen:=by simpa[zbY] using hns
  have hpt:p∈tb:=(h5 p hp).resolve_left hns';obtain⟨u,v,rfl⟩:=List.append_of_mem hpt;have hperm:(u++p::v).Perm (p::(u++v)):=List.perm_middle
  refine h1 p.2.1 p.2.2 ((u++v).map (·.2)) _ (hperm.map (·.2)) ?_ ?_
  ·refine⟨l,c,seen++[p.1],u++v,?_,hok,rfl,?_,?_,?_,?_,rfl⟩
   ·rw[Mem.upd_ne _ _ (Ne.symm hne),hM]
   ·rw[Mem.upd_same];simp[zbY]
   ·intro q hq;rcases h5 q hq with hs|hs
    ·left;simp[hs]
    ·simp only[List.mem_append,List.mem_cons] at hs;rcases hs with hs|rfl|hs
     ·right;simp[hs]
     ·left;simp
     ·right;simp[hs]
   ·intro q hq;have hq':q∈u++p::v:=by simp only[List.mem_append,List.mem_cons] at hq ⊢; rcases hq with hq|hq<;>simp[hq]
    obtain⟨h8,h9⟩:=h6 q hq';refine⟨h8,?_⟩;simp only[List.mem_append,List.mem_singleton,not_or];refine⟨h9,fun e=>?_⟩;have hnd:((p::(u++v)).map (·.1)).Nodup:=(hperm.map (·.1)).nodup_iff.1 h7
    simp only[List.map_cons,List.nodup_cons] at hnd;exact hnd.1 (e▸List.mem_map.2 ⟨q,hq,rfl⟩)
   ·have hnd:((p::(u++v)).map (·.1)).Nodup:=(hperm.map (·.1)).nodup_iff.1 h7;simp only[List.map_cons,List.nodup_cons] at hnd;exact hnd.2
  ·have e1:(M.upd b (.mapIter (some m) c ((List.toArray seen).push (zbY kv vv p).born) c)) m=some (zch kv vv l c):=by rw[Mem.upd_ne _ _ (Ne.symm hne),hM]
   simp only[zau,Mem.iterAt,Mem.upd_same,Mem.mapAt,e1,zch,Array.back?_push,if_true]
   have hf:(List.map (zbY kv vv) l).toArray.find? (fun x=>x.born == (zbY kv vv p).born)=some (zbY kv vv p):=by
    rw[List.find?_toArray];rw[List.find?_map]
    have:l.find? ((fun x=>x.born == (zbY kv vv p).born)∘zbY kv vv)=some p:=by
     have hap:=hok.apart;clear h5 h6 h7 hns hns' hpt hperm hok hM e1 h0 h1
     induction l with
     | nil=>cases hp
     | cons q r ih=>
      simp only[List.map_cons,List.nodup_cons] at hap;rw[List.find?_cons];rcases List.mem_cons.1 hp with rfl|hp
      ·simp[zbY]
      ·have hne:q.1≠p.1:=fun e=>hap.1 (e▸List.mem_map.2 ⟨p,hp,rfl⟩)
       have hb:((fun x=>x.born == (zbY kv vv p).born)∘zbY kv vv) q=false:=by simpa[zbY] using hne
       rw[hb];exact ih hp hap.2
    rw[this];rfl
   rw[hf];rfl
end
end
end Go.Vm
namespace Go.Vm
theorem NewSl.store1 {α:Type} {f:α→Value} {M M2:Mem} {E:TypeId} {a:Option Addr} {n c:Nat} {L:List α} (h:NewSl M E 1 a n c (L.map f) M2) {j:Nat} (hj:j<n) :
  ∃ b cs,a=some ⟨b,0,Option.none⟩∧M b=Option.none∧M2.cells b=some (E,cs)∧0+j*1+1≤cs.length∧∀ v,NewSl M E 1 a n c ((L.set j v).map f) (M2.setCells b E (ze cs (0+j*1) [f v]))∧Mem.keep (z6 a) M2 (M2.setCells b E (ze cs (0+j*1) [f v])):=by
 obtain⟨b,cs,rfl,hcells,hlen,hst⟩:=h.wr.store1 hj;have hb:M b=Option.none:=(h.block rfl).1
 refine⟨b,cs,rfl,hb,hcells,hlen,fun v=>⟨?_,(hst v).2⟩⟩;obtain⟨h1,h2,h3⟩:=(hst v).1;refine newSl_iff.2 ⟨(hst v).2.le h.le (fun x hx=>?_),h1,h2,.inr ?_⟩
 ·obtain⟨q,hq,e⟩:=hx;cases hq;subst e;exact hb
 ·rcases h3 with ⟨h4,_⟩|⟨b3,cs3,h4,h5,h6,h7⟩
  ·cases h4
  ·cases h4;exact⟨b,cs3,rfl,hb,h5,h6,h7⟩
theorem NewSl.rebase {M M2 M5:Mem} {E:TypeId} {s:Nat} {a:Option Addr} {n c:Nat} {L:List Value} (h:NewSl M E s a n c L M2) (hle:M2.le M5):NewSl (M5.minus (z6 a)) E s a n c L M5:=by
 rw[newSl_iff] at h ⊢;obtain⟨_,h1,h2,h3⟩:=h;exact⟨Mem.minus_le _ _,h1,h2,h3.imp id fun ⟨b,cs,ha,_,hh,hr⟩=>⟨b,cs,ha,Mem.minus_in ⟨_,ha,rfl⟩,hle _ _ hh,hr⟩⟩
end Go.Vm
namespace Go.Vm
theorem NewSl.rebase2 {M M2 M5:Mem} {E:TypeId} {s:Nat} {a:Option Addr} {n c:Nat} {L:List Value} (h:NewSl M E s a n c L M2) (hle:M2.le M5) {X:Nat→Prop} (hX:∀ x,z6 a x→X x):NewSl (M5.minus X) E s a n c L M5:=by
 rw[newSl_iff] at h ⊢;obtain⟨_,h1,h2,h3⟩:=h;exact⟨Mem.minus_le _ _,h1,h2,h3.imp id fun ⟨b,cs,ha,_,hh,hr⟩=>⟨b,cs,ha,Mem.minus_in (hX _ ⟨_,ha,rfl⟩),hle _ _ hh,hr⟩⟩
theorem NewSl.ne {M M':Mem} {E E':TypeId} {s s':Nat} {a a':Option Addr} {n c n' c':Nat} {L L':List Value} (h:NewSl M E s a n c L M') (h':NewSl M E' s' a' n' c' L' M') (hE:E≠E') {q q':Addr} (hq:a=some q) (hq':a'=some q'):q.block≠q'.block:=fun e=>by
 obtain⟨_,cs,h1⟩:=h.block hq;obtain⟨_,cs',h2⟩:=h'.block hq';rw[e] at h1;exact hE (h1.inj h2).1
end Go.Vm
namespace Go.Vm
theorem NewSl.ofWr {M M1 M2:Mem} {E E':TypeId} {s s':Nat} {a a':Option Addr} {n c n' c':Nat} {L L':List Value} (h:NewSl M E s a n c L M1) (hw:Wr M2 E' s' a' n' c' L') (hk:Mem.keep (z6 a) M1 M2) (ha:z6 a=z6 a'):NewSl M E' s' a' n' c' L' M2:=by
 have hb:∀ x,z6 a x→M x=Option.none:=fun x ⟨q,hq,e⟩=>by subst e;exact(h.block hq).1
 refine newSl_iff.2 ⟨hk.le h.le hb,?_⟩;obtain⟨h1,h2,h3⟩:=hw;exact⟨h1,h2,h3.imp id fun ⟨b,cs,hab,hr⟩=>⟨b,cs,hab,hb b (by rw[ha];exact⟨_,hab,rfl⟩),hr⟩⟩
section
variable {κ α:Type} {kv:κ→Value} {vv:α→Value}
theorem MapAt.nb {M:Mem} {b:Nat} {m:List (κ×α)} (h:MapAt kv vv M b m) {x:Nat} {E:TypeId} {l:List Value} (hx:M.has x E l):x≠b:=by
 rintro rfl;obtain⟨l1,c,h1,_⟩:=h;unfold Mem.has at hx;rw[h1] at hx;simp[zch] at hx
theorem Iter.nb {M:Mem} {b m:Nat} {cur todo:List (κ×α)} (h:Iter kv vv M b m cur todo) {x:Nat} {E:TypeId} {l:List Value} (hx:M.has x E l):x≠b∧x≠m:=by
 obtain⟨l1,c,seen,tb,h1,h2,h3,h4,hr⟩:=h;constructor
 ·rintro rfl;unfold Mem.has at hx;rw[h4] at hx;simp at hx
 ·rintro rfl;unfold Mem.has at hx;rw[h1] at hx;simp[zch] at hx
theorem MapAt.src {M M':Mem} {x:Nat} {m:List (κ×α)} (h:MapAt kv vv M x m) {s:Nat} {a:Option Addr} {n:Nat} {l:List Value} (h':SrcOk M s a n l) (hk:Mem.keep (fun y=>y=x) M M'):SrcOk M' s a n l:=by
 unfold SrcOk at h' ⊢;obtain⟨h1,h2|⟨b,o,rfl,h3⟩⟩:=h'
 ·exact⟨h1,.inl h2⟩
 ·refine⟨h1,.inr ⟨b,o,rfl,?_⟩⟩
  have hne:b≠x:=by
   rintro rfl;obtain⟨l1,c,h4,_⟩:=h;unfold Mem.row at h3;rw[h4] at h3;simp[zch] at h3
  unfold Mem.row at h3 ⊢;cases hb:M b with
  | none=>rw[hb] at h3;cases h3
  | some ob=>rw[hb] at h3;rw[hk b ob hne hb];exact h3
end
end Go.Vm
namespace Go.Vm
end Go.Vm
namespace Go.Vm
theorem CallsM.frame {P:Program} {f:Nat} {args:List Value} {A M:Mem} {R:Value→Mem→Prop} (h:CallsM P f args A R) (hA:A.le M) :
  CallsM P f args M fun v M'=>∃ A',R v A'∧A'.le M'∧∀ x o,A x=none→M x=some o→M' x=some o∧A' x=none:=by
 refine⟨h.1,fun F w hM hF hdj=>?_⟩;obtain⟨F',hF'⟩:∃ F':Mem,F'=fun x=>if A x=none then (if M x=none then F x else M x) else none:=⟨_,rfl⟩
 have hFF:F.le F':=fun x o hx=>by
  have hMx:M x=none:=(hdj x).resolve_right (by rw[hx];simp)
  have hAx:A x=none:=by
   cases e:A x with
   | none=>rfl
   | some y=>rw[hA x y e] at hMx;cases hMx
  rw[hF'];dsimp only;rw[if_pos hAx,if_pos hMx];exact hx
 have hF'w:F'.le (zy w):=fun x o hx=>by
  rw[hF'] at hx;dsimp only at hx;split at hx
  ·split at hx
   ·exact hF x o hx
   ·exact hM x o hx
  ·cases hx
 have hdj':A.disj F':=fun x=>by
  by_cases e:A x=none
  ·exact .inl e
  ·right;rw[hF'];dsimp only;rw[if_neg e]
 refine(h.2 F' w (fun x o hx=>hM x o (hA x o hx)) hF'w hdj').mono ?_;rintro e w' ⟨v,A',he,hR,hA',hFw',hdA,hrest⟩
 have hin:∀ x o,A x=none→M x=some o→F' x=some o:=fun x o h1 h2=>by
  rw[hF'];dsimp only;rw[if_pos h1,if_neg (by rw[h2];simp)];exact h2
 obtain⟨M',hM'⟩:∃ M':Mem,M'=fun x=>if A' x=none then (if A x=none then M x else none) else A' x:=⟨_,rfl⟩
 refine⟨v,M',he,⟨A',hR,fun x o hx=>by rw[hM'];dsimp only;rw[if_neg (by rw[hx];simp)];exact hx,fun x o h1 h2=>?_⟩,fun x o hx=>?_,fun x o hx=>hFw' x o (hFF x o hx),fun x=>?_,hrest⟩
 ·have:=hin x o h1 h2;have hn:A' x=none:=(hdA x).resolve_right (by rw[this];simp)
  exact⟨by rw[hM'];dsimp only;rw[if_pos hn,if_pos h1];exact h2,hn⟩
 ·rw[hM'] at hx;dsimp only at hx;split at hx
  ·split at hx
   ·exact hFw' x o (hin x o ‹_› hx)
   ·cases hx
  ·exact hA' x o hx
 ·cases e:F x with
  | none=>exact .inr rfl
  | some o=>
   left;have hFx:=hFF x o e
   have hn:A' x=none:=(hdA x).resolve_right (by rw[hFx];simp);have hMx:M x=none:=(hdj x).resolve_right (by rw[e];simp)
   rw[hM'];dsimp only;rw[if_pos hn];split
   ·exact hMx
   ·rfl
end Go.Vm
namespace Go.Vm
theorem zuK {E:TypeId} {size bytes:Nat} {a:Option Addr} {n c m:Nat} {news:List Value} {M:Mem} {k:Option Addr→Nat→Mem→Prop} (M0:Mem) (L:List Value) (hown:NewSl M0 E size a n c L M)
  (h1:(n+m)*bytes≤140737488355328) (h2:n+m≤maxLen) (h3:∀ u∈news,u.oneCell'=true) (hk:∀ a' c' M',(c'=c∨c'≤maxLen)→NewSl M0 E size a' (n+m) c' (L++news) M'→k a' c' M'):zaD E size bytes a n c m news M k:=by
 obtain⟨M1,h0,h⟩:=hown;exact appC M1 L h h1 h2 h3 fun a' c' M' hc ho=>hk a' c' M' hc ⟨M1,h0,ho⟩
end Go.Vm
namespace Go.Vm
section
section
variable {α:Type} {enc:α→List Value} {s:Nat} (hk:∀ x,(enc x).length=s)
include hk
theorem zy5:∀ (l:List α) (i j:Nat) (x:α),l[i]? = some x→j<s→(l.flatMap enc)[i*s+j]? = (enc x)[j]?
 | [],i,j,x,h,_=>by simp at h
 | y::r,0,j,x,h,hj=>by
  simp at h;subst h;rw[List.flatMap_cons,Nat.zero_mul,Nat.zero_add,List.getElem?_append_left (by rw[hk];exact hj)]
 | y::r,i+1,j,x,h,hj=>by
  have:=zy5 r i j x (by simpa using h) hj;rw[List.flatMap_cons,List.getElem?_append_right (by rw[hk,Nat.succ_mul];omega),hk,←this];congr 1;rw[Nat.succ_mul];omega
theorem zvV (l:List α):(l.flatMap enc).length=l.length*s:=by
 induction l with
 | nil=>simp
 | cons y r ih=>simp[hk,ih,Nat.succ_mul,Nat.add_comm]
theorem zAj:∀ (l:List α) (i j:Nat) (x x':α) (v:Value),l[i]? = some x→j<s→enc x'=(enc x).set j v→(l.flatMap enc).set (i*s+j) v=(l.set i x').flatMap enc
 | [],i,j,x,x',v,h,_,_=>by simp at h
 | y::r,0,j,x,x',v,h,hj,he=>by
  simp at h;subst h;rw[List.flatMap_cons,Nat.zero_mul,Nat.zero_add,List.set_append_left _ _ (by rw[hk];exact hj),List.set_cons_zero,List.flatMap_cons,he]
 | y::r,i+1,j,x,x',v,h,hj,he=>by
  have:=zAj r i j x x' v (by simpa using h) hj he;rw[List.flatMap_cons,List.set_append_right _ _ (by rw[hk,Nat.succ_mul];omega),hk,List.set_cons_succ,List.flatMap_cons,←this];congr 2;rw[Nat.succ_mul];omega
theorem SrcOk.flen {M:Mem} {a:Option Addr} {n:Nat} {l:List α} (h:SrcOk M s a n (l.flatMap enc)) (hs:0<s):l.length=n:=by
 have:=h.len;rw[zvV hk] at this;exact Nat.eq_of_mul_eq_mul_right hs this
theorem SrcOk.fcell {M:Mem} {a:Option Addr} {n:Nat} {l:List α} (h:SrcOk M s a n (l.flatMap enc)) {j p:Nat} {x:α} {v:Value} (hx:l[j]? = some x) (hv:(enc x)[p]? = some v):∃ b o,a=some ⟨b,o,Option.none⟩∧M.row b (o+j*s+p) 1=some [v]:=by
 have hp:p<s:=by rw[←hk x];exact(List.getElem?_eq_some_iff.1 hv).1
 have hj:j<n:=by have:=h.flen hk (by omega);have:=(List.getElem?_eq_some_iff.1 hx).1;omega
 obtain⟨b,o,ha,hr⟩:=h.elem hj (by omega);refine⟨b,o,ha,?_⟩;rw[hr p 1 (by omega)];have hat:=zy5 hk l j p x hx hp
 rw[hv] at hat;obtain⟨hlt,e⟩:=List.getElem?_eq_some_iff.1 hat;rw[List.drop_eq_getElem_cons hlt,e];simp
theorem SrcOk.fall {M:Mem} {a:Option Addr} {n:Nat} {l:List α} (h:SrcOk M s a n (l.flatMap enc)) (hs:0<s) {j:Nat} {x:α} (hx:l[j]? = some x):∃ b o,a=some ⟨b,o,Option.none⟩∧M.row b (o+j*s) s=some (enc x):=by
 have hj:j<n:=by have:=h.flen hk hs;have:=(List.getElem?_eq_some_iff.1 hx).1;omega
 obtain⟨b,o,ha,hr⟩:=h.elem hj hs;refine⟨b,o,ha,?_⟩;have:=hr 0 s (by omega)
 rw[Nat.add_zero] at this;rw[this];congr 1;apply List.ext_getElem?;intro t;by_cases ht:t<s
 ·rw[List.getElem?_take_of_lt ht,List.getElem?_drop,Nat.add_zero,zy5 hk l j t x hx ht]
 ·rw[List.getElem?_eq_none (by simp;omega),List.getElem?_eq_none (by rw[hk];omega)]
theorem SrcOk.fcells {M:Mem} {a:Option Addr} {n:Nat} {l:List α} (h:SrcOk M s a n (l.flatMap enc)) (hs:0<s) {j:Nat} {x:α} (hx:l[j]? = some x):∃ b o,a=some ⟨b,o,Option.none⟩∧∀ p v,(enc x)[p]? = some v→M.row b (o+j*s+p) 1=some [v]:=by
 obtain⟨b,o,ha,_⟩:=h.fall hk hs hx;refine⟨b,o,ha,fun p v hv=>?_⟩;obtain⟨b',o',ha',hr⟩:=h.fcell hk hx hv;rw[ha] at ha';cases ha';exact hr
theorem Wr.fstore {M:Mem} {E:TypeId} {a:Option Addr} {n c:Nat} {l:List α} (h:Wr M E s a n c (l.flatMap enc)) {j p:Nat} {x:α} (hx:l[j]? = some x) (hp:p<s) :
  ∃ b cs,a=some ⟨b,0,Option.none⟩∧M.cells b=some (E,cs)∧0+j*s+p+1≤cs.length∧∀ (x':α) (v:Value),enc x'=(enc x).set p v→Wr (M.setCells b E (ze cs (0+j*s+p) [v])) E s a n c ((l.set j x').flatMap enc)∧Mem.keep (z6 a) M (M.setCells b E (ze cs (0+j*s+p) [v])):=by
 have hl:=h.len;have hjl:=(List.getElem?_eq_some_iff.1 hx).1
 rw[zvV hk] at hl;have hln:l.length=n:=Nat.eq_of_mul_eq_mul_right (by omega) hl
 have hlt:j*s+p<n*s:=by
  have:(j+1)*s≤n*s:=Nat.mul_le_mul_right _ (by omega);rw[Nat.succ_mul] at this;omega
 obtain⟨h1,h2,⟨ha,hc⟩|⟨b,cs,ha,hh,hcl,ht⟩⟩:=h
 ·omega
 ·have hle:n*s≤c*s:=Nat.mul_le_mul_right _ h2;refine⟨b,cs,ha,hh.cells,by omega,fun x' v he=>⟨⟨?_,h2,.inr ⟨b,_,ha,Mem.has_setCells,?_,?_⟩⟩,?_⟩⟩
  ·rw[zvV hk];simp[hln]
  ·rw[ziH _ _ _ (by omega)];simpa using hcl
  ·rw[ziH _ _ _ (by omega),List.take_set,ht,Nat.zero_add];exact zAj hk l j p x x' v hx hp he
  ·intro y o hy hM;have hne:y≠b:=fun e=>hy ⟨_,ha,e.symm⟩
   unfold Mem.setCells;rw[Mem.upd_ne _ _ hne];exact hM
theorem NewSl.fstore {M M2:Mem} {E:TypeId} {a:Option Addr} {n c:Nat} {l:List α} (h:NewSl M E s a n c (l.flatMap enc) M2) {j p:Nat} {x:α} (hx:l[j]? = some x) (hp:p<s) :
  ∃ b cs,a=some ⟨b,0,Option.none⟩∧M2.cells b=some (E,cs)∧0+j*s+p+1≤cs.length∧∀ (x':α) (v:Value),enc x'=(enc x).set p v→NewSl M E s a n c ((l.set j x').flatMap enc) (M2.setCells b E (ze cs (0+j*s+p) [v]))∧Mem.keep (z6 a) M2 (M2.setCells b E (ze cs (0+j*s+p) [v])):=by
 obtain⟨b,cs,ha,hc,hl,hst⟩:=h.wr.fstore hk hx hp;exact⟨b,cs,ha,hc,hl,fun x' v he=>⟨h.ofWr (hst x' v he).1 (hst x' v he).2 rfl,(hst x' v he).2⟩⟩
omit hk in
theorem zdS {E:TypeId} {bytes:Nat} {a:Option Addr} {n c:Nat} {news:List Value} {M:Mem} {k:Option Addr→Nat→Mem→Prop} {l:List α} (M0:Mem) (hown:NewSl M0 E s a n c (l.flatMap enc) M) (x:α) (hx:news=enc x)
  (h1:(n+1)*bytes≤140737488355328) (h2:n+1≤maxLen) (h3:∀ u∈news,u.oneCell'=true) (hkk:∀ a' c' M',NewSl M0 E s a' (n+1) c' ((l++[x]).flatMap enc) M'→Mem.keep (z6 a) M M'→k a' c' M'):zaD E s bytes a n c 1 news M k:=by
 subst hx;refine zge M0 _ hown h1 h2 h3 fun a' c' M' hn hkp=>hkk a' c' M' ?_ hkp
 rw[List.flatMap_append];simpa using hn
end
end
section
theorem Mem.row_part {M:Mem} {b o k:Nat} {vs:List Value} (h:M.row b o k=some vs) {p n:Nat} (hp:p+n≤k):M.row b (o+p) n=some ((vs.drop p).take n):=by
 unfold Mem.row at h ⊢;split at h
 ·rename_i c e fz hc;split at h
  ·rename_i hle;simp only[Option.some.injEq] at h;subst h;rw[if_pos (by omega)];congr 1;rw[List.drop_take,List.take_take,List.drop_drop];congr 1;omega
  ·cases h
 ·cases h
theorem SrcOk.fparts {α:Type} {enc:α→List Value} {s:Nat} (hlen:∀ x,(enc x).length=s) {M:Mem} {a:Option Addr} {n:Nat} {l:List α} (h:SrcOk M s a n (l.flatMap enc)) (hs:0<s) {j:Nat} {x:α} (hx:l[j]? = some x) :
  ∃ b o,a=some ⟨b,o,Option.none⟩∧∀ p m,p+m≤s→M.row b (o+j*s+p) m=some (((enc x).drop p).take m):=by
 obtain⟨b,o,ha,hr⟩:=h.fall hlen hs hx;exact⟨b,o,ha,fun p m hp=>Mem.row_part hr hp⟩
end
end Go.Vm
namespace Go.Proofs.YtpdkkbpkplhdpaaGreat
open Go Go.Vm
attribute [local irreducible] Brn Ob Grow CallsM inR zax zav Mem.row Mem.cells Mem.setCells Mem.upd Go.Vm.Own zaD za5 zbc zaJ New SrcOk subA NewSl Mem.textAt Mem.mapAt Mem.iterAt zau zaj Wr NewEls Elems
set_option maxRecDepth 10000
variable {M:Mem}
def zuL (r p:Int):Int:=if zdd .and .u32 r 1=1 then zdd .xor .u32 (r.fdiv (2 ^ (min (Int.toNat 1) (IntKind.bits .u32)))) p else r.fdiv (2 ^ (min (Int.toNat 1) (IntKind.bits .u32)))
theorem zCR (r p:Int):CallsM Tryz.prog F.zlV [.int .u32 r,.int .u32 p] M fun v M'=>v = .int .u32 (zuL r p)∧M=M':=by
 refine zxv (by simp) ?_;(conv=>whnf);refine brn (fun g=>?_) (fun g=>?_)
 ·refine zR ?_;exact⟨by unfold zuL;rw[if_pos (Zd0 g)],rfl⟩
 ·refine zR ?_;exact⟨by unfold zuL;rw[if_neg (Zd1 g)],rfl⟩
def zuM (r:Int):Nat→Int
 | 0=>r
 | j+1=>zuL (zuM r j) 3988292384
def zEE (r:Int) (b:UInt8):Int:=zuM (zdd .xor .u32 r (IntKind.u32.wrap (b.toNat:Int))) 8
def zqk (r:Int) (l:List UInt8):Int:=l.foldl zEE r
def zeG (l:List UInt8):Int:=zdd .xor .u32 (if IntKind.u32.signed=true then -1 else IntKind.u32.max) (zqk 4294967295 l)
def znN (M:Mem) (cs:List Value) (x:List UInt8):Prop:=∃ a n c,cs=[.slice a n c]∧n≤c∧SrcOk M 1 a n (x.map zl)
theorem zrv {a:Option Addr} {n c:Nat} {ls:List (List UInt8)} (h:Elems M 1 a n (znN M) ls) (hn:n≤4194304) (hl:∀ l∈ls,l.length≤4194304) :
  CallsM Tryz.prog F.zgL [.slice a n c] M fun v M'=>v = .int .u32 (zeG ls.flatten)∧M=M':=by
 refine zyV (by simp) ?_;have hlen:=h.len
 (conv=>whnf);refine zdc (σ:=Nat) [10,3] (fun i=>[(10,.int .i64 i),(3,.int .u32 (zqk 4294967295 (ls.take i).flatten))]) (fun i=>i≤n) (fun i=>n - i) 0 (by omega) zS ?_;intro i hi;(conv=>whnf);refine brn (fun g=>?_) (fun g=>?_)
 ·have hlt:i<n:=by have:=Zd0 g;omega
  obtain⟨hl1,b,o,cs,ha, -, hrow,hcl,a1,n1,c1,rfl,hnc1,hs1⟩:=h.at (by decide) hlt;have hx:ls[i]? = some ls[i]:=List.getElem?_eq_getElem hl1
  have hll:=hl _ (List.getElem_mem hl1);have htk:(ls.take (i+1)).flatten=(ls.take i).flatten++ls[i]:=by rw[List.take_add_one,hx,List.flatten_append];simp only[Option.toList_some,List.flatten_cons,List.flatten_nil,List.append_nil]
  generalize ls[i]=x at *;have hxl:=hs1.maplen
  (conv=>whnf);refine ob (by first|omega|(dsimp only;omega)) ?_;(conv=>whnf);refine atp ha ?_;(conv=>whnf);refine on hrow ?_;refine zR ?_;refine zdc (σ:=Nat) [16,3] (fun j=>[(16,.int .i64 j),(3,.int .u32 (zqk 4294967295 ((ls.take i).flatten++x.take j)))]) (fun j=>j≤n1) (fun j=>n1 - j) 0 (by omega) ?_ ?_
  ·rw[List.take_zero,List.append_nil];exact zS
  intro j hj;(conv=>whnf);refine brn (fun g2=>?_) (fun g2=>?_)
  ·have hlt2:j<n1:=by have:=Zd0 g2;omega
   obtain⟨hk,b2,o2,ha2,hr2⟩:=hs1.at hlt2;have hxj:x[j]? = some x[j]:=List.getElem?_eq_getElem hk
   have htk2:x.take (j+1)=x.take j++[x[j]]:=by rw[List.take_add_one,hxj];rfl
   generalize x[j]=y at *;(conv=>whnf);refine ob (by first|omega|(dsimp only;omega)) ?_;(conv=>whnf);refine atp ha2 ?_;(conv=>whnf);refine on hr2 ?_;refine zR ?_;refine zdc (σ:=Nat) [24,3] (fun q=>[(24,.int .i64 q),(3,.int .u32 (zuM (zdd .xor .u32 (zqk 4294967295 ((ls.take i).flatten++x.take j)) (IntKind.u32.wrap (y.toNat:Int))) q))]) (fun q=>q≤8) (fun q=>8 - q) 0 (by omega) zS ?_;intro q hq;(conv=>whnf);refine brn (fun g3=>?_) (fun g3=>?_)
   ·have hlt3:q<8:=by have:=Zd0 g3;omega
    refine zR ?_;refine(zCR _ _).mono ?_;rintro v _ ⟨rfl,rfl⟩;refine zR ?_;refine ob (zd (by first|omega|(dsimp only;omega))) ?_;(conv=>whnf)
    exact⟨q+1,by omega,by omega,zS⟩
   ·have hge:q=8:=by have:=Zd1 g3;omega
    subst hge;refine zR ?_;refine ob (zd (by first|omega|(dsimp only;omega))) ?_;(conv=>whnf)
    refine⟨j+1,by omega,by omega,?_⟩
    have e:zqk 4294967295 ((ls.take i).flatten++x.take (j+1))=zuM (zdd .xor .u32 (zqk 4294967295 ((ls.take i).flatten++x.take j)) (IntKind.u32.wrap (y.toNat:Int))) 8:=by
     rw[htk2,←List.append_assoc];unfold zqk;rw[List.foldl_append (l':=[y])];rfl
    rw[e];exact zS
  ·have hge:j=n1:=by have:=Zd1 g2;omega
   subst hge;rw[List.take_of_length_le (l:=x) (by omega),←htk];refine zR ?_;refine ob (zd (by first|omega|(dsimp only;omega))) ?_;(conv=>whnf)
   exact⟨i+1,by omega,by omega,zS⟩
 ·have hge:i=n:=by have:=Zd1 g;omega
  subst hge;rw[List.take_of_length_le (l:=ls) (by omega)];refine zR ?_;exact⟨rfl,rfl⟩
end Go.Proofs.YtpdkkbpkplhdpaaGreat
namespace Go.Proofs.YtpdkkbpkplhdpaaGreat
open Go Go.Vm
attribute [local irreducible] Brn Ob Grow CallsM inR zax Mem.row Mem.cells Mem.setCells Mem.upd Go.Vm.Own zaD za5 zbc zaJ New SrcOk subA
def zdf (x:Int) (s:Int):UInt8:=UInt8.ofNat ((x.fdiv (2 ^ s.toNat)) % 256).toNat
def be:Nat→Int→List UInt8
 | 0,_=>[]
 | k+1,x=>zdf x (8*k)::be k x
def zcO (x size:Int):Int:=if size<1∨8<size then 1 else if size<8∧x.fdiv (2 ^ (8*size).toNat)≠0 then 3 else 0
theorem zcp:∀ (k:Nat) (x:Int),(be k x).length=k
 | 0,_=>rfl
 | k+1,x=>by simp[be,zcp k x]
theorem zAk (x:Int):∀ (m k:Nat),k<m→(be m x)[k]? = some (zdf x (8*((m:Int) - 1 - k)))
 | m+1,0,_=>by simp[be]
 | m+1,k+1,h=>by
  simp only[be,List.getElem?_cons_succ];rw[zAk x m k (by omega)];congr 2;omega
theorem zAl (x s:Int) (hs:0≤s∧s≤64):Value.int .u8 (IntKind.u8.wrap (x.fdiv (2 ^ (min s.toNat (IntKind.bits .u64)))))=zl (zdf x s):=by
 have h1:min s.toNat (IntKind.bits .u64)=s.toNat:=by simp[IntKind.bits];omega
 rw[h1];simp only[zl,zdf];congr 1;generalize x.fdiv (2 ^ s.toNat)=y
 have h:IntKind.u8.wrap y=y % 256:=by
  simp[IntKind.wrap,IntKind.signed,IntKind.bits]
 rw[h];have:0≤y % 256∧y % 256<256:=by omega
 simp;omega
set_option maxRecDepth 10000 in
theorem zfW (a:Option Addr) (n c:Nat) (x size:Int) (M:Mem) (bs:List UInt8) (hs:SrcOk M 1 a n (bs.map zl)) (hn:n≤4194304) :
  CallsM Tryz.prog F.zeu [.slice a n c,.int .u64 x,.int .i64 size] M fun v M'=>(zcO x size≠0∧v = .tuple #[.slice none 0 0,.int .i64 (zcO x size)]∧M=M') ∨
   (zcO x size=0∧∃ a' c',v = .tuple #[.slice a' (n+size.toNat) c',.int .i64 0]∧Go.Vm.Own M T.zn 1 a' (n+size.toNat) c' ((bs++be size.toNat x).map zl) M'):=by
 refine zxs (by simp) ?_;(conv=>whnf)
 refine brn (fun h1=>?_) (fun h1=>?_)
 ·(conv=>whnf);refine .inl ⟨?_,?_,rfl⟩<;>simp_all [zcO]
 (conv=>whnf);refine brn (fun h2=>?_) (fun h2=>?_)
 ·(conv=>whnf);refine .inl ⟨?_,?_,rfl⟩<;>simp_all [zcO]
 (conv=>whnf);simp only[decide_eq_false_iff_not,Int.not_lt] at h1 h2;have h64:min (8*size).toNat (IntKind.bits .u64)=(8*size).toNat:=by simp[IntKind.bits];omega
 refine brn (fun h3=>?_) (fun h3=>?_);(conv=>whnf)
 refine ob (zd (by omega)) ?_;(conv=>whnf)
 refine ob (by omega) ?_;(conv=>whnf)
 refine brn (fun h4=>?_) (fun h4=>?_)
 ·(conv=>whnf);rw[h64] at h4;have hp:zcO x size=3:=by simp_all [zcO]
  exact .inl ⟨by rw[hp];decide,by rw[hp],rfl⟩
 rw[h64] at h4;have hp:zcO x size=0:=by simp_all [zcO]
 rotate_left
 have hp:zcO x size=0:=by simp_all [zcO];omega
 all_goals
  (conv=>whnf);refine new (fun b hb=>?_);replace hb:M b=none:=hb;(conv=>whnf)
  refine zdR (SrcOk.le (Mem.le_setCells hb) hs) ?_;(conv=>whnf)
  refine app M [] (Own.lit hb T.zn 1 0 [] rfl) (by omega) (by simp[maxLen];omega) (by simp[zl,Value.oneCell']) fun a' c' M' hown=>?_
  (conv=>whnf);refine ob (zd (by omega)) ?_;(conv=>whnf)
  refine loop (σ:=Option Addr×Nat×Mem×Int×Nat×Nat) (fun|⟨a1,c1,M1,sh,N,_⟩=>⟨[(9,.int .i64 sh),(8,.slice a1 N c1),(1,.int .u64 x)],[],M1⟩)
   (fun|⟨a1,c1,M1,sh,N,k⟩=>sh=8*(size - k)∧N=n+k∧(k:Int)<size∧Go.Vm.Own M T.zn 1 a1 N c1 ((bs++(be size.toNat x).take k).map zl) M1)
   (fun|⟨_,_,_,sh,_,_⟩=>sh.toNat) ⟨a',c',M',8*size,0+n,0⟩ ⟨by simp,by simp,by simp;omega,by simpa using hown⟩ ⟨⟨rfl,rfl,rfl,trivial⟩,trivial,Mem.le_refl _,rfl⟩ ?_
  rintro ⟨a1,c1,M1,sh,N,k⟩ ⟨hsh,hN,hk,hown1⟩;(conv=>whnf)
  refine ob (zd (by omega)) ?_;(conv=>whnf)
  refine ob (by omega) ?_;(conv=>whnf)
  refine app M _ hown1 (by omega) (by simp[maxLen];omega) (by simp[Value.oneCell']) fun a2 c2 M2 hown2=>?_
  rw[zAl x (sh - 8) (by omega)] at hown2
  have hb1:(be size.toNat x)[k]? = some (zdf x (sh - 8)):=by
   rw[zAk x size.toNat k (by omega)];congr 2;omega
  have hl:(bs++(be size.toNat x).take k).map zl++[zl (zdf x (sh - 8))]=(bs++(be size.toNat x).take (k+1)).map zl:=by
   rw[List.take_add_one,hb1];simp
  rw[hl] at hown2;(conv=>whnf)
  refine brn (fun h5=>?_) (fun h5=>?_)
  ·(conv=>whnf);have hk1:k+1=size.toNat:=by simp at h5;omega
   have hN1:N+1=n+size.toNat:=by omega
   rw[hk1,List.take_of_length_le (by rw[zcp];omega),hN1] at hown2;rw[hN1];exact .inr ⟨hp,a2,c2,rfl,hown2⟩
  ·(conv=>whnf);simp at h5;exact⟨⟨a2,c2,M2,sh - 8,N+1,k+1⟩,⟨by omega,by omega,by omega,hown2⟩,by show (sh - 8).toNat<sh.toNat;omega,⟨rfl,rfl,rfl,trivial⟩,trivial,Mem.le_refl _,rfl⟩
end Go.Proofs.YtpdkkbpkplhdpaaGreat
namespace Go.Proofs.YtpdkkbpkplhdpaaGreat
open Go Go.Vm
attribute [local irreducible] Brn Ob Grow CallsM inR zax zav Mem.row Mem.cells Mem.setCells Mem.upd Go.Vm.Own zaD za5 zbc zaJ New SrcOk subA NewSl Mem.textAt Mem.mapAt Mem.iterAt zau zaj Wr NewEls Elems
set_option maxRecDepth 10000
section
def num:List UInt8→Nat→Nat
 | [],acc=>acc
 | b::r,acc=>num r (256*acc+b.toNat)
theorem zy6 (l r:List UInt8) (acc:Nat):num (l++r) acc=num r (num l acc):=by
 induction l generalizing acc with
 | nil=>rfl
 | cons b l ih=>simp[num,ih]
theorem zvW (l:List UInt8) (acc:Nat):num l acc<256 ^ l.length*(acc+1):=by
 induction l generalizing acc with
 | nil=>simp[num]
 | cons b l ih=>
  have:=ih (256*acc+b.toNat);have hb:=b.toNat_lt
  simp only[num,List.length_cons,Nat.pow_succ];refine Nat.lt_of_lt_of_le this ?_;rw[Nat.mul_assoc];exact Nat.mul_le_mul_left _ (by omega)
theorem zD5 (n b:Nat) (hb:b<256) (hn:n<2 ^ 56):zdd .or .u64 (IntKind.u64.wrap ((n:Int)*2 ^ (min (Int.toNat 8) (IntKind.bits .u64)))) (IntKind.u64.wrap (b:Int))=((256*n+b:Nat):Int):=by
 have h1:IntKind.u64.wrap ((n:Int)*2 ^ (min (Int.toNat 8) (IntKind.bits .u64)))=((256*n:Nat):Int):=by
  simp[IntKind.wrap,IntKind.signed,IntKind.bits];omega
 have h2:IntKind.u64.wrap (b:Int)=((b:Nat):Int):=by simp[IntKind.wrap,IntKind.signed,IntKind.bits];omega
 rw[h1,h2]
 have h3:(256*n) ||| b=256*n+b:=by
  have:=Nat.shiftLeft_add_eq_or_of_lt (i:=8) (b:=b) (by omega) n;rw[Nat.shiftLeft_eq,show (2:Nat) ^ 8=256 from rfl] at this;rw[Nat.mul_comm 256 n];omega
 simp only[zdd,IntKind.bits]
 have e1:(BitVec.ofInt 64 ((256*n:Nat):Int) ||| BitVec.ofInt 64 ((b:Nat):Int)).toNat=256*n+b:=by
  rw[BitVec.toNat_or,BitVec.ofInt_natCast,BitVec.ofInt_natCast,BitVec.toNat_ofNat,BitVec.toNat_ofNat,Nat.mod_eq_of_lt (by omega),Nat.mod_eq_of_lt (by omega),h3]
 erw [e1];simp[IntKind.wrap,IntKind.signed,IntKind.bits];omega
def zb5 (n:Nat) (at' size:Int):Int:=if size<1∨8<size∨at'<0 then 1 else if (n:Int)<at'∨(n:Int) - at'<size then 2 else 0
def zb6 (l:List UInt8) (at' size:Int):Nat:=num ((l.drop at'.toNat).take size.toNat) 0
theorem zfX (a:Option Addr) (n c:Nat) (M:Mem) (l:List UInt8) (hs:SrcOk M 1 a n (l.map zl)) (hn:n≤4194304) (hc:n≤c) (at' size:Int) (he:zb5 n at' size=0) :
  CallsM Tryz.prog F.zdP [.slice a n c,.int .i64 at',.int .i64 size] M fun v M'=>v = .tuple #[.int .u64 (zb6 l at' size),.int .i64 0]∧M=M':=by
 have hl:=hs.maplen
 have hb:(1≤size∧size≤8∧0≤at')∧at'≤n∧size≤n - at':=by
  unfold zb5 at he;split at he
  ·cases he
  ·split at he
   ·cases he
   ·omega
 refine zo8 (by simp) ?_;(conv=>whnf);refine brn_f (by simp;omega) ?_;(conv=>whnf);refine brn_f (by simp;omega) ?_;(conv=>whnf);refine brn_f (by simp;omega) ?_;(conv=>whnf);refine brn_f (by simp;omega) ?_;(conv=>whnf);refine ob (zd (by omega)) ?_;(conv=>whnf);refine brn_f (by simp;omega) ?_;(conv=>whnf);refine ob (zd (by omega)) ?_;(conv=>whnf);refine ob (by omega) ?_;have hsub:=hs.subm (lo:=at'.toNat) (hi:=(at'+size).toNat) (by omega) (by omega) hc
 have hK:(at'+size).toNat - at'.toNat=size.toNat:=by omega
 rw[hK] at hsub;have hcl:=hsub.maplen
 (conv=>whnf);rw[hK];refine zdc (σ:=Nat) [40,8] (fun i=>[(40,.int .i64 i),(8,.int .u64 (num (((l.drop at'.toNat).take size.toNat).take i) 0:Nat))]) (fun i=>i≤size.toNat) (fun i=>size.toNat - i) 0 (by omega) zS ?_;intro i hi;(conv=>whnf);refine brn (fun h=>?_) (fun h=>?_)
 ·have h':i<size.toNat:=by have:=Zd0 h;omega
  obtain⟨hlt,b,o,hp,hrow⟩:=hsub.at (i:=i) h';(conv=>whnf);refine ob (by omega) ?_;(conv=>whnf);refine atp hp ?_;(conv=>whnf);refine on hrow ?_;(conv=>whnf);refine ob (by decide) ?_;(conv=>whnf);refine ob (zd (by omega)) ?_;(conv=>whnf)
  refine⟨i+1,by omega,by omega,?_,trivial,Mem.le_refl _,rfl⟩;have hnl:=zvW (((l.drop at'.toNat).take size.toNat).take i) 0
  have hpow:(256:Nat) ^ (((l.drop at'.toNat).take size.toNat).take i).length≤256 ^ 7:=Nat.pow_le_pow_right (by decide) (by simp;omega)
  have e:=zD5 (num (((l.drop at'.toNat).take size.toNat).take i) 0) (((l.drop at'.toNat).take size.toNat)[i]).toNat (UInt8.toNat_lt _) (by
   have:(256:Nat) ^ 7=2 ^ 56:=by decide
   omega)
  have e2:num (((l.drop at'.toNat).take size.toNat).take (i+1)) 0=256*num (((l.drop at'.toNat).take size.toNat).take i) 0+(((l.drop at'.toNat).take size.toNat)[i]).toNat:=by
   rw[List.take_add_one,List.getElem?_eq_getElem hlt,zy6];rfl
  refine⟨rfl,?_⟩;refine⟨?_,(by repeat' first|exact True.intro|refine⟨rfl,?_⟩)⟩;show some (SV.int .u64 _)=some (SV.int .u64 _)
  rw[e2];exact congrArg (fun z=>some (SV.int .u64 z)) e
 ·have h':i=size.toNat:=by have:=Zd1 h;omega
  subst h';(conv=>whnf)
  refine⟨?_,rfl⟩;rw[zb6,List.take_of_length_le (l:=(l.drop at'.toNat).take size.toNat) (by omega)]
theorem zl7 (a:Option Addr) (n c:Nat) (M:Mem) (at' size:Int) (he:zb5 n at' size≠0) (hn:n≤4194304):CallsM Tryz.prog F.zdP [.slice a n c,.int .i64 at',.int .i64 size] M fun v M'=>v = .tuple #[.int .u64 0,.int .i64 (zb5 n at' size)]∧M=M':=by
 refine zo8 (by simp) ?_;by_cases h1:size<1∨8<size∨at'<0
 ·have e:zb5 n at' size=1:=by rw[zb5,if_pos h1]
  rw[e]
  repeat' ((conv=>whnf);first|refine brn (fun h=>?_) (fun h=>?_)|refine ob (zd (by simp at *; omega)) ?_|fail)
  all_goals (try (conv=>whnf))
  all_goals simp only[decide_eq_true_eq,decide_eq_false_iff_not] at *
  all_goals first
   | exact⟨rfl,rfl⟩
   | exact⟨trivial,trivial⟩
   | (exfalso;omega)
 ·have h2:(n:Int)<at'∨(n:Int) - at'<size:=by
   rw[zb5,if_neg h1] at he;split at he
   ·assumption
   ·exact absurd rfl he
  have e:zb5 n at' size=2:=by rw[zb5,if_neg h1,if_pos h2]
  rw[e]
  repeat' ((conv=>whnf);first|refine brn (fun h=>?_) (fun h=>?_)|refine ob (zd (by simp at *; omega)) ?_|refine ob (by simp at *; omega) ?_|fail)
  all_goals (try (conv=>whnf))
  all_goals simp only[decide_eq_true_eq,decide_eq_false_iff_not] at *
  all_goals first
   | exact⟨rfl,rfl⟩
   | exact⟨trivial,trivial⟩
   | (exfalso;omega)
end
section
variable {M:Mem}
theorem zAm (n:Int):0≤IntKind.u32.wrap n∧IntKind.u32.wrap n<4294967296:=by
 simp[IntKind.wrap,IntKind.signed,IntKind.bits];omega
theorem zhe (l:List UInt8):0≤zeG l∧zeG l<4294967296:=by
 unfold zeG zdd;exact zAm _
theorem zgM {n:Int} (h:0≤n∧n<18446744073709551616):IntKind.u64.wrap n=n:=by
 simp[IntKind.wrap,IntKind.signed,IntKind.bits];omega
theorem znO {n:Int} (h:0≤n∧n≤9223372036854775807):IntKind.i64.wrap n=n:=by
 simp[IntKind.wrap,IntKind.signed,IntKind.bits];omega
def zap (p:List UInt8):List UInt8:=be 4 p.length++be 4 (zeG (be 4 p.length++p))++p
def zgf (p:List UInt8):Int:=if p.length=0 then 2 else if 65536<p.length then 3 else 0
theorem zsS {x:Int} (h:0≤x∧x<4294967296):zcO x 4=0:=by
 unfold zcO
 have h2:x.fdiv (2 ^ (8*(4:Int)).toNat)=0:=by
  have e:(2:Int) ^ (8*(4:Int)).toNat=4294967296:=by decide
  rw[e,Int.fdiv_eq_ediv_of_nonneg _ (by decide)];exact Int.ediv_eq_zero_of_lt h.1 h.2
 rw[if_neg (by decide),if_neg (by rw[h2];simp)]
theorem zD6 {a:Option Addr} {n c:Nat} {p:List UInt8} (hs:SrcOk M 1 a n (p.map zl)) (hn:n≤2097152) (hnc:n≤c):CallsM Tryz.prog F.zjz [.slice a n c] M fun v M'=>
  (zgf p≠0∧v = .tuple #[.slice none 0 0,.int .i64 (zgf p)]∧M=M')∨(zgf p=0∧∃ a' n' c',n'=(zap p).length∧v = .tuple #[.slice a' n' c',.int .i64 0]∧NewSl M T.zn 1 a' n' c' ((zap p).map zl) M'):=by
 refine zuo (by simp) ?_;have hl:=hs.maplen
 (conv=>whnf);refine brn (fun g=>?_) (fun g=>?_)
 ·have g1:n=0:=by have:=Zd0 g;omega
  have e:zgf p=2:=by unfold zgf;rw[if_pos (by omega)]
  refine zR ?_;rw[e];exact .inl ⟨by decide,rfl,rfl⟩
 have g1:¬n=0:=by have:=Zd1 g;omega
 (conv=>whnf);refine brn (fun g=>?_) (fun g=>?_)
 ·have g2:65536<n:=by have:=Zd0 g;omega
  have e:zgf p=3:=by unfold zgf;rw[if_neg (by omega),if_pos (by omega)]
  refine zR ?_;rw[e];exact .inl ⟨by decide,rfl,rfl⟩
 have g2:¬65536<n:=by have:=Zd1 g;omega
 have e0:zgf p=0:=by unfold zgf;rw[if_neg (by omega),if_neg (by omega)]
 (conv=>whnf);rw[zgM (n:=(n:Int)) (by omega)];refine(zfW none 0 0 n 4 M [] (SrcOk.nil M 1) (by decide)).mono ?_;rintro v M1 (⟨hbad, -, -⟩|⟨-, a1,c1,rfl,hN1⟩)
 ·exact absurd (zsS (by omega)) hbad
 replace hN1:=hN1.new;rw[List.nil_append] at hN1;have hk4:(0:Nat)+(4:Int).toNat=4:=rfl
 have hk4':(4:Int).toNat=4:=rfl;rw[hk4,hk4'] at hN1;rw[hk4];(conv=>whnf);refine new (fun b2 hb2=>?_);replace hb2:M1 b2=none:=hb2;have hle2:M1.le (M1.setCells b2 T.zaK [.slice a1 4 c1,.slice a n c]):=Mem.le_setCells hb2
 have hs2:SrcOk (M1.setCells b2 T.zaK [.slice a1 4 c1,.slice a n c]) 1 (some ⟨b2,0,none⟩) 2 [.slice a1 4 c1,.slice a n c]:=SrcOk.lit rfl;obtain⟨M2,hM2⟩:∃ M2,M2=M1.setCells b2 T.zaK [.slice a1 4 c1,.slice a n c]:=⟨_,rfl⟩
 rw[←hM2] at hle2 hs2;(conv=>whnf)
 erw [←hM2];have hcc:4≤c1:=(newSl_iff.1 hN1).2.2.1
 have hE:Elems M2 1 (some ⟨b2,0,none⟩) 2 (znN M2) [be 4 n,p]:=by
  unfold Elems;refine⟨[[.slice a1 4 c1],[.slice a n c]],hs2,rfl,rfl,by simp,fun i cs x hi hx=>?_⟩
  match i,hi,hx with
  | 0,hi,hx=>cases hi;cases hx;exact⟨a1,4,c1,rfl,hcc,hN1.src.le hle2⟩
  | 1,hi,hx=>cases hi;cases hx;exact⟨a,n,c,rfl,hnc,(hs.le hN1.le).le hle2⟩
  | i+2,hi,hx=>simp at hi
 refine(zrv hE (by decide) (fun l hl2=>by
  rcases List.mem_cons.1 hl2 with rfl|hl2
  ·rw[zcp];decide
  ·simp at hl2;subst hl2;omega)).mono ?_
 rintro v _ ⟨rfl,rfl⟩;have hfl:[be 4 (n:Int),p].flatten=be 4 p.length++p:=by rw[←hl];simp
 rw[hfl];have hsr:=zhe (be 4 p.length++p)
 (conv=>whnf);rw[zgM (n:=zeG (be 4 p.length++p)) (by omega)];refine(zfW a1 4 c1 (zeG (be 4 p.length++p)) 4 M2 (be 4 n) (hN1.src.le hle2) (by decide)).mono ?_;rintro v M3 (⟨hbad, -, -⟩|⟨-, a3,c3,rfl,hN3⟩)
 ·exact absurd (zsS (by omega)) hbad
 replace hN3:=hN3.new;rw[hk4'] at hN3;rw[hk4'];refine zR ?_;refine zdR (((hs.le hN1.le).le hle2).le hN3.le) ?_;(conv=>whnf);refine ze6 M2 _ hN3 (by omega) (by simp[maxLen];omega) (zco p) fun a4 c4 M4 hN4=>?_
 refine zR ?_;refine .inr ⟨e0,a4,_,c4,?_,rfl,?_⟩
 ·show 4+4+n=_;unfold zap;simp only[List.length_append,zcp];omega
 ·have e:(zap p).map zl=(be 4 n++be 4 (zeG (be 4 p.length++p))).map zl++p.map zl:=by rw[←List.map_append];unfold zap;rw[hl]
  rw[e];exact hN4.mono (Mem.le_trans hN1.le hle2)
end
end Go.Proofs.YtpdkkbpkplhdpaaGreat
