/- Part of this proof;laid by program. -/
import Derived.Test.YtpnhjkiligohnaaGreatDoorJ17
import Derived.Test.YtpnhjkiligohnaaGreatDoorJ7
set_option linter.unusedVariables false
set_option linter.unusedSimpArgs false
namespace Go.Vm.Rn
open Go.Vm
set_option linter.unusedVariables false
section
section
variable {P:Program} {σ:List E} {s:S} {t:St} {y:Out} {nb:Nat}
theorem zOm {c:C} {K:Nat→R} (h:zsn (.c c) K=some y) {u:Value} (hu:CR σ c u):∃ a n k,u = .slice a n k∧K n=some y:=by
 obtain⟨a,n,k,h1,h2⟩:=zxu (nb:=0) h (zwP hu);refine⟨a,n,k,?_,h2⟩;cases u<;>simp only[zf4,SV.slice,SV.c.injEq,SC.v.injEq,reduceCtorEq] at h1<;>first|exact h1|cases h1
theorem zRt {c:C} {K:Nat→Nat→Nat→R} (h:zAy (.c c) K=some y) {u:Value} (hu:CR σ c u):∃ a o n x k,u = .slice x n k∧K a o n=some y∧∃ e,σ[a]? = some e∧(x=some ⟨e.addr,o,none⟩∨(n=0∧x=none)):=by
 obtain⟨a,o,n,x,k,h1,h2,h3⟩:=zHq (nb:=0) h (zwP hu);refine⟨a,o,n,x,k,?_,h2,h3⟩;cases u<;>simp only[zf4,SV.slice,SV.c.injEq,SC.v.injEq,reduceCtorEq] at h1<;>first|exact h1|cases h1
theorem zne {l:List C} {vs:List Value} (h:All2 (CR σ) l vs):∀ u∈vs,u.oneCell'=true:=by
 induction l generalizing vs with
 | nil=>cases vs with
  | nil=>simp
  | cons _ _=>exact h.elim
 | cons c l ih=>cases vs with
  | nil=>exact h.elim
  | cons v vs=>
   intro u hu;rcases List.mem_cons.1 hu with rfl|hu
   ·exact h.1.one
   ·exact ih h.2 u hu
theorem own_new {H:T O} {M0:Mem} (hh:HR σ H M0) {T z n:Nat} {l:List C} {L:List Value} (hl:All2 (CR σ) l L) {a':Option Addr} {c':Nat} {M':Mem} (ho:Own M0 T z a' n c' L M') :
  ∃ e:E,HR (σ++[e]) (H.put σ.length (some (.gr T z l))) M'∧(C.g σ.length 0 0 n).val (σ++[e])=some (.slice a' n c'):=by
 obtain⟨h1,h2,⟨ha,hc,hM⟩|⟨b,cs,ha,hb,hM,hcl,hct⟩⟩:=ho
 ·have hn:n=0:=by omega
  subst hn ha hc hM;have hL:L=[]:=List.length_eq_zero_iff.1 (by rw[h1,Nat.zero_mul])
  have hll:l=[]:=List.length_eq_zero_iff.1 (by rw[hl.len,hL];rfl);refine⟨⟨0,0,true,[]⟩,hh.new (fun _ _=>rfl) (fun h=>by cases h) ⟨L,hl.imp fun _ _ h=>h.mono _,.inl ⟨rfl,hll,rfl⟩⟩,?_⟩;simp[C.val]
 ·subst ha hM;have hsp:cs=L++cs.drop (n*z):=by rw[←hct];simp
  refine⟨⟨b,c',false,cs.drop (n*z)⟩,hh.new (fun x hx=>by simp[Mem.setCells,Mem.upd,hx rfl]) (fun _=>hb) ⟨L,hl.imp fun _ _ h=>h.mono _,.inr ⟨rfl,?_,?_⟩⟩,?_⟩
  ·rw[←hsp];simp[Mem.setCells,Mem.upd]
  ·rw[←hsp];exact hcl
  ·simp[C.val,h2]
theorem SR.grown {fr:List (Nat×SV)} {bx:List BE} {M:Mem} (h:SR σ s ⟨fr,bx,M⟩) {e:E} {H':T O} {M':Mem} (hh:HR (σ++[e]) H' M'):SR (σ++[e]) ⟨s.nl,s.tl,s.L,s.bx,s.n+1,H',s.g⟩ ⟨fr,bx,M'⟩:=
 ⟨by simp[h.n],(h.fr.mono [e] (Nat.le_refl _)).same rfl rfl rfl,h.bx.imp fun _ _ hb=>hb.mono [e] (Nat.le_refl _),hh⟩
theorem grow_s {T size bytes n m:Nat} {L vs:List C} {K:V→S→R} (h:grow T size bytes n L m vs s K=some y) :
  (n+m)*bytes≤140737488355328∧n+m≤maxLen∧K (.c (.g s.n 0 0 (n+m))) ⟨s.nl,s.tl,s.L,s.bx,s.n+1,s.H.put s.n (some (.gr T size (L++vs))),s.g⟩=some y:=by
 obtain⟨h1,h2⟩:=zx h;obtain⟨h3,h4⟩:=zx h2;rw[znc,fN_eq,zpC] at h4;exact⟨Nat.le_of_ble_eq_true h1,Nat.le_of_ble_eq_true h3,h4⟩
theorem zTW (T size bytes:Nat) (z:List Value) (x y:Operand):LS P (.app T size bytes z x y) (zSI T size bytes z x y):=fun {σ s t w K k} hr h hk=>by
 refine z7 h hr.fr fun v sv _ hv h1=>?_
 refine zpD h1 hr hv fun σ1 uw u s1 t1 hx1 hr1 huw h2=>?_
 cases uw with
 | c c=>
  replace h2:(zsn (.c c) fun _=>ev s1 y fun v=>zSG T size bytes c s1 v K)=some w:=h2;obtain⟨a,n,cp,rfl,h3⟩:=zOm h2 huw;show Vm.ev t1 y _
  refine z7 h3 hr1.fr fun v sv _ hv1 h4=>?_
  refine zQx h4 hr1 hv1 fun σ2 m lv vs s2 t2 hx2 hr2 hlv hlen h5=>?_
  have hcc:CR σ2 c (.slice a n cp):=CR.ext hx2 huw;have hx:=hx1.trans hx2
  clear h4 h3 h2 h1;obtain⟨fr,bx,M⟩:=t2
  have fin:∀ {H0:Rn.T O} {M0:Mem} {Lc:List C} {Lv:List Value},HR σ2 H0 M0→All2 (CR σ2) Lc Lv →
    K (.c (.g s2.n 0 0 (n+m))) ⟨s2.nl,s2.tl,s2.L,s2.bx,s2.n+1,H0.put s2.n (some (.gr T size (Lc++lv))),s2.g⟩=some w →
    ∀ a' c' M',Own M0 T size a' (n+m) c' (Lv++vs) M'→k (.slice a' (n+m) c') ⟨fr,bx,M'⟩:=fun {H0 M0 Lc Lv} hh hl hK a' c' M' ho=>by
   obtain⟨e,h6,h7⟩:=own_new hh (hl.append hlv) ho;rw[←hr2.n] at h6 h7;exact hk (σ2++[e]) (.c (.g s2.n 0 0 (n+m))) _ _ _ (hx.trans ⟨⟨_,rfl⟩,Nat.le_refl _⟩) (hr2.grown h6) (zbk h7) hK
  show zbN T size bytes a n cp m vs M _;cases c with
  | nl=>
   have hu:some (Value.slice none 0 0)=some (Value.slice a n cp):=hcc;cases hu;obtain⟨h6,h7,h8⟩:=grow_s (s:=s2) h5;refine⟨h6,h7,zne hlv,.inl ⟨M,[],⟨by simp,Nat.le_refl _,.inl ⟨rfl,rfl,rfl⟩⟩,fun a' c' M' _ ho=>fin hr2.h (Lc:=[]) (Lv:=[]) trivial h8 a' c' M' ho⟩⟩
  | h ab o d q zz w0=>
   cases w0 with
   | false=>cases h5
   | true=>
    obtain⟨h9,h10⟩:=zx (b:=Nat.blt 0 m) h5;have hm:0<m:=by simpa[Nat.blt_eq] using h9
    have hu:=hcc;simp only[CR,C.val,Option.bind_eq_some_iff] at hu;obtain⟨e,he,hu⟩:=hu;split at hu
    ·cases hu;obtain⟨h6,h7,h8⟩:=grow_s (s:=s2) h10;refine⟨h6,h7,zne hlv,.inr <| .inl ⟨by rw[if_pos trivial];omega,Nat.zero_le _,[],⟨by simp,.inl rfl⟩,fun a' c' M' _ ho=>fin hr2.h (Lc:=[]) (Lv:=[]) trivial h8 a' c' M' ho⟩⟩
    ·cases hu
  | l ab o n' c'=>
   have hu:=hcc;simp only[CR,C.val,Option.map_eq_some_iff] at hu;obtain⟨e,he,hu⟩:=hu;cases hu
   have h6:(Bool.rec (Bool.rec (cB (Nat.beq o 0) (s2.hget ab fun x=>match x with
     | .row E' l=>zew l fun k=>cB (Nat.beq E' T) (cB (Nat.beq k (cp*size)) (cB (Nat.ble n cp) (zqU (n*size) l fun l'=>s2.hset ab none fun s'=>grow T size bytes n l' m lv s' K) fail) fail) fail
     | _=>fail) fail) (cB (Nat.ble ((n+m)*bytes) 140737488355328) (cB (Nat.ble (n+m) maxLen) (cB (Nat.ble n cp) (K (.c (.l ab o n cp)) s2) fail) fail) fail) (Nat.beq m 0)) (cB (Nat.ble n cp) (row s2 ab o (n*size) fun l=>grow T size bytes n l m lv s2 K) fail) (Nat.blt cp (n+m)):R)=some w:=h5
   cases hb:Nat.blt cp (n+m) with
   | true=>
    rw[hb] at h6;obtain⟨h7,h8⟩:=zx (b:=Nat.ble n cp) h6;obtain⟨l,ls,e',h9,h10,h11,h12,h13⟩:=zCx h8 hr2.q;rw[he] at h9;cases h9;obtain⟨h14,h15,h16⟩:=grow_s h12;have hlt:cp<n+m:=by simpa[Nat.blt_eq] using hb
    refine⟨h14,h15,zne hlv,.inr <| .inl ⟨hlt,Nat.le_of_ble_eq_true h7,ls,⟨by rw[←h11.len];exact h10,?_⟩,fun a' c' M' _ ho=>fin hr2.h h11 h16 a' c' M' ho⟩⟩;rcases h13 with h13|h13
    ·left;rw[h13] at h10;exact List.length_eq_zero_iff.1 (by rw[←h11.len,h10])
    ·exact .inr ⟨_,_,rfl,h13⟩
   | false=>
    rw[hb] at h6;cases hm0:Nat.beq m 0 with
    | true=>
     rw[hm0] at h6;obtain⟨h7,h8⟩:=zx (b:=Nat.ble ((n+m)*bytes) 140737488355328) h6;obtain⟨h9,h10⟩:=zx h8;obtain⟨h11,h12⟩:=zx h10;have hm:=Nat.eq_of_beq_eq_true hm0
     subst hm;exact⟨Nat.le_of_ble_eq_true h7,Nat.le_of_ble_eq_true h9,zne hlv,.inr <| .inr ⟨rfl,Nat.le_of_ble_eq_true h11,hk σ2 (.c (.l ab o n cp)) _ _ _ hx hr2 (zbk hcc) h12⟩⟩
    | false=>
     rw[hm0] at h6;obtain⟨h7,h8⟩:=zx (b:=Nat.beq o 0) h6;have ho0:=Nat.eq_of_beq_eq_true h7
     subst ho0;obtain⟨ob, -, h9,h10⟩:=zdo h8;obtain⟨e',he',hob⟩:=hr2.h.has ab ob h9;rw[he] at he';cases he';cases ob with
     | row T' l=>
      replace h10:(zew l fun k=>cB (Nat.beq T' T) (cB (Nat.beq k (cp*size)) (cB (Nat.ble n cp) (zqU (n*size) l fun l'=>s2.hset ab none fun s'=>grow T size bytes n l' m lv s' K) fail) fail) fail)=some w:=h10;rw[zb4] at h10;obtain⟨h11,h12⟩:=zx h10;obtain⟨h13,h14⟩:=zx h12;obtain⟨h15,h16⟩:=zx h14;obtain⟨h17,h18⟩:=ztw h16;rw[zi2] at h18;have hT:=Nat.eq_of_beq_eq_true h11
      subst hT;have hlen2:=Nat.eq_of_beq_eq_true h13
      have hncp:=Nat.le_of_ble_eq_true h15;obtain⟨h0,us,h19,h20⟩:=hob;have hul:=h19.len
      obtain⟨h21,h22,h23⟩:=grow_s h18
      let M0:Mem:=fun x=>if x=e.addr then none else M x
      have hM:M=M0.setCells e.addr T' us:=by
       funext x;simp only[M0,Mem.setCells,Mem.upd];split
       ·rename_i hx;rw[hx];exact h20
       ·rfl
      have hdel:HR σ2 (s2.H.put ab none) M0:=hr2.h.del h9 he fun x hx=>by simp[M0,hx h0]
      refine⟨h21,h22,zne hlv,.inl ⟨M0,us.take (n*size),⟨by rw[List.length_take,←hul,hlen2];have:n*size≤cp*size:=Nat.mul_le_mul_right _ hncp;omega,hncp,.inr ⟨e.addr,us,rfl,by simp[M0],hM,by rw[←hul];exact hlen2,rfl⟩⟩,fun a' c' M' _ ho=>fin hdel (h19.take _) h23 a' c' M' ho⟩⟩
     | _=>cases h10
  | g ab o d n'=>
   replace h5:(cB (Nat.beq o 0) (cB (Nat.beq d 0) (s2.hget ab fun x=>match x with
     | .gr E' z l=>cB (Nat.beq E' T) (cB (Nat.beq z size) (zqU (n'*size) l fun l'=>s2.hset ab none fun s'=>grow T size bytes n' l' m lv s' K) fail) fail
     | _=>fail) fail) fail)=some w:=h5
   obtain⟨h6,h7⟩:=zx h5;obtain⟨h8,h9⟩:=zx h7;have ho0:=Nat.eq_of_beq_eq_true h6
   have hd0:=Nat.eq_of_beq_eq_true h8;subst ho0 hd0;obtain⟨ob, -, h10,h11⟩:=zdo h9;obtain⟨e,he,hob⟩:=hr2.h.has ab ob h10;have hu:=hcc
   simp only[CR,C.val,Option.bind_eq_some_iff] at hu;obtain⟨e',he',hu⟩:=hu;rw[he] at he';cases he';cases ob with
   | gr T' z' l=>
    replace h11:cB (Nat.beq T' T) (cB (Nat.beq z' size) (zqU (n'*size) l fun l'=>s2.hset ab none fun s'=>grow T size bytes n' l' m lv s' K) fail) fail=some w:=h11;obtain⟨h12,h13⟩:=zx h11;obtain⟨h14,h15⟩:=zx h13;obtain⟨h16,h17⟩:=ztw h15;rw[zi2] at h17;have hT:=Nat.eq_of_beq_eq_true h12
    have hz:=Nat.eq_of_beq_eq_true h14;subst hT hz;obtain⟨us,h18,h19⟩:=hob;have hul:=h18.len
    obtain⟨h21,h22,h23⟩:=grow_s h17;split at hu<;>split at hu
    ·rename_i hn hc;cases hu;obtain⟨rfl, -, -⟩:=hc;have hdel:HR σ2 (s2.H.put ab none) M:=hr2.h.del h10 he fun x _=>rfl
     refine⟨h21,h22,zne hlv,.inl ⟨M,[],⟨by simp,Nat.le_refl _,.inl ⟨rfl,rfl,rfl⟩⟩,fun a' c' M' _ ho=>fin hdel (Lc:=l.take (0*z')) (Lv:=[]) (by rw[Nat.zero_mul];trivial) h23 a' c' M' ho⟩⟩
    ·cases hu
    ·rename_i hn hc;cases hu;rcases h19 with ⟨h19, -⟩|⟨h0,h19,h20⟩
     ·exact absurd h19 hn
     ·let M0:Mem:=fun x=>if x=e.addr then none else M x
      have hM:M=M0.setCells e.addr T' (us++e.sp):=by
       funext x;simp only[M0,Mem.setCells,Mem.upd];split
       ·rename_i hx;rw[hx];exact h19
       ·rfl
      have hdel:HR σ2 (s2.H.put ab none) M0:=hr2.h.del h10 he fun x hx=>by simp[M0,hx h0]
      refine⟨h21,h22,zne hlv,.inl ⟨M0,us.take (n*z'),⟨by rw[List.length_take];omega,by omega,.inr ⟨e.addr,us++e.sp,rfl,by simp[M0],hM,by rw[h20];simp,by rw[List.take_append_of_le_length (by omega)]⟩⟩,fun a' c' M' _ ho=>fin hdel (h18.take _) h23 a' c' M' ho⟩⟩
    ·cases hu
   | _=>cases h11
  | _=>cases h5
 | _=>cases h2
end
end
section
section
variable {P:Program} {σ:List E} {s:S} {t:St} {y:Out} {nb:Nat}
theorem SR.newU {fr:List (Nat×SV)} {bx:List BE} {M:Mem} (h:SR σ s ⟨fr,bx,M⟩) {b:Nat} (hb:M b=none) {o:O} {ob:Obj} (ho:∀ M',M' b=some ob→OR (σ++[⟨b,0,false,[]⟩]) ⟨b,0,false,[]⟩ o M') :
  SR (σ++[⟨b,0,false,[]⟩]) ⟨s.nl,s.tl,s.L,s.bx,s.n+1,s.H.put s.n (some o),s.g⟩ ⟨fr,bx,M.upd b ob⟩:=
 h.new (e:=⟨b,0,false,[]⟩) (fun x hx=>by simp[Mem.upd,hx rfl]) (fun _=>hb) (ho _ (by simp[Mem.upd]))
theorem zq5 (hn:s.n=σ.length) (e:E):(σ++[e])[s.n]? = some e:=by rw[hn];simp
theorem zRu:LS P .mkMap zME:=fun {σ s t y K k} hr h hk=>by
 obtain⟨fr,bx,M⟩:=t;replace h:(s.new (.mp [] 0) fun a s'=>K (.c (.m a)) s')=some y:=h;rw[zpC] at h;intro b hb;refine hk _ (.c (.m s.n)) _ _ _ ⟨⟨_,rfl⟩,Nat.le_refl _⟩ (hr.newU hb (o := .mp [] 0) fun M' hM=>⟨rfl,[],trivial,hM⟩) (zbk (by simp[C.val,zq5 hr.n])) h
theorem zuL {α β:Type} {Q:α→β→Prop} {l:List α} {r:List β} (h:All2 Q l r):∀ n,All2 Q (List.replicate n l).flatten (List.replicate n r).flatten
 | 0=>trivial
 | n+1=>by rw[List.replicate_succ,List.replicate_succ];exact h.append (zuL h n)
theorem zRv (T bytes:Nat) (z:List Value) (x w:Operand):LS P (.mkSlN T bytes z x w) (zMF T bytes z x w):=fun {σ s t y K k} hr h hk=>by
 refine ze8 h hr.fr fun q n h1=>ze8 h1 hr.fr fun q' c h2=>?_
 obtain⟨n,rfl,h3⟩:=ziZ h2;obtain⟨c,rfl,h4⟩:=ziZ h3;obtain⟨h5,h6⟩:=zx h4;obtain⟨h7,h8⟩:=zx h6;obtain⟨h9,h10⟩:=zx h8;obtain⟨l,h11,h12⟩:=zry σ h10;rw[zxo,zpC] at h12;have hnc:=Nat.eq_of_beq_eq_true h5
 subst hnc;have hb:=Nat.le_of_ble_eq_true h7
 have hn:=Nat.le_of_ble_eq_true h9;obtain⟨fr,bx,M⟩:=t;refine⟨⟨by omega,rfl,by omega,by omega⟩,fun b hbn=>?_⟩;rw[Int.toNat_natCast];refine hk _ (.c (.l s.n 0 n n)) _ _ _ ⟨⟨_,rfl⟩,Nat.le_refl _⟩ (hr.newU hbn (o := .row T _) fun M' hM=>⟨rfl,_,zuL (h11.imp fun _ _ h=>h.mono _) n,hM⟩) (zbk (by simp[C.val,zq5 hr.n])) h12
theorem zRw (T bytes:Nat) (z:List Value) (x w:Operand):LS P (.mkSlC T bytes z x w) (zMG T bytes z x w):=fun {σ s t y K k} hr h hk=>by
 refine ze8 h hr.fr fun q n h1=>ze8 h1 hr.fr fun q' c h2=>?_
 obtain⟨n,rfl,h3⟩:=ziZ h2;obtain⟨c,rfl,h4⟩:=ziZ h3;obtain⟨h5,h6⟩:=zx h4;obtain⟨h7,h8⟩:=zx h6;obtain⟨h9,h10⟩:=zx h8;obtain⟨l,h11,h12⟩:=zry σ h10;rw[zxo,zpC] at h12;have hnc:=Nat.le_of_ble_eq_true h5
 have hb:=Nat.le_of_ble_eq_true h7;have hn:=Nat.le_of_ble_eq_true h9
 obtain⟨fr,bx,M⟩:=t;refine⟨⟨by omega,by omega,by omega,by omega⟩,fun b hbn=>?_⟩;rw[Int.toNat_natCast,Int.toNat_natCast];refine hk _ (.c (.l s.n 0 n c)) _ _ _ ⟨⟨_,rfl⟩,Nat.le_refl _⟩ (hr.newU hbn (o := .row T _) fun M' hM=>⟨rfl,_,zuL (h11.imp fun _ _ h=>h.mono _) c,hM⟩) (zbk (by simp[C.val,zq5 hr.n])) h12
theorem zTX (size:Nat) (x w:Operand):LS P (.cpy size x w) (zSJ size x w):=fun {σ s t y K k} hr h hk=>by
 refine z7 h hr.fr fun v sv _ hv h1=>?_
 refine zpD h1 hr hv fun σ1 uw u s1 t1 hx1 hr1 huw h2=>?_
 cases uw with
 | c c=>
  replace h2:(zAy (.c c) fun a o m=>ev s1 w fun v=>src size v s1 fun n vs s2=>cB (Nat.ble n m) (zew vs fun q=>cB (Nat.blt 0 q) (cB (Nat.beq q (n*size)) (s2.hget a fun ob=>ob.wr o vs fun ob'=>s2.hset a (some ob') fun s3=>K (.c (.n .i64 (.ofNat n))) s3) fail) fail) fail)=some y:=h2;obtain⟨a,o,m,q,cp,rfl,h3,e,he,hq⟩:=zRt h2 huw;show Vm.ev t1 w _
  refine z7 h3 hr1.fr fun v sv _ hv1 h4=>?_
  refine zQx h4 hr1 hv1 fun σ2 n lv vs s2 t2 hx2 hr2 hlv hlen h5=>?_
  obtain⟨h6,h7⟩:=zx h5;rw[zb4] at h7;obtain⟨h8,h9⟩:=zx h7;obtain⟨h10,h11⟩:=zx h9;have hnm:=Nat.le_of_ble_eq_true h6
  have hq0:0<lv.length:=by simpa[Nat.blt_eq] using h8
  have hqn:=Nat.eq_of_beq_eq_true h10;refine⟨⟨hnm,zne hlv⟩,?_⟩;rcases hq with rfl|⟨rfl, -⟩
  ·obtain⟨ob, -, h12,h13⟩:=zdo h11;obtain⟨e',he',ho⟩:=hr2.h.has a ob h12;rw[zpB hx2 he] at he';cases he';have hvs:lv≠[]:=fun h=>by rw[h] at hq0;simp at hq0
   obtain⟨ob',T,cs',h0,h14,h15,h16,h17⟩:=zOj h13 ho (.inl hvs) hlv;rw[zi2] at h17;obtain⟨fr,bx,M⟩:=t2;show onO (M.cells e.addr) _
   rw[h14];refine⟨by rw[hlen] at h15;exact h15,?_⟩;exact hk σ2 (.c (.n .i64 (.ofNat n))) _ _ _ (hx1.trans (hx2.trans ⟨⟨[],by simp⟩,Nat.le_refl _⟩)) (hr2.heap (hr2.h.upd h12 (zpB hx2 he) zD8 h0 h16)) (zwR _ _) h17
  ·exfalso;have:n=0:=by omega
   rw[this,Nat.zero_mul] at hqn;omega
 | _=>cases h2
theorem zOn (x:Operand):LS P (.strish x) (zI3 x):=fun {σ s t y K k} hr h hk=>by
 refine z7 h hr.fr fun v sv _ hv h1=>?_
 obtain⟨c,rfl,h2⟩:=zd8 h1;cases c with
 | l a o n q=>
  obtain⟨sc,h5,rfl⟩:=hv.cc (by simp);obtain⟨w,h5,rfl⟩:=h5;simp only[C.val,Option.map_eq_some_iff] at h5;obtain⟨e,he,rfl⟩:=h5;obtain⟨ob, -, h6,h7⟩:=zdo h2;obtain⟨e',he',ho⟩:=hr.h.has a ob h6;rw[he] at he';cases he';obtain⟨fr,bx,M⟩:=t;show onO (M.textAt e.addr) _
  cases ob with
  | row T l=>
   obtain⟨h0,vs,h8,h9⟩:=ho;replace h9:M e.addr=some (.cells vs.toArray T (0,0)):=h9;replace h7:(s.hset a (some (.ro T l)) fun s'=>K (.c (.l a o n q)) s')=some y:=h7;rw[zi2] at h7;have ht:M.textAt e.addr=some (.cells vs.toArray T (vs.length,vs.length+1)):=by simp[Mem.textAt,h9]
   rw[ht];exact hk σ (.c (.l a o n q)) _ _ _ ⟨⟨[],by simp⟩,Nat.le_refl _⟩ (hr.heap (M':=M.upd e.addr (.cells vs.toArray T (vs.length,vs.length+1))) (hr.h.upd h6 he (o := .ro T l) (fun x hx=>by simp[Mem.upd,hx]) h0 ⟨h0,vs,h8,by simp[Mem.upd]⟩)) (zbk (by simp[C.val,he])) h7
  | ro T l=>
   obtain⟨h0,vs,h8,h9⟩:=ho;replace h9:M e.addr=some (.cells vs.toArray T (vs.length,vs.length+1)):=h9;replace h7:K (.c (.l a o n q)) s=some y:=h7
   have ht:M.textAt e.addr=some (.cells vs.toArray T (vs.length,vs.length+1)):=by
    simp[Mem.textAt,h9]
   rw[ht]
   have hM:M.upd e.addr (.cells vs.toArray T (vs.length,vs.length+1))=M:=by
    funext x;simp only[Mem.upd];split
    ·rename_i hx;rw[hx,h9]
    ·rfl
   show k _ ⟨fr,bx,M.upd e.addr _⟩;rw[hM];exact hk σ (.c (.l a o n q)) _ s _ Ext.rfl' hr (zbk (by simp[C.val,he])) h7
  | _=>cases h7
 | _=>cases h2
theorem zTY (n:Nat) (x:Operand):LS P (.slA n x) (zSL n x):=fun {σ s t y K k} hr h hk=>by
 refine z7 h hr.fr fun v sv _ hv h1=>?_
 refine zpD h1 hr hv fun σ1 uw u s1 t1 hx1 hr1 huw h2=>?_
 split at h2
 ·rename_i a o;simp only[WR,CR,C.val,Option.map_eq_some_iff] at huw;obtain⟨e,he,rfl⟩:=huw;exact hk σ1 (.c (.l a o n n)) _ s1 t1 hx1 hr1 (zbk (by simp[C.val,he])) h2
 ·cases h2
theorem zTZ (z:Value) (x:Operand):LS P (.clr z x) (zSK z x):=fun {σ s t y K k} hr h hk=>by
 refine z7 h hr.fr fun v sv _ hv h1=>?_
 obtain⟨q,n,c,rfl,h2⟩:=zxu h1 hv;show zNR z q n t _
 cases n with
 | zero=>exact hk σ (.tp []) _ s t Ext.rfl' hr ⟨[],trivial,rfl⟩ h2
 | succ n=>
  replace h2:(zAy v fun a o _=>oV (C.ofV z) fun c=>zAx [c] (n+1) fun vs=>s.hget a fun ob=>ob.wr o vs fun ob'=>s.hset a (some ob') fun s'=>K (.tp []) s')=some y:=h2;obtain⟨a,o,n',x',c',h3,h4,e,he,hx⟩:=zHq h2 hv;cases h3;obtain⟨c0,h5,h6⟩:=zji h4;rw[zxo] at h6;obtain⟨ob, -, h7,h8⟩:=zdo h6;obtain⟨e',he',ho⟩:=hr.h.has a ob h7;rw[he] at he';cases he';have hw:All2 (CR σ) (List.replicate (n+1) [c0]).flatten (List.replicate (n+1) [z]).flatten:=zuL (l:=[c0]) (r:=[z]) ⟨C.ofV_s h5 σ,trivial⟩ (n+1)
  have hf:(List.replicate (n+1) [z]).flatten=List.replicate (n+1) z:=by simp
  rw[hf] at hw;obtain⟨ob',T,cs',h0,h12,h13,h14,h15⟩:=zOj h8 ho (.inl (by simp[List.replicate_succ])) hw;rw[zi2] at h15;obtain⟨fr,bx,M⟩:=t;rcases hx with rfl|⟨h, -⟩
  ·show onO (M.cells e.addr) _;rw[h12];refine⟨by rw[List.length_replicate] at h13;exact h13,?_⟩;exact hk σ (.tp []) _ _ _ ⟨⟨[],by simp⟩,Nat.le_refl _⟩ (hr.heap (hr.h.upd h7 he zD8 h0 h14)) ⟨[],trivial,rfl⟩ h15
  ·cases h
end
end
section
section
variable {P:Program} {σ:List E} {s:S} {t:St} {y:Out} {nb:Nat}
theorem All2.eraseIdx {α β:Type} {Q:α→β→Prop}:∀ {l:List α} {r:List β},All2 Q l r→∀ k,All2 Q (l.eraseIdx k) (r.eraseIdx k)
 | [],[],_,_=>trivial
 | _::_,_::_,h,0=>h.2
 | _::_,_::_,h,k+1=>⟨h.1,eraseIdx h.2 k⟩
 | [],_::_,h,_=>h.elim
 | _::_,[],h,_=>h.elim
theorem All2.modify {α β:Type} {Q:α→β→Prop} {f:β→β}:∀ {l:List α} {r:List β},All2 Q l r→∀ {k:Nat} {a a':α},l[k]? = some a→(∀ b,Q a b→Q a' (f b))→All2 Q (l.set k a') (r.modify k f)
 | _::_,_::_,h,0,a,a',ha,hf=>⟨by simp at ha;subst ha;exact hf _ h.1,h.2⟩
 | _::_,_::_,h,k+1,a,a',ha,hf=>⟨h.1,modify h.2 (by simpa using ha) hf⟩
 | [],[],_,_,_,_,ha,_=>by simp at ha
 | [],_::_,h,_,_,_,_,_=>h.elim
 | _::_,[],h,_,_,_,_,_=>h.elim
theorem zFK (ms:List MapEntry) (i:Nat) (f:MapEntry→MapEntry):ms.toArray.modify i f=(ms.modify i f).toArray:=by
 apply Array.ext';simp
theorem zHx (ms:List MapEntry) (i:Nat):ms.toArray.eraseIdxIfInBounds i=(ms.eraseIdx i).toArray:=by
 apply Array.ext';unfold Array.eraseIdxIfInBounds;split
 ·simp
 ·rename_i h;simp at h;rw[List.eraseIdx_of_length_le h]
theorem zSV {es:List En} {ms:List MapEntry} {c:Nat} {f:Option (Nat×W)} {f':Option (Nat×Value)} (hf:fR σ f f') {w wk:W} {v key:Value} (hk:WR σ wk key) (hw:WR σ w v) (hl:All2 (EnR σ) es ms) {K:O→R} (h:mput es c f wk w K=some y) :
  ∃ es' c' ms',All2 (EnR σ) es' ms'∧Vm.mput (ms.toArray,c) f' key v = .map ms'.toArray c'∧K (.mp es' c')=some y:=by
 match f,f',hf with
 | some (i,_),some (j,_),hf=>
  obtain⟨rfl, -⟩:=hf;obtain⟨e,h1,h2⟩:=ztx (l:=es) (k:=i) (K:=fun (e:En)=>setK es i (En.mk wk w e.born) fun es'=>K (.mp es' c)) h;obtain⟨h3,h4⟩:=zHo h2;refine⟨_,c,ms.modify i fun e=>{ e with key:=key,val:=v },hl.modify (a':=En.mk wk w e.born) h1 (fun b hb=>⟨hk,hw,hb.2.2⟩),?_,h4⟩;show Obj.map (ms.toArray.modify i _) c=_
  rw[zFK]
 | none,none,_=>
  have h':fN (fun c'=>appK es [⟨wk,w,c⟩] fun es'=>K (.mp es' c')) (c+1)=some y:=h;rw[fN_eq,znc] at h';have h1:All2 (EnR σ) [(⟨wk,w,c⟩:En)] [(⟨key,v,c⟩:MapEntry)]:=⟨⟨hk,hw,rfl⟩,trivial⟩
  refine⟨_,c+1,ms++[⟨key,v,c⟩],hl.append h1,?_,h'⟩;show Obj.map (ms.toArray.push _) (c+1)=_
  simp
theorem zSW (kk:KK) (x key w:Operand):LS P (.mset kk x key w) (zQf kk x key w):=fun {σ s t y K k} hr h hk=>by
 refine z7 h hr.fr fun u su _ hu h1=>?_
 rcases zoY h1 hu with ⟨-, h6⟩|⟨a,e,rfl,he,h2⟩
 ·cases h6
 show Vm.ev t key _;refine z7 h2 hr.fr fun kv skv _ hkv h3=>zHw h3 hkv fun wk key' hwk h4=>?_
 refine z7 h4 hr.fr fun v sv _ hv h5=>zpD h5 hr hv fun σ1 uw u1 s1 t1 hx hr1 huw h6=>?_
 obtain⟨ob, -, h7,h8⟩:=zdo h6;obtain⟨e',he',ho⟩:=hr1.h.has a ob h7;rw[zpB hx he] at he';cases he';obtain⟨es,c,ms,rfl,h0,h10,h11,h12,h13⟩:=zuK h8 ho;obtain⟨f,h14,h15⟩:=zji h13;obtain⟨f',h16,h17⟩:=zxv (WR.ext hx hwk) h14 h10;obtain⟨es',c',ms',h18,h19,h20⟩:=zSV h17 (WR.ext hx hwk) huw h10 h15;rw[zi2] at h20;obtain⟨fr,bx,M⟩:=t1;show onO (M.mapAt e.addr) _
 replace h12:M.mapAt e.addr=some (ms.toArray,c):=h12;rw[h12];show onO (Vm.kfind key' ms 0) _
 rw[h16];show k .dead ⟨fr,bx,M.upd e.addr (Vm.mput (ms.toArray,c) f' key' u1)⟩
 rw[h19];exact hk σ1 .dead .dead _ _ (hx.trans ⟨⟨[],by simp⟩,Nat.le_refl _⟩) (hr1.heap (hr1.h.upd (o := .mp es' c') h7 (zpB hx he) (fun x hx=>by simp[Mem.upd,hx]) h0 ⟨h0,ms',h18,by simp[Mem.upd]⟩)) rfl h20
theorem zSX (kk:KK) (x key:Operand):LS P (.mdel kk x key) (zQg kk x key):=fun {σ s t y K k} hr h hk=>by
 refine z7 h hr.fr fun u su _ hu h1=>?_
 have h2:∃ r,su = .c (.v (.map r)):=by
  obtain⟨kv,hk1⟩:∃ kv,(zoT kk kv fun key=>asMap u (K (.tp []) s) fun b=>s.hget b fun ob=>ob.mpK fun es c=>oV (kfind key es 0) fun f=>match f with
    | some (i,_)=>zOc es i fun es'=>s.hset b (some (.mp es' c)) fun s'=>K (.tp []) s'
    | none=>K (.tp []) s)=some y:=by
   cases key with
   | tmp d=>obtain⟨v, -, h2⟩:=zji (K:=fun kv=>zoT kk kv _) h1;exact⟨v,h2⟩
   | const v=>obtain⟨x, -, -, h2⟩:=ofV_s (σ:=σ) (nb:=0) (K:=fun kv=>zoT kk kv _) h1;exact⟨x,h2⟩
   | func f=>exact⟨_,h1⟩
   | global g=>cases h1
  have key:∀ {A:R} {B:Nat→R},asMap u A B=some y→∃ r,su = .c (.v (.map r)):=fun hw=>by
   rcases zoY hw hu with ⟨rfl, -⟩|⟨a,e,rfl, -, -⟩
   ·exact⟨_,rfl⟩
   ·exact⟨_,rfl⟩
  unfold zoT at hk1;split at hk1
  ·exact key hk1
  ·exact key (zx hk1).2
  ·rw[zb4] at hk1;exact key (zx (zx hk1).2).2
  ·cases hk1
 obtain⟨r,rfl⟩:=h2;show Vm.ev t key _
 refine z7 h1 hr.fr fun kv skv _ hkv h3=>zHw h3 hkv fun wk u' hwk h4=>?_
 rcases zoY h4 hu with ⟨h5,h6⟩|⟨a,e,h5,he,h6⟩
 ·cases h5;exact hk σ (.tp []) _ s t Ext.rfl' hr ⟨[],trivial,rfl⟩ h6
 ·cases h5;obtain⟨ob, -, h7,h8⟩:=zdo h6;obtain⟨e',he',ho⟩:=hr.h.has a ob h7;rw[he] at he';cases he';obtain⟨es,c,ms,rfl,h0,h10,h11,h12,h13⟩:=zuK h8 ho;obtain⟨f,h14,h15⟩:=zji h13;obtain⟨f',h16,h17⟩:=zxv hwk h14 h10;obtain⟨fr,bx,M⟩:=t;replace h12:M.mapAt e.addr=some (ms.toArray,c):=h12;replace h11:M e.addr=some (.map ms.toArray c):=h11;show onO (M.mapAt e.addr) _
  rw[h12];show onO (Vm.kfind u' ms 0) _
  rw[h16]
  match f,f',h17 with
  | some (i,_),some (j,_),h17=>
   obtain⟨rfl, -⟩:=h17;obtain⟨h18,h19⟩:=zMN h15;rw[zi2] at h19;show k _ ⟨fr,bx,M.upd e.addr (.map (ms.toArray.eraseIdxIfInBounds i) c)⟩
   rw[zHx];exact hk σ (.tp []) _ _ _ ⟨⟨[],by simp⟩,Nat.le_refl _⟩ (hr.heap (hr.h.upd (o := .mp (es.eraseIdx i) c) h7 he (fun x hx=>by simp[Mem.upd,hx]) h0 ⟨h0,_,h10.eraseIdx i,by simp[Mem.upd]⟩)) ⟨[],trivial,rfl⟩ h19
  | none,none,_=>
   have hM:M.upd e.addr (.map ms.toArray c)=M:=by
    funext x;simp only[Mem.upd];split
    ·rename_i hx;rw[hx,h11]
    ·rfl
   show k _ ⟨fr,bx,M.upd e.addr (.map ms.toArray c)⟩;rw[hM];exact hk σ (.tp []) _ s _ Ext.rfl' hr ⟨[],trivial,rfl⟩ h15
theorem zOo (x:Operand):LS P (.mrange x) (zI4 x):=fun {σ s t y K k} hr h hk=>by
 refine z7 h hr.fr fun u su _ hu h1=>?_
 obtain⟨fr,bx,M⟩:=t;rcases zoY h1 hu with ⟨rfl,h6⟩|⟨a,e,rfl,he,h6⟩
 ·rw[zpC] at h6;intro b hb;exact hk _ (.c (.p s.n 0)) _ _ _ ⟨⟨_,rfl⟩,Nat.le_refl _⟩ (hr.newU hb (o := .it none 0 [] 0) fun M' hM=>⟨rfl,none,rfl,hM⟩) (zbk (by simp[C.val,zq5 hr.n])) h6
 ·obtain⟨ob, -, h7,h8⟩:=zdo h6;obtain⟨e',he',ho⟩:=hr.h.has a ob h7;rw[he] at he';cases he';obtain⟨es,c,ms,rfl,h0,h10,h11,h12,h13⟩:=zuK h8 ho;replace h12:M.mapAt e.addr=some (ms.toArray,c):=h12;show onO (M.mapAt e.addr) _
  rw[h12];rw[zpC] at h13;intro b hb;exact hk _ (.c (.p s.n 0)) _ _ _ ⟨⟨_,rfl⟩,Nat.le_refl _⟩ (hr.newU hb (o := .it (some a) c [] c) fun M' hM=>⟨rfl,some e.addr,⟨e,zoV _ he,rfl⟩,hM⟩) (zbk (by simp[C.val,zq5 hr.n])) h13
theorem zAC {seen:List Nat}:∀ {es:List En} {ms:List MapEntry},All2 (EnR σ) es ms→All2 (EnR σ) (zCu seen es) (ms.filter fun m => !seen.contains m.born)
 | [],[],_=>trivial
 | e::es,m::ms,h=>by
  unfold zCu;rw[List.filter_cons,List.filter_cons,h.1.2.2];split
  ·exact⟨h.1,zAC h.2⟩
  ·exact zAC h.2
 | [],_::_,h=>h.elim
 | _::_,[],h=>h.elim
theorem zRx (x:Operand):LS P (.mnext x) (zMH x):=fun {σ s t y K k} hr h hk=>by
 refine zxq h hr.fr hr.bx (fun j o T l cs _ _ _ h1=>by cases h1) (fun a o e he h1=>?_);obtain⟨h2,h3⟩:=zx h1;refine znd (Nat.eq_of_beq_eq_true h2) ?_;obtain⟨ob, -, h5,h6⟩:=zdo h3;obtain⟨e',he',ho⟩:=hr.h.has a ob h5;rw[he] at he';cases he';obtain⟨fr,bx,M⟩:=t;cases ob with
 | it m since seen last=>
  obtain⟨h0,x',hx,hM⟩:=ho;replace hM:M e.addr=some (.mapIter x' since seen.toArray last):=hM;have hit:M.iterAt e.addr=some (x',since,seen.toArray,last):=by simp[Mem.iterAt,hM]
  show onO (M.iterAt e.addr) _;rw[hit];cases m with
  | none=>
   cases hx;exact hk σ (.tp [.c (.t false)]) _ s _ Ext.rfl' hr ⟨[.bool false],⟨rfl,trivial⟩,rfl⟩ h6
  | some m=>
   obtain⟨em,hem,rfl⟩:=hx
   replace h6:(s.hget m fun om=>om.mpK fun es clock=>cB (seen.isEmpty||es.isEmpty||es.any fun e=>Nat.blt e.born last) (match zCu seen es with
    | []=>K (.tp [.c (.t false)]) s
    | [e]=>cB (Nat.blt e.born since) (s.hset a (some (.it (some m) since (seen++[e.born]) clock)) fun s'=>K (.tp [.c (.t true),e.key,e.val]) s') fail
    | _=>fail) fail)=some y:=h6
   obtain⟨om, -, h8,h9⟩:=zdo h6;obtain⟨em',hem',hom⟩:=hr.h.has m om h8;rw[hem] at hem';cases hem';obtain⟨es,c,ms,rfl, -, h10,h11,h12,h13⟩:=zuK h9 hom;replace h12:M.mapAt em.addr=some (ms.toArray,c):=h12;show onO (M.mapAt em.addr) _
   rw[h12];obtain⟨h14,h15⟩:=zx h13;have hu:=zAC (seen:=seen) h10
   refine⟨?_,?_⟩
   ·simp only[Bool.or_eq_true] at h14;rcases h14 with (h14|h14)|h14
    ·left;simpa using h14
    ·right;left;have:es=[]:=by simpa using h14
     subst this;cases ms with
     | nil=>rfl
     | cons _ _=>exact h10.elim
    ·right;right;rw[List.any_eq_true] at h14;obtain⟨en,hen,hlt⟩:=h14;obtain⟨i,hi⟩:=List.getElem?_of_mem hen;obtain⟨me,hme,her⟩:=h10.at_ hi;refine⟨me,List.mem_of_getElem? hme,?_⟩;rw[her.2.2];simpa[Nat.blt_eq] using hlt
   ·split at h15
    ·rename_i hun
     have hf:(ms.filter fun m => !seen.contains m.born)=[]:=by
      rw[hun] at hu;cases hfe:(ms.filter fun m => !seen.contains m.born) with
      | nil=>rfl
      | cons _ _=>rw[hfe] at hu;exact hu.elim
     refine⟨fun _=>hk σ (.tp [.c (.t false)]) _ s _ Ext.rfl' hr ⟨[.bool false],⟨rfl,trivial⟩,rfl⟩ h15,fun me hme hns=>?_⟩;have:me∈ms.filter fun m => !seen.contains m.born:=List.mem_filter.2 ⟨hme,by simpa using hns⟩
     rw[hf] at this;cases this
    ·rename_i en hun;obtain⟨h16,h17⟩:=zx h15;rw[zi2] at h17;have hlt:en.born<since:=by simpa[Nat.blt_eq] using h16
     obtain⟨me,hfe,her⟩:∃ me,(ms.filter fun m => !seen.contains m.born)=[me]∧EnR σ en me:=by
      rw[hun] at hu
      have one:∀ fl:List MapEntry,All2 (EnR σ) [en] fl→∃ me,fl=[me]∧EnR σ en me:=fun fl h=>by
       match fl,h with
       | [me],h=>exact⟨me,rfl,h.1⟩
       | [],h=>exact h.elim
       | _::_::_,h=>exact h.2.elim
      exact one _ hu
     have hme:me∈ms.filter fun m => !seen.contains m.born:=by rw[hfe];simp
     obtain⟨hme1,hme2⟩:=List.mem_filter.1 hme;refine⟨fun hall=>?_,fun me' hme' hns=>?_⟩
     ·exfalso;rcases hall me (by simpa using hme1) with h|h
      ·have:seen.contains me.born=true:=by simpa using h
       rw[this] at hme2;cases hme2
      ·have h':since≤me.born:=h;rw[her.2.2] at h';omega
     ·have h18:me'∈ms.filter fun m => !seen.contains m.born:=List.mem_filter.2 ⟨by simpa using hme',by simpa using hns⟩
      rw[hfe] at h18;have:me'=me:=by simpa using h18
      subst this;have hpush:seen.toArray.push me'.born=(seen++[en.born]).toArray:=by rw[her.2.2];simp
      rw[hpush];exact hk σ (.tp [.c (.t true),en.key,en.val]) _ _ _ ⟨⟨[],by simp⟩,Nat.le_refl _⟩ (hr.heap (hr.h.upd (o := .it (some m) since (seen++[en.born]) c) h5 he (fun x hx=>by simp[Mem.upd,hx]) h0 ⟨h0,some em.addr,⟨em,hem,rfl⟩,by simp[Mem.upd]⟩)) ⟨[.bool true,me'.key,me'.val],⟨rfl,her.1,her.2.1,trivial⟩,rfl⟩ h17
    ·cases h15
 | _=>cases h6
theorem zOp (x:Operand):LS P (.srange x) (zI6 x):=fun {σ s t y K k} hr h hk=>by
 refine z7 h hr.fr fun u su _ hu h1=>?_
 obtain⟨b,rfl,h2⟩:=zq3 h1 hu;obtain⟨-, h3⟩:=zx h2;rw[zpC] at h3;obtain⟨fr,bx,M⟩:=t;intro a ha;exact hk _ (.c (.p s.n 0)) _ _ _ ⟨⟨_,rfl⟩,Nat.le_refl _⟩ (hr.newU ha (o := .si b 0) fun M' hM=>⟨rfl,hM⟩) (zbk (by simp[C.val,zq5 hr.n])) h3
theorem zRy (x:Operand):LS P (.snext x) (zMI x):=fun {σ s t y K k} hr h hk=>by
 refine zxq h hr.fr hr.bx (fun j o T l cs _ _ _ h1=>by cases h1) (fun a o e he h1=>?_);obtain⟨h2,h3⟩:=zx h1;refine znd (Nat.eq_of_beq_eq_true h2) ?_;obtain⟨ob, -, h5,h6⟩:=zdo h3;obtain⟨e',he',ho⟩:=hr.h.has a ob h5;rw[he] at he';cases he';obtain⟨fr,bx,M⟩:=t;cases ob with
 | si l p=>
  obtain⟨h0,hM⟩:=ho;replace hM:M e.addr=some (.stringIter (zaf l) p):=hM;have hit:M.sitAt e.addr=some (zaf l,p):=by simp[Mem.sitAt,hM]
  show onO (M.sitAt e.addr) _;rw[hit];replace h6:(zew l fun n=>Bool.rec (K (.tp [.c (.t false)]) s) (zwK l p fun b=>cB (Nat.blt b 128) (fN (fun p'=>s.hset a (some (.si l p')) fun s'=>K (.tp [.c (.t true),.c (.n .i64 (.ofNat p)),.c (.n .i32 (.ofNat b))]) s') (p+1)) fail) (Nat.blt p n))=some y:=h6;rw[zb4] at h6;have hs:(zaf l).size=l.length:=by simp[zaf,ByteArray.size]
  cases hb:Nat.blt p l.length with
  | true=>
   rw[hb] at h6;have hp:p<l.length:=by simpa[Nat.blt_eq] using hb
   obtain⟨b,h7,h8⟩:=ztx (l:=l) (k:=p) h6;obtain⟨h9,h10⟩:=zx h8;rw[fN_eq,zi2] at h10;have hb8:b<128:=by simpa[Nat.blt_eq] using h9
   have hget:((zaf l).get! p).toNat=b:=by
    have h11:=List.getElem?_eq_some_iff.1 h7
    have:(zaf l).get! p=UInt8.ofNat b:=by
     show (l.map UInt8.ofNat).toArray[p]! = _;simp[hp,h11.2]
    rw[this];simp;omega
   refine⟨fun _=>⟨by show ((zaf l).get! p).toNat<128;rw[hget];exact hb8,?_⟩,fun hn=>absurd (by show p<(zaf l).size;rw[hs];exact hp) hn⟩;show k (.c (.v (.tuple #[.bool true,.int .i64 p,.int .i32 (((zaf l).get! p).toNat:Nat)]))) ⟨fr,bx,M.upd e.addr (.stringIter (zaf l) (p+1))⟩
   rw[hget];exact hk σ (.tp [.c (.t true),.c (.n .i64 (.ofNat p)),.c (.n .i32 (.ofNat b))]) _ _ _ ⟨⟨[],by simp⟩,Nat.le_refl _⟩ (hr.heap (hr.h.upd (o := .si l (p+1)) h5 he (fun x hx=>by simp[Mem.upd,hx]) h0 ⟨h0,by simp[Mem.upd]⟩)) ⟨[.bool true,.int .i64 p,.int .i32 b],⟨rfl,rfl,rfl,trivial⟩,rfl⟩ h10
  | false=>
   rw[hb] at h6;have hp:¬p<l.length:=fun h=>by rw[show Nat.blt p l.length=true by simpa[Nat.blt_eq] using h] at hb;cases hb
   refine⟨fun hlt=>absurd (by have:p<(zaf l).size:=hlt;rw[hs] at this;exact this) hp,fun _=>?_⟩;exact hk σ (.tp [.c (.t false)]) _ s _ Ext.rfl' hr ⟨[.bool false],⟨rfl,trivial⟩,rfl⟩ h6
 | _=>cases h6
theorem zxw {F:Cal} (hF:FOk P F) {g:Nat} {ws:List W} {vs:List Value} {K:V→S→R} (h:callF F g ws s K=some y) (hr:SR σ s t) (hws:All2 (WR σ) ws vs) {k:SV→St→Prop}
  (hk:∀ σ' v sv s' t',Ext σ t σ' t'→SR σ' s' t'→VR σ' t'.bx.length v sv→K v s'=some y→k sv t'):Vm.callF P g vs t k:=by
 obtain⟨nl,tl,L,bx,n,H,g0⟩:=s;obtain⟨fr,bx',M⟩:=t;obtain⟨z,h1,h2⟩:=zji (K:=fun y=>Out.rec (motive:=fun _=>R) (fun _ _=>fail) (fun v n' H'=>K v ⟨nl,tl,L,bx,n',H',g0⟩) y) h;cases z with
 | st e s=>cases h2
 | rt v n' H'=>
  show zaC vs _;rw[zad];refine CallsM.mono (hF h1 rfl hr.n.symm hr.h hws) fun u M' ⟨τ,h3,h4,h5⟩=>?_
  refine hk (σ++τ) v (zf4 u) ⟨nl,tl,L,bx,n',H',g0⟩ ⟨fr,bx',M'⟩ ⟨⟨τ,rfl⟩,Nat.le_refl _⟩ ⟨h3.symm,(hr.fr.mono τ (Nat.le_refl _)).same rfl rfl rfl,hr.bx.imp fun _ _ h=>h.mono τ (Nat.le_refl _),h5⟩ (zTP h4) h2
theorem zSY {F:Cal} (hF:FOk P F) (f:Operand) (args:List Operand):LS P (.call f args) (zQh F f args):=fun {σ s t y K k} hr h hk=>by
 refine z7 h hr.fr fun v sv _ hv h1=>?_
 refine zJn h1 hr fun σ1 ws vs s1 t1 hx hr1 hws h2=>?_
 have hv1:=VR.ext hx hv;cases v with
 | c c=>cases c with
  | f g=>
   rw[hv1.val rfl (by simp)];refine zxw (vs:=(#[]:Array Value).toList++vs++(#[]:Array Value).toList) hF h2 hr1 (by simpa using hws) fun σ' v sv s' t' hx' hr' hv' h3=>hk σ' v sv s' t' (hx.trans hx') hr' hv' h3
  | fm g a o=>
   obtain⟨sc,h5,rfl⟩:=hv1.cc (by simp);obtain⟨w,h5,rfl⟩:=h5;simp only[C.val,Option.map_eq_some_iff] at h5;obtain⟨e,he,rfl⟩:=h5
   refine zxw (vs:=(#[.pointer (some ⟨e.addr,o,none⟩)]:Array Value).toList++vs++(#[]:Array Value).toList) hF h2 hr1 (by
    show All2 (WR σ1) _ ([.pointer (some ⟨e.addr,o,none⟩)]++vs++[]);rw[List.append_nil]
    exact⟨by simp[WR,CR,C.val,he],hws⟩) fun σ' v sv s' t' hx' hr' hv' h3=>hk σ' v sv s' t' (hx.trans hx') hr' hv' h3
  | _=>cases h2
 | fn g l=>
  replace h2:(shalCs l s1 fun l' s''=>appK ws (l'.map W.c) fun ws'=>callF F g ws' s'' K)=some y:=h2
  have wsOf:∀ {σ':List E} {l':List C} {us:List Value},All2 (CR σ') l' us→All2 (WR σ') (l'.map W.c) us:=fun {σ' l' us} hl=>by
   induction l' generalizing us with
   | nil=>cases us with
    | nil=>trivial
    | cons _ _=>exact hl.elim
   | cons c l' ih=>cases us with
    | nil=>exact hl.elim
    | cons u us=>exact⟨hl.1,ih hl.2⟩
  rcases hv1 with ⟨cs,h3,rfl⟩|⟨us,h3,rfl⟩
  ·refine zoZ h2 hr1 h3 fun σ2 l' us s2 t2 hx2 hr2 hl' _ h4=>?_
   rw[znc] at h4;refine zxw hF h4 hr2 ((hws.imp fun _ _ h=>WR.ext hx2 h).append (wsOf hl')) fun σ' v sv s' t' hx' hr' hv' h5=>hk σ' v sv s' t' (hx.trans (hx2.trans hx')) hr' hv' h5
  ·have hid:∀ {l:List C} {vs:List Value} {K:List C→S→R},All2 (CR σ1) l vs→shalCs l s1 K=some y→K l s1=some y:=by
    intro l
    induction l with
    | nil=>intro vs K _ h;exact h
    | cons c l ih=>
     intro vs K hl h
     match vs,hl with
     | v::vs,hl=>
      have h':shalC c s1 (fun c' s'=>shalCs l s' fun r s''=>K (c'::r) s'')=some y:=h
      have h'':(shalCs l s1 fun r s''=>K (c::r) s'')=some y:=by
       cases c with
       | b j o=>exact absurd hl.1 (by simp[CR,C.val])
       | _=>exact h'
      exact ih hl.2 h''
   have h4:=hid h3 h2;rw[znc] at h4;refine zxw (vs:=(#[]:Array Value).toList++vs++us.toArray.toList) hF h4 hr1 (by simpa using hws.append (wsOf h3)) fun σ' v sv s' t' hx' hr' hv' h5=>hk σ' v sv s' t' (hx.trans hx') hr' hv' h5
 | _=>cases h2
end
end
section
section
variable {P:Program} {F:Cal} {σ:List E} {s:S} {t:St} {y:Out} {nb:Nat}
theorem zUx (hF:FOk P F) (o:ROp) (hq:zE o=false):LS P o (st F o):=by
 cases o with
 | box T x=>exact zTV T x
 | alloc T z=>exact zRr T z
 | mkSl tmp E n z parts=>exact zSU tmp E n z parts
 | store n p x=>exact zRs n p x
 | app E size bytes z x y=>exact zTW E size bytes z x y
 | mkMap=>exact zRu
 | strish x=>exact zOn x
 | clr z x=>exact zTZ z x
 | slA n x=>exact zTY n x
 | srange x=>exact zOp x
 | snext x=>exact zRy x
 | cpy n x y=>exact zTX n x y
 | mkSlN E b z x y=>exact zRv E b z x y
 | mkSlC E b z x y=>exact zRw E b z x y
 | mset k x y z=>exact zSW k x y z
 | mdel k x y=>exact zSX k x y
 | mrange x=>exact zOo x
 | mnext x=>exact zRx x
 | call f args=>exact zSY hF f args
 | _=>cases hq
theorem zUy (o:ROp) (hq:zE o=true) {K:V→S→R} (h:st F o s K=some y) (hr:SR σ s t) {k:SV→Prop} (hk:∀ v sv,VR σ t.bx.length v sv→K v s=some y→k sv):vq o t k:=by
 have key:∀ {q:S→(V→R)→R},QS o q→lQ q s K=some y→vq o t k:=fun hs h=>hs hr.q h hk
 cases o with
 | mov x=>exact key (zQo x) h
 | pick c a b=>exact key (zMO c a b) h
 | build z p=>exact key (zJa z p) h
 | load g n p=>exact key (zMP g n p) h
 | nilck x=>exact key (zJb x) h
 | faddr o p=>exact key (zJc o p) h
 | field g o n x=>exact key (zJd g o n x) h
 | iaddr n x i=>exact key (zJe n x i) h
 | iaddrA l n x i=>exact key (zHr l n x i) h
 | ibin o x y=>exact key (zMT o x y) h
 | bbin o x y=>exact key (zMQ o x y) h
 | pnil o x y=>exact key (zMR o x y) h
 | not x=>exact key (zQp x) h
 | conv k x=>exact key (zMU k x) h
 | len x=>exact key (zQq x) h
 | lenS x=>exact key (zMS x) h
 | extract x i=>exact key (zEF x i) h
 | strOf x=>exact key (zJi x) h
 | strE o x y=>exact key (zMX o x y) h
 | imm m x y=>exact key (zQt m x y) h
 | slx3 n x l h' m=>exact key (zM0 n x l h' m) h
 | slx n x l h'=>exact key (zQu n x l h') h
 | aeq o n x y=>exact key (zQv o n x y) h
 | slnil o x y=>exact key (zJj o x y) h
 | sidx x i=>exact key (zMY x i) h
 | aidx g l n x i=>exact key (zMZ g l n x i) h
 | mkfn f c=>exact key (zM3 f c) h
 | mval f x=>exact key (zM1 f x) h
 | uneg x=>exact key (zMV x) h
 | ucom x=>exact key (zMW x) h
 | ssl x l h'=>exact key (zQw x l h') h
 | mget k o z x y=>exact key (zM6 k o z x y) h
 | mlen x=>exact key (zM7 x) h
 | mentry x=>exact key (zOi x) h
 | _=>cases hq
theorem zHy:∀ (L:List (Option V)) (d:Nat),zN3 L d=(L[d]?).join
 | [],_=>rfl
 | _::_,0=>rfl
 | _::L,d+1=>by rw[List.getElem?_cons_succ];exact zHy L d
theorem zNa {v:V}:∀ {L:List (Option V)} {d:Nat} {K:List (Option V)→R},zJ9 L d v K=some y→d<L.length∧K (L.set d (some v))=some y
 | [],_,_,h=>by cases h
 | _::_,0,_,h=>⟨by simp,h⟩
 | a::L,d+1,K,h=>by
  obtain⟨h1,h2⟩:=zNa (L:=L) (d:=d) (K:=fun r=>K (a::r)) h;exact⟨by simp only[List.length_cons];omega,h2⟩
theorem znf (k:Nat) (v:V) (l:List (Nat×V)) (d:Nat):zuF ((k,v)::l) d=if k=d then some v else zuF l d:=by
 show (Bool.rec (zuF l d) (some v) (Nat.beq k d):Option V)=_;rw[zwS];by_cases h:k=d
 ·simp[h]
 ·simp[h]
theorem zlh (nl:Nat) (tl:List (Nat×V)) (L:List (Option V)) (bx:List B) (n:Nat) (H:T O) (g:Option (List Nat)) (d:Nat):S.fget ⟨nl,tl,L,bx,n,H,g⟩ d=if nl≤d then zuF tl d else (L[d]?).join:=by
 show (Bool.rec (zN3 L d) (zuF tl d) (Nat.ble nl d):Option V)=_;rw[zHy];by_cases h:nl≤d
 ·rw[Nat.ble_eq_true_of_le h,if_pos h]
 ·have hb:Nat.ble nl d=false:=by
   cases hb:Nat.ble nl d with
   | false=>rfl
   | true=>exact absurd (Nat.le_of_ble_eq_true hb) h
  rw[if_neg h,hb]
theorem zq6 (d:Nat) (sv:SV) (fr:List (Nat×SV)) (d':Nat):lk ((d,sv)::fr) d'=if d=d' then some sv else lk fr d':=by
 show (match Nat.beq d d' with|true=>some sv|false=>lk fr d')=_;rw[zwS];by_cases h:d=d'
 ·simp[h]
 ·simp[h]
theorem put_s {d:Option Nat} {v:V} {sv:SV} {K:S→R} (h:s.put d v K=some y) (hf:FR σ nb s t.fr) (hv:VR σ nb v sv) :
  ∃ s',K s'=some y∧s'.bx=s.bx∧s'.n=s.n∧s'.H=s.H∧FR σ nb s' (t.put d sv).fr:=by
 obtain⟨nl,tl,L,bx,n,H,g⟩:=s;cases d with
 | none=>exact⟨_,h,rfl,rfl,rfl,hf⟩
 | some d=>
  have h':(Bool.rec (Bool.rec (zJ9 L d v fun L'=>K ⟨nl,tl,L',bx,n,H,g⟩) (K ⟨nl,(d,v)::tl,L,bx,n,H,g⟩) (Nat.ble nl d)) fail (zMz v):R)=some y:=h
  have hd:v ≠ .dead∧(Bool.rec (zJ9 L d v fun L'=>K ⟨nl,tl,L',bx,n,H,g⟩) (K ⟨nl,(d,v)::tl,L,bx,n,H,g⟩) (Nat.ble nl d):R)=some y:=by
   cases v with
   | dead=>cases h'
   | _=>exact⟨by simp,h'⟩
  obtain⟨hd,h''⟩:=hd;cases hb:Nat.ble nl d with
  | true=>
   rw[hb] at h'';have hle:=Nat.le_of_ble_eq_true hb
   refine⟨_,h'',rfl,rfl,rfl,fun d' v' hv'=>?_⟩;rw[zlh] at hv';show _∧∃ sv',lk ((d,sv)::t.fr) d'=some sv'∧_
   rw[zq6];by_cases hdd:d=d'
   ·subst hdd;rw[if_pos hle,znf,if_pos rfl] at hv';cases hv';exact⟨hd,sv,by rw[if_pos rfl],hv⟩
   ·rw[if_neg hdd];refine hf d' v' ?_;rw[zlh];by_cases hle':nl≤d'
    ·rw[if_pos hle',znf,if_neg hdd] at hv';rw[if_pos hle'];exact hv'
    ·rw[if_neg hle'] at hv' ⊢; exact hv'
  | false=>
   rw[hb] at h'';obtain⟨h1,h2⟩:=zNa h'';have hle:¬nl≤d:=fun h=>by rw[Nat.ble_eq_true_of_le h] at hb;cases hb
   refine⟨_,h2,rfl,rfl,rfl,fun d' v' hv'=>?_⟩;rw[zlh] at hv';show _∧∃ sv',lk ((d,sv)::t.fr) d'=some sv'∧_
   rw[zq6];by_cases hdd:d=d'
   ·subst hdd;rw[if_neg hle,List.getElem?_set_self h1] at hv';cases hv';exact⟨hd,sv,by rw[if_pos rfl],hv⟩
   ·rw[if_neg hdd];refine hf d' v' ?_;rw[zlh];by_cases hle':nl≤d'
    ·rw[if_pos hle'] at hv' ⊢; exact hv'
    ·rw[if_neg hle',List.getElem?_set_ne hdd] at hv';rw[if_neg hle'];exact hv'
theorem SR.put_s {d:Option Nat} {v:V} {sv:SV} {K:S→R} (h:s.put d v K=some y) (hr:SR σ s t) (hv:VR σ t.bx.length v sv):∃ s',K s'=some y∧SR σ s' (t.put d sv):=by
 obtain⟨s',h1,h2,h3,h4,h5⟩:=Rn.put_s (t:=t) h hr.fr hv;have hb:(t.put d sv).bx=t.bx:=by cases d<;>rfl
 have hM:(t.put d sv).M=t.M:=by cases d<;>rfl
 exact⟨s',h1,⟨by rw[h3];exact hr.n,by rw[hb];exact h5,by rw[hb,h2];exact hr.bx,by rw[hM,h4];exact hr.h⟩⟩
theorem zSZ {b:Bool} {v:V} {sv:SV} {K:V→R} (h:sp b v K=some y) (hv:VR σ nb v sv) {k:SV→Prop} (hk:∀ v sv,VR σ nb v sv→K v=some y→k sv):ziL b sv k:=by
 cases b with
 | false=>exact hk v sv hv h
 | true=>
  have h':(asB v fun t=>kB t K)=some y:=h;exact zKz h' hv (fun h1=>by rw[zsY] at h1;exact hk (.c (.t true)) (.bool true) (zbk rfl) h1) (fun h1=>by rw[zsY] at h1;exact hk (.c (.t false)) (.bool false) (zbk rfl) h1)
theorem zKD (hF:FOk P F) {o:zac} {K:S→R} (h:op F o s K=some y) (hr:SR σ s t) {k:St→Prop} (hk:∀ σ' s' t',Ext σ t σ' t'→SR σ' s' t'→K s'=some y→k t'):vop P o t k:=by
 have fin:∀ {σ':List E} {v:V} {sv:SV} {s':S} {t':St},Ext σ t σ' t'→SR σ' s' t'→VR σ' t'.bx.length v sv→(sp o.sp v fun v'=>s'.put o.dst v' K)=some y→ziL o.sp sv fun sv'=>t'.putK o.dst sv' k:=fun hx hr' hv h1=>
  zSZ h1 hv fun v' sv' hv' h2=>by
   obtain⟨s'',h3,h4⟩:=hr'.put_s h2 hv';rw[zi1];refine hk _ s'' _ (hx.trans ⟨⟨[],by simp⟩,?_⟩) h4 h3;cases o.dst<;>exact Nat.le_refl _
 unfold vop;cases hq:zE o.op with
 | true=>exact zUy o.op hq h hr fun v sv hv h1=>fin Ext.rfl' hr hv h1
 | false=>exact zUx hF o.op hq hr h fun σ' v sv s' t' hx hr' hv h1=>fin hx hr' hv h1
theorem zKE {b:Bool} {v:V} {sv:SV} {run skip:R} (h:gd b v run skip=some y) (hv:VR σ nb v sv) {A B:Prop} (ha:run=some y→A) (hb:skip=some y→B):brG b sv A B:=by
 unfold gd at h;split at h
 ·rename_i x;rcases hv with ⟨sc,h1,rfl⟩|⟨x',h1,rfl⟩
  ·obtain⟨w,h2,rfl⟩:=h1;cases h2;cases b<;>cases x
   ·exact ha h
   ·exact hb h
   ·exact hb h
   ·exact ha h
  ·cases h1;cases b<;>cases x
   ·exact⟨fun h'=>(by cases h'),fun _=>ha h⟩
   ·exact⟨fun _=>hb h,fun h'=>(by cases h')⟩
   ·exact⟨fun h'=>(by cases h'),fun _=>hb h⟩
   ·exact⟨fun _=>ha h,fun h'=>(by cases h')⟩
 ·obtain⟨vs, -, rfl⟩:=hv;exact hb h
 ·cases h
theorem zD9:VR σ nb zuH SV.skip:=⟨[],trivial,rfl⟩
theorem zT0 (hF:FOk P F) {o:zac} {K:S→R} (h:opG F o s K=some y) (hr:SR σ s t) {k:St→Prop} (hk:∀ σ' s' t',Ext σ t σ' t'→SR σ' s' t'→K s'=some y→k t') :
  match o.guard with
  | none=>vop P o t k
  | some (g,b)=>Vm.ev t (.tmp g) fun sv=>brG b sv (vop P o t k) (t.putK o.dst SV.skip k):=by
 have h':(match o.guard with|none=>op F o s K|some g=>ev s (.tmp g.1) fun v=>gd g.2 v (op F o s K) (s.put o.dst zuH K))=some y:=by
  unfold opG at h;cases hg:o.guard with
  | none=>rw[hg] at h;exact h
  | some g=>rw[hg] at h;exact h
 cases hg:o.guard with
 | none=>rw[hg] at h';exact zKD hF h' hr hk
 | some g=>
  rw[hg] at h';obtain⟨g,b⟩:=g;refine z7 h' hr.fr fun v sv _ hv h1=>zKE h1 hv (fun h2=>zKD hF h2 hr hk) (fun h2=>?_)
  obtain⟨s'',h3,h4⟩:=hr.put_s h2 zD9;rw[zi1];refine hk _ s'' _ ⟨⟨[],by simp⟩,?_⟩ h4 h3;cases o.dst<;>exact Nat.le_refl _
theorem zQy (hF:FOk P F):∀ {l:List zac} {σ:List E} {s:S} {t:St} {K:S→R},ops F l s K=some y→SR σ s t→∀ {k:St→Prop},(∀ σ' s' t',Ext σ t σ' t'→SR σ' s' t'→K s'=some y→k t')→ztS P l t k
 | [],σ,s,t,K,h,hr,k,hk=>hk σ s t Ext.rfl' hr h
 | o::l,σ,s,t,K,h,hr,k,hk=>by
  have:=zT0 hF (o:=o) (K:=fun s'=>ops F l s' K) h hr (k:=fun t'=>ztS P l t' k) fun σ' s' t' hx hr' h1=>zQy hF h1 hr' fun σ'' s'' t'' hx' hr'' h2=>hk σ'' s'' t'' (hx.trans hx') hr'' h2
  unfold ztS;exact this
theorem zKF {K:S→R} (h:s.cut K=some y) (hr:SR σ s t):∃ s',K s'=some y∧SR σ s' t:=by
 obtain⟨nl,tl,L,bx,n,H,g⟩:=s;cases tl with
 | nil=>exact⟨_,h,hr⟩
 | cons p tl=>
  refine⟨⟨nl,[p],L,bx,n,H,g⟩,h,hr.n,fun d v hd=>?_,hr.bx,hr.h⟩;refine hr.fr d v ?_;rw[zlh] at hd ⊢;split at hd
  ·rename_i hle;rw[if_pos hle];obtain⟨k,u⟩:=p;rw[znf] at hd ⊢;split at hd
   ·rename_i hk;rw[if_pos hk];exact hd
   ·cases hd
  ·rename_i hle;rw[if_neg hle];exact hd
end
end
end Go.Vm.Rn
