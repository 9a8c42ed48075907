/- Part of this proof;laid by program. -/
import Derived.Test.YtpnhjkiligohnaaGreatDoorJ17
import Derived.Test.YtpnhjkiligohnaaGreatDoorJ7
set_option linter.unusedVariables false
set_option linter.unusedSimpArgs false
namespace Go.Vm.Rn
open Go.Vm
set_option linter.unusedVariables false
section
section
variable {P:Program} {σ:List E} {s:S} {t:St} {y:Out} {nb:Nat}
theorem SR.newU {fr:List (Nat×SV)} {bx:List BE} {M:Mem} (h:SR σ s ⟨fr,bx,M⟩) {b:Nat} (hb:M b=none) {o:O} {ob:Obj} (ho:∀ M',M' b=some ob→OR (σ++[⟨b,0,false,[]⟩]) ⟨b,0,false,[]⟩ o M') :
  SR (σ++[⟨b,0,false,[]⟩]) ⟨s.nl,s.tl,s.L,s.bx,s.n+1,s.H.put s.n (some o),s.g⟩ ⟨fr,bx,M.upd b ob⟩:=
 h.new (e:=⟨b,0,false,[]⟩) (fun x hx=>by simp[Mem.upd,hx rfl]) (fun _=>hb) (ho _ (by simp[Mem.upd]))
theorem zq7 (hn:s.n=σ.length) (e:E):(σ++[e])[s.n]? = some e:=by rw[hn];simp
theorem zRC:LS P .mkMap zMQ:=fun {σ s t y K k} hr h hk=>by
 obtain⟨fr,bx,M⟩:=t;replace h:(s.new (.mp [] 0) fun a s'=>K (.c (.m a)) s')=some y:=h;rw[zpC] at h;intro b hb;refine hk _ (.c (.m s.n)) _ _ _ ⟨⟨_,rfl⟩,Nat.le_refl _⟩ (hr.newU hb (o := .mp [] 0) fun M' hM=>⟨rfl,[],trivial,hM⟩) (zbu (by simp[C.val,zq7 hr.n])) h
theorem zuN {α β:Type} {Q:α→β→Prop} {l:List α} {r:List β} (h:All2 Q l r):∀ n,All2 Q (List.replicate n l).flatten (List.replicate n r).flatten
 | 0=>trivial
 | n+1=>by rw[List.replicate_succ,List.replicate_succ];exact h.append (zuN h n)
theorem zRD (T bytes:Nat) (z:List Value) (x w:Operand):LS P (.mkSlN T bytes z x w) (zMR T bytes z x w):=fun {σ s t y K k} hr h hk=>by
 refine zea h hr.fr fun q n h1=>zea h1 hr.fr fun q' c h2=>?_
 obtain⟨n,rfl,h3⟩:=ziW h2;obtain⟨c,rfl,h4⟩:=ziW h3;obtain⟨h5,h6⟩:=zA h4;obtain⟨h7,h8⟩:=zA h6;obtain⟨h9,h10⟩:=zA h8;obtain⟨l,h11,h12⟩:=zrB σ h10;rw[zxi,zpC] at h12;have hnc:=Nat.eq_of_beq_eq_true h5
 subst hnc;have hb:=Nat.le_of_ble_eq_true h7
 have hn:=Nat.le_of_ble_eq_true h9;obtain⟨fr,bx,M⟩:=t;refine⟨⟨by omega,rfl,by omega,by omega⟩,fun b hbn=>?_⟩;rw[Int.toNat_natCast];refine hk _ (.c (.l s.n 0 n n)) _ _ _ ⟨⟨_,rfl⟩,Nat.le_refl _⟩ (hr.newU hbn (o := .row T _) fun M' hM=>⟨rfl,_,zuN (h11.imp fun _ _ h=>h.mono _) n,hM⟩) (zbu (by simp[C.val,zq7 hr.n])) h12
theorem zRE (T bytes:Nat) (z:List Value) (x w:Operand):LS P (.mkSlC T bytes z x w) (zMS T bytes z x w):=fun {σ s t y K k} hr h hk=>by
 refine zea h hr.fr fun q n h1=>zea h1 hr.fr fun q' c h2=>?_
 obtain⟨n,rfl,h3⟩:=ziW h2;obtain⟨c,rfl,h4⟩:=ziW h3;obtain⟨h5,h6⟩:=zA h4;obtain⟨h7,h8⟩:=zA h6;obtain⟨h9,h10⟩:=zA h8;obtain⟨l,h11,h12⟩:=zrB σ h10;rw[zxi,zpC] at h12;have hnc:=Nat.le_of_ble_eq_true h5
 have hb:=Nat.le_of_ble_eq_true h7;have hn:=Nat.le_of_ble_eq_true h9
 obtain⟨fr,bx,M⟩:=t;refine⟨⟨by omega,by omega,by omega,by omega⟩,fun b hbn=>?_⟩;rw[Int.toNat_natCast,Int.toNat_natCast];refine hk _ (.c (.l s.n 0 n c)) _ _ _ ⟨⟨_,rfl⟩,Nat.le_refl _⟩ (hr.newU hbn (o := .row T _) fun M' hM=>⟨rfl,_,zuN (h11.imp fun _ _ h=>h.mono _) c,hM⟩) (zbu (by simp[C.val,zq7 hr.n])) h12
theorem zT7 (size:Nat) (x w:Operand):LS P (.cpy size x w) (zST size x w):=fun {σ s t y K k} hr h hk=>by
 refine zZ h hr.fr fun v sv _ hv h1=>?_
 refine zpD h1 hr hv fun σ1 uw u s1 t1 hx1 hr1 huw h2=>?_
 cases uw with
 | c c=>
  replace h2:(zAq (.c c) fun a o m=>ev s1 w fun v=>src size v s1 fun n vs s2=>cB (Nat.ble n m) (zew vs fun q=>cB (Nat.blt 0 q) (cB (Nat.beq q (n*size)) (s2.hget a fun ob=>ob.wr o vs fun ob'=>s2.hset a (some ob') fun s3=>K (.c (.n .i64 (.ofNat n))) s3) fail) fail) fail)=some y:=h2;obtain⟨a,o,m,q,cp,rfl,h3,e,he,hq⟩:=zRB h2 huw;show Vm.ev t1 w _
  refine zZ h3 hr1.fr fun v sv _ hv1 h4=>?_
  refine zQA h4 hr1 hv1 fun σ2 n lv vs s2 t2 hx2 hr2 hlv hlen h5=>?_
  obtain⟨h6,h7⟩:=zA h5;rw[zb1] at h7;obtain⟨h8,h9⟩:=zA h7;obtain⟨h10,h11⟩:=zA h9;have hnm:=Nat.le_of_ble_eq_true h6
  have hq0:0<lv.length:=by simpa[Nat.blt_eq] using h8
  have hqn:=Nat.eq_of_beq_eq_true h10;refine⟨⟨hnm,zne hlv⟩,?_⟩;rcases hq with rfl|⟨rfl, -⟩
  ·obtain⟨ob, -, h12,h13⟩:=zdn h11;obtain⟨e',he',ho⟩:=hr2.h.has a ob h12;rw[zpB hx2 he] at he';cases he';have hvs:lv≠[]:=fun h=>by rw[h] at hq0;simp at hq0
   obtain⟨ob',T,cs',h0,h14,h15,h16,h17⟩:=zOp h13 ho (.inl hvs) hlv;rw[zi0] at h17;obtain⟨fr,bx,M⟩:=t2;show onO (M.cells e.addr) _
   rw[h14];refine⟨by rw[hlen] at h15;exact h15,?_⟩;exact hk σ2 (.c (.n .i64 (.ofNat n))) _ _ _ (hx1.trans (hx2.trans ⟨⟨[],by simp⟩,Nat.le_refl _⟩)) (hr2.heap (hr2.h.upd h12 (zpB hx2 he) zD6 h0 h16)) (zwR _ _) h17
  ·exfalso;have:n=0:=by omega
   rw[this,Nat.zero_mul] at hqn;omega
 | _=>cases h2
theorem zOt (x:Operand):LS P (.strish x) (zJg x):=fun {σ s t y K k} hr h hk=>by
 refine zZ h hr.fr fun v sv _ hv h1=>?_
 obtain⟨c,rfl,h2⟩:=zd9 h1;cases c with
 | l a o n q=>
  obtain⟨sc,h5,rfl⟩:=hv.cc (by simp);obtain⟨w,h5,rfl⟩:=h5;simp only[C.val,Option.map_eq_some_iff] at h5;obtain⟨e,he,rfl⟩:=h5;obtain⟨ob, -, h6,h7⟩:=zdn h2;obtain⟨e',he',ho⟩:=hr.h.has a ob h6;rw[he] at he';cases he';obtain⟨fr,bx,M⟩:=t;show onO (M.textAt e.addr) _
  cases ob with
  | row T l=>
   obtain⟨h0,vs,h8,h9⟩:=ho;replace h9:M e.addr=some (.cells vs.toArray T (0,0)):=h9;replace h7:(s.hset a (some (.ro T l)) fun s'=>K (.c (.l a o n q)) s')=some y:=h7;rw[zi0] at h7;have ht:M.textAt e.addr=some (.cells vs.toArray T (vs.length,vs.length+1)):=by simp[Mem.textAt,h9]
   rw[ht];exact hk σ (.c (.l a o n q)) _ _ _ ⟨⟨[],by simp⟩,Nat.le_refl _⟩ (hr.heap (M':=M.upd e.addr (.cells vs.toArray T (vs.length,vs.length+1))) (hr.h.upd h6 he (o := .ro T l) (fun x hx=>by simp[Mem.upd,hx]) h0 ⟨h0,vs,h8,by simp[Mem.upd]⟩)) (zbu (by simp[C.val,he])) h7
  | ro T l=>
   obtain⟨h0,vs,h8,h9⟩:=ho;replace h9:M e.addr=some (.cells vs.toArray T (vs.length,vs.length+1)):=h9;replace h7:K (.c (.l a o n q)) s=some y:=h7
   have ht:M.textAt e.addr=some (.cells vs.toArray T (vs.length,vs.length+1)):=by
    simp[Mem.textAt,h9]
   rw[ht]
   have hM:M.upd e.addr (.cells vs.toArray T (vs.length,vs.length+1))=M:=by
    funext x;simp only[Mem.upd];split
    ·rename_i hx;rw[hx,h9]
    ·rfl
   show k _ ⟨fr,bx,M.upd e.addr _⟩;rw[hM];exact hk σ (.c (.l a o n q)) _ s _ Ext.rfl' hr (zbu (by simp[C.val,he])) h7
  | _=>cases h7
 | _=>cases h2
theorem zT8 (n:Nat) (x:Operand):LS P (.slA n x) (zSV n x):=fun {σ s t y K k} hr h hk=>by
 refine zZ h hr.fr fun v sv _ hv h1=>?_
 refine zpD h1 hr hv fun σ1 uw u s1 t1 hx1 hr1 huw h2=>?_
 split at h2
 ·rename_i a o;simp only[WR,CR,C.val,Option.map_eq_some_iff] at huw;obtain⟨e,he,rfl⟩:=huw;exact hk σ1 (.c (.l a o n n)) _ s1 t1 hx1 hr1 (zbu (by simp[C.val,he])) h2
 ·cases h2
theorem zT9 (z:Value) (x:Operand):LS P (.clr z x) (zSU z x):=fun {σ s t y K k} hr h hk=>by
 refine zZ h hr.fr fun v sv _ hv h1=>?_
 obtain⟨q,n,c,rfl,h2⟩:=zxn h1 hv;show zNY z q n t _
 cases n with
 | zero=>exact hk σ (.tp []) _ s t Ext.rfl' hr ⟨[],trivial,rfl⟩ h2
 | succ n=>
  replace h2:(zAq v fun a o _=>oV (C.ofV z) fun c=>zAo [c] (n+1) fun vs=>s.hget a fun ob=>ob.wr o vs fun ob'=>s.hset a (some ob') fun s'=>K (.tp []) s')=some y:=h2;obtain⟨a,o,n',x',c',h3,h4,e,he,hx⟩:=zHE h2 hv;cases h3;obtain⟨c0,h5,h6⟩:=zjg h4;rw[zxi] at h6;obtain⟨ob, -, h7,h8⟩:=zdn h6;obtain⟨e',he',ho⟩:=hr.h.has a ob h7;rw[he] at he';cases he';have hw:All2 (CR σ) (List.replicate (n+1) [c0]).flatten (List.replicate (n+1) [z]).flatten:=zuN (l:=[c0]) (r:=[z]) ⟨C.ofV_s h5 σ,trivial⟩ (n+1)
  have hf:(List.replicate (n+1) [z]).flatten=List.replicate (n+1) z:=by simp
  rw[hf] at hw;obtain⟨ob',T,cs',h0,h12,h13,h14,h15⟩:=zOp h8 ho (.inl (by simp[List.replicate_succ])) hw;rw[zi0] at h15;obtain⟨fr,bx,M⟩:=t;rcases hx with rfl|⟨h, -⟩
  ·show onO (M.cells e.addr) _;rw[h12];refine⟨by rw[List.length_replicate] at h13;exact h13,?_⟩;exact hk σ (.tp []) _ _ _ ⟨⟨[],by simp⟩,Nat.le_refl _⟩ (hr.heap (hr.h.upd h7 he zD6 h0 h14)) ⟨[],trivial,rfl⟩ h15
  ·cases h
end
end
section
section
variable {P:Program} {σ:List E} {s:S} {t:St} {y:Out} {nb:Nat}
theorem All2.eraseIdx {α β:Type} {Q:α→β→Prop}:∀ {l:List α} {r:List β},All2 Q l r→∀ k,All2 Q (l.eraseIdx k) (r.eraseIdx k)
 | [],[],_,_=>trivial
 | _::_,_::_,h,0=>h.2
 | _::_,_::_,h,k+1=>⟨h.1,eraseIdx h.2 k⟩
 | [],_::_,h,_=>h.elim
 | _::_,[],h,_=>h.elim
theorem All2.modify {α β:Type} {Q:α→β→Prop} {f:β→β}:∀ {l:List α} {r:List β},All2 Q l r→∀ {k:Nat} {a a':α},l[k]? = some a→(∀ b,Q a b→Q a' (f b))→All2 Q (l.set k a') (r.modify k f)
 | _::_,_::_,h,0,a,a',ha,hf=>⟨by simp at ha;subst ha;exact hf _ h.1,h.2⟩
 | _::_,_::_,h,k+1,a,a',ha,hf=>⟨h.1,modify h.2 (by simpa using ha) hf⟩
 | [],[],_,_,_,_,ha,_=>by simp at ha
 | [],_::_,h,_,_,_,_,_=>h.elim
 | _::_,[],h,_,_,_,_,_=>h.elim
theorem zFM (ms:List MapEntry) (i:Nat) (f:MapEntry→MapEntry):ms.toArray.modify i f=(ms.modify i f).toArray:=by
 apply Array.ext';simp
theorem zHL (ms:List MapEntry) (i:Nat):ms.toArray.eraseIdxIfInBounds i=(ms.eraseIdx i).toArray:=by
 apply Array.ext';unfold Array.eraseIdxIfInBounds;split
 ·simp
 ·rename_i h;simp at h;rw[List.eraseIdx_of_length_le h]
theorem zS5 {es:List En} {ms:List MapEntry} {c:Nat} {f:Option (Nat×W)} {f':Option (Nat×Value)} (hf:fR σ f f') {w wk:W} {v key:Value} (hk:WR σ wk key) (hw:WR σ w v) (hl:All2 (EnR σ) es ms) {K:O→R} (h:mput es c f wk w K=some y) :
  ∃ es' c' ms',All2 (EnR σ) es' ms'∧Vm.mput (ms.toArray,c) f' key v = .map ms'.toArray c'∧K (.mp es' c')=some y:=by
 match f,f',hf with
 | some (i,_),some (j,_),hf=>
  obtain⟨rfl, -⟩:=hf;obtain⟨e,h1,h2⟩:=ztC (l:=es) (k:=i) (K:=fun (e:En)=>setK es i (En.mk wk w e.born) fun es'=>K (.mp es' c)) h;obtain⟨h3,h4⟩:=zHC h2;refine⟨_,c,ms.modify i fun e=>{ e with key:=key,val:=v },hl.modify (a':=En.mk wk w e.born) h1 (fun b hb=>⟨hk,hw,hb.2.2⟩),?_,h4⟩;show Obj.map (ms.toArray.modify i _) c=_
  rw[zFM]
 | none,none,_=>
  have h':fN (fun c'=>appK es [⟨wk,w,c⟩] fun es'=>K (.mp es' c')) (c+1)=some y:=h;rw[fN_eq,znc] at h';have h1:All2 (EnR σ) [(⟨wk,w,c⟩:En)] [(⟨key,v,c⟩:MapEntry)]:=⟨⟨hk,hw,rfl⟩,trivial⟩
  refine⟨_,c+1,ms++[⟨key,v,c⟩],hl.append h1,?_,h'⟩;show Obj.map (ms.toArray.push _) (c+1)=_
  simp
theorem zS6 (kk:KK) (x key w:Operand):LS P (.mset kk x key w) (zQk kk x key w):=fun {σ s t y K k} hr h hk=>by
 refine zZ h hr.fr fun u su _ hu h1=>?_
 rcases zoW h1 hu with ⟨-, h6⟩|⟨a,e,rfl,he,h2⟩
 ·cases h6
 show Vm.ev t key _;refine zZ h2 hr.fr fun kv skv _ hkv h3=>zHK h3 hkv fun wk key' hwk h4=>?_
 refine zZ h4 hr.fr fun v sv _ hv h5=>zpD h5 hr hv fun σ1 uw u1 s1 t1 hx hr1 huw h6=>?_
 obtain⟨ob, -, h7,h8⟩:=zdn h6;obtain⟨e',he',ho⟩:=hr1.h.has a ob h7;rw[zpB hx he] at he';cases he';obtain⟨es,c,ms,rfl,h0,h10,h11,h12,h13⟩:=zuM h8 ho;obtain⟨f,h14,h15⟩:=zjg h13;obtain⟨f',h16,h17⟩:=zxo (WR.ext hx hwk) h14 h10;obtain⟨es',c',ms',h18,h19,h20⟩:=zS5 h17 (WR.ext hx hwk) huw h10 h15;rw[zi0] at h20;obtain⟨fr,bx,M⟩:=t1;show onO (M.mapAt e.addr) _
 replace h12:M.mapAt e.addr=some (ms.toArray,c):=h12;rw[h12];show onO (Vm.kfind key' ms 0) _
 rw[h16];show k .dead ⟨fr,bx,M.upd e.addr (Vm.mput (ms.toArray,c) f' key' u1)⟩
 rw[h19];exact hk σ1 .dead .dead _ _ (hx.trans ⟨⟨[],by simp⟩,Nat.le_refl _⟩) (hr1.heap (hr1.h.upd (o := .mp es' c') h7 (zpB hx he) (fun x hx=>by simp[Mem.upd,hx]) h0 ⟨h0,ms',h18,by simp[Mem.upd]⟩)) rfl h20
theorem zS7 (kk:KK) (x key:Operand):LS P (.mdel kk x key) (zQl kk x key):=fun {σ s t y K k} hr h hk=>by
 refine zZ h hr.fr fun u su _ hu h1=>?_
 have h2:∃ r,su = .c (.v (.map r)):=by
  obtain⟨kv,hk1⟩:∃ kv,(zoR kk kv fun key=>asMap u (K (.tp []) s) fun b=>s.hget b fun ob=>ob.mpK fun es c=>oV (kfind key es 0) fun f=>match f with
    | some (i,_)=>zOi es i fun es'=>s.hset b (some (.mp es' c)) fun s'=>K (.tp []) s'
    | none=>K (.tp []) s)=some y:=by
   cases key with
   | tmp d=>obtain⟨v, -, h2⟩:=zjg (K:=fun kv=>zoR kk kv _) h1;exact⟨v,h2⟩
   | const v=>obtain⟨x, -, -, h2⟩:=ofV_s (σ:=σ) (nb:=0) (K:=fun kv=>zoR kk kv _) h1;exact⟨x,h2⟩
   | func f=>exact⟨_,h1⟩
   | global g=>cases h1
  have key:∀ {A:R} {B:Nat→R},asMap u A B=some y→∃ r,su = .c (.v (.map r)):=fun hw=>by
   rcases zoW hw hu with ⟨rfl, -⟩|⟨a,e,rfl, -, -⟩
   ·exact⟨_,rfl⟩
   ·exact⟨_,rfl⟩
  unfold zoR at hk1;split at hk1
  ·exact key hk1
  ·exact key (zA hk1).2
  ·rw[zb1] at hk1;exact key (zA (zA hk1).2).2
  ·cases hk1
 obtain⟨r,rfl⟩:=h2;show Vm.ev t key _
 refine zZ h1 hr.fr fun kv skv _ hkv h3=>zHK h3 hkv fun wk u' hwk h4=>?_
 rcases zoW h4 hu with ⟨h5,h6⟩|⟨a,e,h5,he,h6⟩
 ·cases h5;exact hk σ (.tp []) _ s t Ext.rfl' hr ⟨[],trivial,rfl⟩ h6
 ·cases h5;obtain⟨ob, -, h7,h8⟩:=zdn h6;obtain⟨e',he',ho⟩:=hr.h.has a ob h7;rw[he] at he';cases he';obtain⟨es,c,ms,rfl,h0,h10,h11,h12,h13⟩:=zuM h8 ho;obtain⟨f,h14,h15⟩:=zjg h13;obtain⟨f',h16,h17⟩:=zxo hwk h14 h10;obtain⟨fr,bx,M⟩:=t;replace h12:M.mapAt e.addr=some (ms.toArray,c):=h12;replace h11:M e.addr=some (.map ms.toArray c):=h11;show onO (M.mapAt e.addr) _
  rw[h12];show onO (Vm.kfind u' ms 0) _
  rw[h16]
  match f,f',h17 with
  | some (i,_),some (j,_),h17=>
   obtain⟨rfl, -⟩:=h17;obtain⟨h18,h19⟩:=zMZ h15;rw[zi0] at h19;show k _ ⟨fr,bx,M.upd e.addr (.map (ms.toArray.eraseIdxIfInBounds i) c)⟩
   rw[zHL];exact hk σ (.tp []) _ _ _ ⟨⟨[],by simp⟩,Nat.le_refl _⟩ (hr.heap (hr.h.upd (o := .mp (es.eraseIdx i) c) h7 he (fun x hx=>by simp[Mem.upd,hx]) h0 ⟨h0,_,h10.eraseIdx i,by simp[Mem.upd]⟩)) ⟨[],trivial,rfl⟩ h19
  | none,none,_=>
   have hM:M.upd e.addr (.map ms.toArray c)=M:=by
    funext x;simp only[Mem.upd];split
    ·rename_i hx;rw[hx,h11]
    ·rfl
   show k _ ⟨fr,bx,M.upd e.addr (.map ms.toArray c)⟩;rw[hM];exact hk σ (.tp []) _ s _ Ext.rfl' hr ⟨[],trivial,rfl⟩ h15
theorem zOu (x:Operand):LS P (.mrange x) (zJh x):=fun {σ s t y K k} hr h hk=>by
 refine zZ h hr.fr fun u su _ hu h1=>?_
 obtain⟨fr,bx,M⟩:=t;rcases zoW h1 hu with ⟨rfl,h6⟩|⟨a,e,rfl,he,h6⟩
 ·rw[zpC] at h6;intro b hb;exact hk _ (.c (.p s.n 0)) _ _ _ ⟨⟨_,rfl⟩,Nat.le_refl _⟩ (hr.newU hb (o := .it none 0 [] 0) fun M' hM=>⟨rfl,none,rfl,hM⟩) (zbu (by simp[C.val,zq7 hr.n])) h6
 ·obtain⟨ob, -, h7,h8⟩:=zdn h6;obtain⟨e',he',ho⟩:=hr.h.has a ob h7;rw[he] at he';cases he';obtain⟨es,c,ms,rfl,h0,h10,h11,h12,h13⟩:=zuM h8 ho;replace h12:M.mapAt e.addr=some (ms.toArray,c):=h12;show onO (M.mapAt e.addr) _
  rw[h12];rw[zpC] at h13;intro b hb;exact hk _ (.c (.p s.n 0)) _ _ _ ⟨⟨_,rfl⟩,Nat.le_refl _⟩ (hr.newU hb (o := .it (some a) c [] c) fun M' hM=>⟨rfl,some e.addr,⟨e,zoT _ he,rfl⟩,hM⟩) (zbu (by simp[C.val,zq7 hr.n])) h13
theorem zAu {seen:List Nat}:∀ {es:List En} {ms:List MapEntry},All2 (EnR σ) es ms→All2 (EnR σ) (zCo seen es) (ms.filter fun m => !seen.contains m.born)
 | [],[],_=>trivial
 | e::es,m::ms,h=>by
  unfold zCo;rw[List.filter_cons,List.filter_cons,h.1.2.2];split
  ·exact⟨h.1,zAu h.2⟩
  ·exact zAu h.2
 | [],_::_,h=>h.elim
 | _::_,[],h=>h.elim
theorem zRF (x:Operand):LS P (.mnext x) (zMT x):=fun {σ s t y K k} hr h hk=>by
 refine zxk h hr.fr hr.bx (fun j o T l cs _ _ _ h1=>by cases h1) (fun a o e he h1=>?_);obtain⟨h2,h3⟩:=zA h1;refine znd (Nat.eq_of_beq_eq_true h2) ?_;obtain⟨ob, -, h5,h6⟩:=zdn h3;obtain⟨e',he',ho⟩:=hr.h.has a ob h5;rw[he] at he';cases he';obtain⟨fr,bx,M⟩:=t;cases ob with
 | it m since seen last=>
  obtain⟨h0,x',hx,hM⟩:=ho;replace hM:M e.addr=some (.mapIter x' since seen.toArray last):=hM;have hit:M.iterAt e.addr=some (x',since,seen.toArray,last):=by simp[Mem.iterAt,hM]
  show onO (M.iterAt e.addr) _;rw[hit];cases m with
  | none=>
   cases hx;exact hk σ (.tp [.c (.t false)]) _ s _ Ext.rfl' hr ⟨[.bool false],⟨rfl,trivial⟩,rfl⟩ h6
  | some m=>
   obtain⟨em,hem,rfl⟩:=hx
   replace h6:(s.hget m fun om=>om.mpK fun es clock=>cB (seen.isEmpty||es.isEmpty||es.any fun e=>Nat.blt e.born last) (match zCo seen es with
    | []=>K (.tp [.c (.t false)]) s
    | [e]=>cB (Nat.blt e.born since) (s.hset a (some (.it (some m) since (seen++[e.born]) clock)) fun s'=>K (.tp [.c (.t true),e.key,e.val]) s') fail
    | _=>fail) fail)=some y:=h6
   obtain⟨om, -, h8,h9⟩:=zdn h6;obtain⟨em',hem',hom⟩:=hr.h.has m om h8;rw[hem] at hem';cases hem';obtain⟨es,c,ms,rfl, -, h10,h11,h12,h13⟩:=zuM h9 hom;replace h12:M.mapAt em.addr=some (ms.toArray,c):=h12;show onO (M.mapAt em.addr) _
   rw[h12];obtain⟨h14,h15⟩:=zA h13;have hu:=zAu (seen:=seen) h10
   refine⟨?_,?_⟩
   ·simp only[Bool.or_eq_true] at h14;rcases h14 with (h14|h14)|h14
    ·left;simpa using h14
    ·right;left;have:es=[]:=by simpa using h14
     subst this;cases ms with
     | nil=>rfl
     | cons _ _=>exact h10.elim
    ·right;right;rw[List.any_eq_true] at h14;obtain⟨en,hen,hlt⟩:=h14;obtain⟨i,hi⟩:=List.getElem?_of_mem hen;obtain⟨me,hme,her⟩:=h10.at_ hi;refine⟨me,List.mem_of_getElem? hme,?_⟩;rw[her.2.2];simpa[Nat.blt_eq] using hlt
   ·split at h15
    ·rename_i hun
     have hf:(ms.filter fun m => !seen.contains m.born)=[]:=by
      rw[hun] at hu;cases hfe:(ms.filter fun m => !seen.contains m.born) with
      | nil=>rfl
      | cons _ _=>rw[hfe] at hu;exact hu.elim
     refine⟨fun _=>hk σ (.tp [.c (.t false)]) _ s _ Ext.rfl' hr ⟨[.bool false],⟨rfl,trivial⟩,rfl⟩ h15,fun me hme hns=>?_⟩;have:me∈ms.filter fun m => !seen.contains m.born:=List.mem_filter.2 ⟨hme,by simpa using hns⟩
     rw[hf] at this;cases this
    ·rename_i en hun;obtain⟨h16,h17⟩:=zA h15;rw[zi0] at h17;have hlt:en.born<since:=by simpa[Nat.blt_eq] using h16
     obtain⟨me,hfe,her⟩:∃ me,(ms.filter fun m => !seen.contains m.born)=[me]∧EnR σ en me:=by
      rw[hun] at hu
      have one:∀ fl:List MapEntry,All2 (EnR σ) [en] fl→∃ me,fl=[me]∧EnR σ en me:=fun fl h=>by
       match fl,h with
       | [me],h=>exact⟨me,rfl,h.1⟩
       | [],h=>exact h.elim
       | _::_::_,h=>exact h.2.elim
      exact one _ hu
     have hme:me∈ms.filter fun m => !seen.contains m.born:=by rw[hfe];simp
     obtain⟨hme1,hme2⟩:=List.mem_filter.1 hme;refine⟨fun hall=>?_,fun me' hme' hns=>?_⟩
     ·exfalso;rcases hall me (by simpa using hme1) with h|h
      ·have:seen.contains me.born=true:=by simpa using h
       rw[this] at hme2;cases hme2
      ·have h':since≤me.born:=h;rw[her.2.2] at h';omega
     ·have h18:me'∈ms.filter fun m => !seen.contains m.born:=List.mem_filter.2 ⟨by simpa using hme',by simpa using hns⟩
      rw[hfe] at h18;have:me'=me:=by simpa using h18
      subst this;have hpush:seen.toArray.push me'.born=(seen++[en.born]).toArray:=by rw[her.2.2];simp
      rw[hpush];exact hk σ (.tp [.c (.t true),en.key,en.val]) _ _ _ ⟨⟨[],by simp⟩,Nat.le_refl _⟩ (hr.heap (hr.h.upd (o := .it (some m) since (seen++[en.born]) c) h5 he (fun x hx=>by simp[Mem.upd,hx]) h0 ⟨h0,some em.addr,⟨em,hem,rfl⟩,by simp[Mem.upd]⟩)) ⟨[.bool true,me'.key,me'.val],⟨rfl,her.1,her.2.1,trivial⟩,rfl⟩ h17
    ·cases h15
 | _=>cases h6
theorem zOv (x:Operand):LS P (.srange x) (zJj x):=fun {σ s t y K k} hr h hk=>by
 refine zZ h hr.fr fun u su _ hu h1=>?_
 obtain⟨b,rfl,h2⟩:=zq6 h1 hu;obtain⟨-, h3⟩:=zA h2;rw[zpC] at h3;obtain⟨fr,bx,M⟩:=t;intro a ha;exact hk _ (.c (.p s.n 0)) _ _ _ ⟨⟨_,rfl⟩,Nat.le_refl _⟩ (hr.newU ha (o := .si b 0) fun M' hM=>⟨rfl,hM⟩) (zbu (by simp[C.val,zq7 hr.n])) h3
theorem zRG (x:Operand):LS P (.snext x) (zMU x):=fun {σ s t y K k} hr h hk=>by
 refine zxk h hr.fr hr.bx (fun j o T l cs _ _ _ h1=>by cases h1) (fun a o e he h1=>?_);obtain⟨h2,h3⟩:=zA h1;refine znd (Nat.eq_of_beq_eq_true h2) ?_;obtain⟨ob, -, h5,h6⟩:=zdn h3;obtain⟨e',he',ho⟩:=hr.h.has a ob h5;rw[he] at he';cases he';obtain⟨fr,bx,M⟩:=t;cases ob with
 | si l p=>
  obtain⟨h0,hM⟩:=ho;replace hM:M e.addr=some (.stringIter (zad l) p):=hM;have hit:M.sitAt e.addr=some (zad l,p):=by simp[Mem.sitAt,hM]
  show onO (M.sitAt e.addr) _;rw[hit];replace h6:(zew l fun n=>Bool.rec (K (.tp [.c (.t false)]) s) (zwK l p fun b=>cB (Nat.blt b 128) (fN (fun p'=>s.hset a (some (.si l p')) fun s'=>K (.tp [.c (.t true),.c (.n .i64 (.ofNat p)),.c (.n .i32 (.ofNat b))]) s') (p+1)) fail) (Nat.blt p n))=some y:=h6;rw[zb1] at h6;have hs:(zad l).size=l.length:=by simp[zad,ByteArray.size]
  cases hb:Nat.blt p l.length with
  | true=>
   rw[hb] at h6;have hp:p<l.length:=by simpa[Nat.blt_eq] using hb
   obtain⟨b,h7,h8⟩:=ztC (l:=l) (k:=p) h6;obtain⟨h9,h10⟩:=zA h8;rw[fN_eq,zi0] at h10;have hb8:b<128:=by simpa[Nat.blt_eq] using h9
   have hget:((zad l).get! p).toNat=b:=by
    have h11:=List.getElem?_eq_some_iff.1 h7
    have:(zad l).get! p=UInt8.ofNat b:=by
     show (l.map UInt8.ofNat).toArray[p]! = _;simp[hp,h11.2]
    rw[this];simp;omega
   refine⟨fun _=>⟨by show ((zad l).get! p).toNat<128;rw[hget];exact hb8,?_⟩,fun hn=>absurd (by show p<(zad l).size;rw[hs];exact hp) hn⟩;show k (.c (.v (.tuple #[.bool true,.int .i64 p,.int .i32 (((zad l).get! p).toNat:Nat)]))) ⟨fr,bx,M.upd e.addr (.stringIter (zad l) (p+1))⟩
   rw[hget];exact hk σ (.tp [.c (.t true),.c (.n .i64 (.ofNat p)),.c (.n .i32 (.ofNat b))]) _ _ _ ⟨⟨[],by simp⟩,Nat.le_refl _⟩ (hr.heap (hr.h.upd (o := .si l (p+1)) h5 he (fun x hx=>by simp[Mem.upd,hx]) h0 ⟨h0,by simp[Mem.upd]⟩)) ⟨[.bool true,.int .i64 p,.int .i32 b],⟨rfl,rfl,rfl,trivial⟩,rfl⟩ h10
  | false=>
   rw[hb] at h6;have hp:¬p<l.length:=fun h=>by rw[show Nat.blt p l.length=true by simpa[Nat.blt_eq] using h] at hb;cases hb
   refine⟨fun hlt=>absurd (by have:p<(zad l).size:=hlt;rw[hs] at this;exact this) hp,fun _=>?_⟩;exact hk σ (.tp [.c (.t false)]) _ s _ Ext.rfl' hr ⟨[.bool false],⟨rfl,trivial⟩,rfl⟩ h6
 | _=>cases h6
theorem zxp {F:Cal} (hF:FOk P F) {g:Nat} {ws:List W} {vs:List Value} {K:V→S→R} (h:callF F g ws s K=some y) (hr:SR σ s t) (hws:All2 (WR σ) ws vs) {k:SV→St→Prop}
  (hk:∀ σ' v sv s' t',Ext σ t σ' t'→SR σ' s' t'→VR σ' t'.bx.length v sv→K v s'=some y→k sv t'):Vm.callF P g vs t k:=by
 obtain⟨nl,tl,L,bx,n,H,g0⟩:=s;obtain⟨fr,bx',M⟩:=t;obtain⟨z,h1,h2⟩:=zjg (K:=fun y=>Out.rec (motive:=fun _=>R) (fun _ _=>fail) (fun v n' H'=>K v ⟨nl,tl,L,bx,n',H',g0⟩) y) h;cases z with
 | st e s=>cases h2
 | rt v n' H'=>
  show zaz vs _;rw[zaa];refine CallsM.mono (hF h1 rfl hr.n.symm hr.h hws) fun u M' ⟨τ,h3,h4,h5⟩=>?_
  refine hk (σ++τ) v (zf0 u) ⟨nl,tl,L,bx,n',H',g0⟩ ⟨fr,bx',M'⟩ ⟨⟨τ,rfl⟩,Nat.le_refl _⟩ ⟨h3.symm,(hr.fr.mono τ (Nat.le_refl _)).same rfl rfl rfl,hr.bx.imp fun _ _ h=>h.mono τ (Nat.le_refl _),h5⟩ (zTY h4) h2
theorem zS8 {F:Cal} (hF:FOk P F) (f:Operand) (args:List Operand):LS P (.call f args) (zQm F f args):=fun {σ s t y K k} hr h hk=>by
 refine zZ h hr.fr fun v sv _ hv h1=>?_
 refine zJx h1 hr fun σ1 ws vs s1 t1 hx hr1 hws h2=>?_
 have hv1:=VR.ext hx hv;cases v with
 | c c=>cases c with
  | f g=>
   rw[hv1.val rfl (by simp)];refine zxp (vs:=(#[]:Array Value).toList++vs++(#[]:Array Value).toList) hF h2 hr1 (by simpa using hws) fun σ' v sv s' t' hx' hr' hv' h3=>hk σ' v sv s' t' (hx.trans hx') hr' hv' h3
  | fm g a o=>
   obtain⟨sc,h5,rfl⟩:=hv1.cc (by simp);obtain⟨w,h5,rfl⟩:=h5;simp only[C.val,Option.map_eq_some_iff] at h5;obtain⟨e,he,rfl⟩:=h5
   refine zxp (vs:=(#[.pointer (some ⟨e.addr,o,none⟩)]:Array Value).toList++vs++(#[]:Array Value).toList) hF h2 hr1 (by
    show All2 (WR σ1) _ ([.pointer (some ⟨e.addr,o,none⟩)]++vs++[]);rw[List.append_nil]
    exact⟨by simp[WR,CR,C.val,he],hws⟩) fun σ' v sv s' t' hx' hr' hv' h3=>hk σ' v sv s' t' (hx.trans hx') hr' hv' h3
  | _=>cases h2
 | fn g l=>
  replace h2:(shalCs l s1 fun l' s''=>appK ws (l'.map W.c) fun ws'=>callF F g ws' s'' K)=some y:=h2
  have wsOf:∀ {σ':List E} {l':List C} {us:List Value},All2 (CR σ') l' us→All2 (WR σ') (l'.map W.c) us:=fun {σ' l' us} hl=>by
   induction l' generalizing us with
   | nil=>cases us with
    | nil=>trivial
    | cons _ _=>exact hl.elim
   | cons c l' ih=>cases us with
    | nil=>exact hl.elim
    | cons u us=>exact⟨hl.1,ih hl.2⟩
  rcases hv1 with ⟨cs,h3,rfl⟩|⟨us,h3,rfl⟩
  ·refine zoX h2 hr1 h3 fun σ2 l' us s2 t2 hx2 hr2 hl' _ h4=>?_
   rw[znc] at h4;refine zxp hF h4 hr2 ((hws.imp fun _ _ h=>WR.ext hx2 h).append (wsOf hl')) fun σ' v sv s' t' hx' hr' hv' h5=>hk σ' v sv s' t' (hx.trans (hx2.trans hx')) hr' hv' h5
  ·have hid:∀ {l:List C} {vs:List Value} {K:List C→S→R},All2 (CR σ1) l vs→shalCs l s1 K=some y→K l s1=some y:=by
    intro l
    induction l with
    | nil=>intro vs K _ h;exact h
    | cons c l ih=>
     intro vs K hl h
     match vs,hl with
     | v::vs,hl=>
      have h':shalC c s1 (fun c' s'=>shalCs l s' fun r s''=>K (c'::r) s'')=some y:=h
      have h'':(shalCs l s1 fun r s''=>K (c::r) s'')=some y:=by
       cases c with
       | b j o=>exact absurd hl.1 (by simp[CR,C.val])
       | _=>exact h'
      exact ih hl.2 h''
   have h4:=hid h3 h2;rw[znc] at h4;refine zxp (vs:=(#[]:Array Value).toList++vs++us.toArray.toList) hF h4 hr1 (by simpa using hws.append (wsOf h3)) fun σ' v sv s' t' hx' hr' hv' h5=>hk σ' v sv s' t' (hx.trans hx') hr' hv' h5
 | _=>cases h2
end
end
section
section
variable {P:Program} {F:Cal} {σ:List E} {s:S} {t:St} {y:Out} {nb:Nat}
theorem zUJ (hF:FOk P F) (o:ROp) (hq:zE o=false):LS P o (st F o):=by
 cases o with
 | box T x=>exact zT5 T x
 | alloc T z=>exact zRz T z
 | mkSl tmp E n z parts=>exact zS4 tmp E n z parts
 | store n p x=>exact zRA n p x
 | app E size bytes z x y=>exact zT6 E size bytes z x y
 | mkMap=>exact zRC
 | strish x=>exact zOt x
 | clr z x=>exact zT9 z x
 | slA n x=>exact zT8 n x
 | srange x=>exact zOv x
 | snext x=>exact zRG x
 | cpy n x y=>exact zT7 n x y
 | mkSlN E b z x y=>exact zRD E b z x y
 | mkSlC E b z x y=>exact zRE E b z x y
 | mset k x y z=>exact zS6 k x y z
 | mdel k x y=>exact zS7 k x y
 | mrange x=>exact zOu x
 | mnext x=>exact zRF x
 | call f args=>exact zS8 hF f args
 | _=>cases hq
theorem zUK (o:ROp) (hq:zE o=true) {K:V→S→R} (h:st F o s K=some y) (hr:SR σ s t) {k:SV→Prop} (hk:∀ v sv,VR σ t.bx.length v sv→K v s=some y→k sv):vq o t k:=by
 have key:∀ {q:S→(V→R)→R},QS o q→lQ q s K=some y→vq o t k:=fun hs h=>hs hr.q h hk
 cases o with
 | mov x=>exact key (zQs x) h
 | pick c a b=>exact key (zM0 c a b) h
 | build z p=>exact key (zJn z p) h
 | load g n p=>exact key (zM1 g n p) h
 | nilck x=>exact key (zJo x) h
 | faddr o p=>exact key (zJp o p) h
 | field g o n x=>exact key (zJq g o n x) h
 | iaddr n x i=>exact key (zJr n x i) h
 | iaddrA l n x i=>exact key (zHF l n x i) h
 | ibin o x y=>exact key (zM5 o x y) h
 | bbin o x y=>exact key (zM2 o x y) h
 | pnil o x y=>exact key (zM3 o x y) h
 | not x=>exact key (zQt x) h
 | conv k x=>exact key (zM6 k x) h
 | len x=>exact key (zQu x) h
 | lenS x=>exact key (zM4 x) h
 | extract x i=>exact key (zEy x i) h
 | strOf x=>exact key (zJs x) h
 | strE o x y=>exact key (zM9 o x y) h
 | imm m x y=>exact key (zQw m x y) h
 | slx3 n x l h' m=>exact key (zNc n x l h' m) h
 | slx n x l h'=>exact key (zQx n x l h') h
 | aeq o n x y=>exact key (zQy o n x y) h
 | slnil o x y=>exact key (zJt o x y) h
 | sidx x i=>exact key (zNa x i) h
 | aidx g l n x i=>exact key (zNb g l n x i) h
 | mkfn f c=>exact key (zNf f c) h
 | mval f x=>exact key (zNd f x) h
 | uneg x=>exact key (zM7 x) h
 | ucom x=>exact key (zM8 x) h
 | ssl x l h'=>exact key (zQz x l h') h
 | mget k o z x y=>exact key (zNi k o z x y) h
 | mlen x=>exact key (zNj x) h
 | mentry x=>exact key (zOo x) h
 | _=>cases hq
theorem zHM:∀ (L:List (Option V)) (d:Nat),zOa L d=(L[d]?).join
 | [],_=>rfl
 | _::_,0=>rfl
 | _::L,d+1=>by rw[List.getElem?_cons_succ];exact zHM L d
theorem zNm {v:V}:∀ {L:List (Option V)} {d:Nat} {K:List (Option V)→R},zKm L d v K=some y→d<L.length∧K (L.set d (some v))=some y
 | [],_,_,h=>by cases h
 | _::_,0,_,h=>⟨by simp,h⟩
 | a::L,d+1,K,h=>by
  obtain⟨h1,h2⟩:=zNm (L:=L) (d:=d) (K:=fun r=>K (a::r)) h;exact⟨by simp only[List.length_cons];omega,h2⟩
theorem znf (k:Nat) (v:V) (l:List (Nat×V)) (d:Nat):zuH ((k,v)::l) d=if k=d then some v else zuH l d:=by
 show (Bool.rec (zuH l d) (some v) (Nat.beq k d):Option V)=_;rw[zwS];by_cases h:k=d
 ·simp[h]
 ·simp[h]
theorem zlg (nl:Nat) (tl:List (Nat×V)) (L:List (Option V)) (bx:List B) (n:Nat) (H:T O) (g:Option (List Nat)) (d:Nat):S.fget ⟨nl,tl,L,bx,n,H,g⟩ d=if nl≤d then zuH tl d else (L[d]?).join:=by
 show (Bool.rec (zOa L d) (zuH tl d) (Nat.ble nl d):Option V)=_;rw[zHM];by_cases h:nl≤d
 ·rw[Nat.ble_eq_true_of_le h,if_pos h]
 ·have hb:Nat.ble nl d=false:=by
   cases hb:Nat.ble nl d with
   | false=>rfl
   | true=>exact absurd (Nat.le_of_ble_eq_true hb) h
  rw[if_neg h,hb]
theorem zq8 (d:Nat) (sv:SV) (fr:List (Nat×SV)) (d':Nat):lk ((d,sv)::fr) d'=if d=d' then some sv else lk fr d':=by
 show (match Nat.beq d d' with|true=>some sv|false=>lk fr d')=_;rw[zwS];by_cases h:d=d'
 ·simp[h]
 ·simp[h]
theorem put_s {d:Option Nat} {v:V} {sv:SV} {K:S→R} (h:s.put d v K=some y) (hf:FR σ nb s t.fr) (hv:VR σ nb v sv) :
  ∃ s',K s'=some y∧s'.bx=s.bx∧s'.n=s.n∧s'.H=s.H∧FR σ nb s' (t.put d sv).fr:=by
 obtain⟨nl,tl,L,bx,n,H,g⟩:=s;cases d with
 | none=>exact⟨_,h,rfl,rfl,rfl,hf⟩
 | some d=>
  have h':(Bool.rec (Bool.rec (zKm L d v fun L'=>K ⟨nl,tl,L',bx,n,H,g⟩) (K ⟨nl,(d,v)::tl,L,bx,n,H,g⟩) (Nat.ble nl d)) fail (zMM v):R)=some y:=h
  have hd:v ≠ .dead∧(Bool.rec (zKm L d v fun L'=>K ⟨nl,tl,L',bx,n,H,g⟩) (K ⟨nl,(d,v)::tl,L,bx,n,H,g⟩) (Nat.ble nl d):R)=some y:=by
   cases v with
   | dead=>cases h'
   | _=>exact⟨by simp,h'⟩
  obtain⟨hd,h''⟩:=hd;cases hb:Nat.ble nl d with
  | true=>
   rw[hb] at h'';have hle:=Nat.le_of_ble_eq_true hb
   refine⟨_,h'',rfl,rfl,rfl,fun d' v' hv'=>?_⟩;rw[zlg] at hv';show _∧∃ sv',lk ((d,sv)::t.fr) d'=some sv'∧_
   rw[zq8];by_cases hdd:d=d'
   ·subst hdd;rw[if_pos hle,znf,if_pos rfl] at hv';cases hv';exact⟨hd,sv,by rw[if_pos rfl],hv⟩
   ·rw[if_neg hdd];refine hf d' v' ?_;rw[zlg];by_cases hle':nl≤d'
    ·rw[if_pos hle',znf,if_neg hdd] at hv';rw[if_pos hle'];exact hv'
    ·rw[if_neg hle'] at hv' ⊢; exact hv'
  | false=>
   rw[hb] at h'';obtain⟨h1,h2⟩:=zNm h'';have hle:¬nl≤d:=fun h=>by rw[Nat.ble_eq_true_of_le h] at hb;cases hb
   refine⟨_,h2,rfl,rfl,rfl,fun d' v' hv'=>?_⟩;rw[zlg] at hv';show _∧∃ sv',lk ((d,sv)::t.fr) d'=some sv'∧_
   rw[zq8];by_cases hdd:d=d'
   ·subst hdd;rw[if_neg hle,List.getElem?_set_self h1] at hv';cases hv';exact⟨hd,sv,by rw[if_pos rfl],hv⟩
   ·rw[if_neg hdd];refine hf d' v' ?_;rw[zlg];by_cases hle':nl≤d'
    ·rw[if_pos hle'] at hv' ⊢; exact hv'
    ·rw[if_neg hle',List.getElem?_set_ne hdd] at hv';rw[if_neg hle'];exact hv'
theorem SR.put_s {d:Option Nat} {v:V} {sv:SV} {K:S→R} (h:s.put d v K=some y) (hr:SR σ s t) (hv:VR σ t.bx.length v sv):∃ s',K s'=some y∧SR σ s' (t.put d sv):=by
 obtain⟨s',h1,h2,h3,h4,h5⟩:=Rn.put_s (t:=t) h hr.fr hv;have hb:(t.put d sv).bx=t.bx:=by cases d<;>rfl
 have hM:(t.put d sv).M=t.M:=by cases d<;>rfl
 exact⟨s',h1,⟨by rw[h3];exact hr.n,by rw[hb];exact h5,by rw[hb,h2];exact hr.bx,by rw[hM,h4];exact hr.h⟩⟩
theorem zS9 {b:Bool} {v:V} {sv:SV} {K:V→R} (h:sp b v K=some y) (hv:VR σ nb v sv) {k:SV→Prop} (hk:∀ v sv,VR σ nb v sv→K v=some y→k sv):ziG b sv k:=by
 cases b with
 | false=>exact hk v sv hv h
 | true=>
  have h':(asB v fun t=>kB t K)=some y:=h;exact zKK h' hv (fun h1=>by rw[zs2] at h1;exact hk (.c (.t true)) (.bool true) (zbu rfl) h1) (fun h1=>by rw[zs2] at h1;exact hk (.c (.t false)) (.bool false) (zbu rfl) h1)
theorem zKO (hF:FOk P F) {o:z7} {K:S→R} (h:op F o s K=some y) (hr:SR σ s t) {k:St→Prop} (hk:∀ σ' s' t',Ext σ t σ' t'→SR σ' s' t'→K s'=some y→k t'):vop P o t k:=by
 have fin:∀ {σ':List E} {v:V} {sv:SV} {s':S} {t':St},Ext σ t σ' t'→SR σ' s' t'→VR σ' t'.bx.length v sv→(sp o.sp v fun v'=>s'.put o.dst v' K)=some y→ziG o.sp sv fun sv'=>t'.putK o.dst sv' k:=fun hx hr' hv h1=>
  zS9 h1 hv fun v' sv' hv' h2=>by
   obtain⟨s'',h3,h4⟩:=hr'.put_s h2 hv';rw[ziZ];refine hk _ s'' _ (hx.trans ⟨⟨[],by simp⟩,?_⟩) h4 h3;cases o.dst<;>exact Nat.le_refl _
 unfold vop;cases hq:zE o.op with
 | true=>exact zUK o.op hq h hr fun v sv hv h1=>fin Ext.rfl' hr hv h1
 | false=>exact zUJ hF o.op hq hr h fun σ' v sv s' t' hx hr' hv h1=>fin hx hr' hv h1
theorem zKP {b:Bool} {v:V} {sv:SV} {run skip:R} (h:gd b v run skip=some y) (hv:VR σ nb v sv) {A B:Prop} (ha:run=some y→A) (hb:skip=some y→B):brG b sv A B:=by
 unfold gd at h;split at h
 ·rename_i x;rcases hv with ⟨sc,h1,rfl⟩|⟨x',h1,rfl⟩
  ·obtain⟨w,h2,rfl⟩:=h1;cases h2;cases b<;>cases x
   ·exact ha h
   ·exact hb h
   ·exact hb h
   ·exact ha h
  ·cases h1;cases b<;>cases x
   ·exact⟨fun h'=>(by cases h'),fun _=>ha h⟩
   ·exact⟨fun _=>hb h,fun h'=>(by cases h')⟩
   ·exact⟨fun h'=>(by cases h'),fun _=>hb h⟩
   ·exact⟨fun _=>ha h,fun h'=>(by cases h')⟩
 ·obtain⟨vs, -, rfl⟩:=hv;exact hb h
 ·cases h
theorem zD7:VR σ nb zuJ SV.skip:=⟨[],trivial,rfl⟩
theorem zUa (hF:FOk P F) {o:z7} {K:S→R} (h:opG F o s K=some y) (hr:SR σ s t) {k:St→Prop} (hk:∀ σ' s' t',Ext σ t σ' t'→SR σ' s' t'→K s'=some y→k t') :
  match o.guard with
  | none=>vop P o t k
  | some (g,b)=>Vm.ev t (.tmp g) fun sv=>brG b sv (vop P o t k) (t.putK o.dst SV.skip k):=by
 have h':(match o.guard with|none=>op F o s K|some g=>ev s (.tmp g.1) fun v=>gd g.2 v (op F o s K) (s.put o.dst zuJ K))=some y:=by
  unfold opG at h;cases hg:o.guard with
  | none=>rw[hg] at h;exact h
  | some g=>rw[hg] at h;exact h
 cases hg:o.guard with
 | none=>rw[hg] at h';exact zKO hF h' hr hk
 | some g=>
  rw[hg] at h';obtain⟨g,b⟩:=g;refine zZ h' hr.fr fun v sv _ hv h1=>zKP h1 hv (fun h2=>zKO hF h2 hr hk) (fun h2=>?_)
  obtain⟨s'',h3,h4⟩:=hr.put_s h2 zD7;rw[ziZ];refine hk _ s'' _ ⟨⟨[],by simp⟩,?_⟩ h4 h3;cases o.dst<;>exact Nat.le_refl _
theorem zQB (hF:FOk P F):∀ {l:List z7} {σ:List E} {s:S} {t:St} {K:S→R},ops F l s K=some y→SR σ s t→∀ {k:St→Prop},(∀ σ' s' t',Ext σ t σ' t'→SR σ' s' t'→K s'=some y→k t')→ztU P l t k
 | [],σ,s,t,K,h,hr,k,hk=>hk σ s t Ext.rfl' hr h
 | o::l,σ,s,t,K,h,hr,k,hk=>by
  have:=zUa hF (o:=o) (K:=fun s'=>ops F l s' K) h hr (k:=fun t'=>ztU P l t' k) fun σ' s' t' hx hr' h1=>zQB hF h1 hr' fun σ'' s'' t'' hx' hr'' h2=>hk σ'' s'' t'' (hx.trans hx') hr'' h2
  unfold ztU;exact this
theorem zKQ {K:S→R} (h:s.cut K=some y) (hr:SR σ s t):∃ s',K s'=some y∧SR σ s' t:=by
 obtain⟨nl,tl,L,bx,n,H,g⟩:=s;cases tl with
 | nil=>exact⟨_,h,hr⟩
 | cons p tl=>
  refine⟨⟨nl,[p],L,bx,n,H,g⟩,h,hr.n,fun d v hd=>?_,hr.bx,hr.h⟩;refine hr.fr d v ?_;rw[zlg] at hd ⊢;split at hd
  ·rename_i hle;rw[if_pos hle];obtain⟨k,u⟩:=p;rw[znf] at hd ⊢;split at hd
   ·rename_i hk;rw[if_pos hk];exact hd
   ·cases hd
  ·rename_i hle;rw[if_neg hle];exact hd
end
end
section
theorem zG {a b:Bool} (h:zW a b=true):a=true∧b=true:=by cases a<;>cases b<;>first|exact⟨rfl,rfl⟩|cases h
theorem zM {a b:Nat} (h:Nat.beq a b=true):a=b:=Nat.eq_of_beq_eq_true h
theorem zpE {α:Type} {f:α→α→Bool} (hf:∀ a b,f a b=true→a=b):∀ {a b:List α},zs1 f a b=true→a=b
 | [],[],_=>rfl
 | [],_::_,h=>by cases h
 | _::_,[],h=>by cases h
 | x::a,y::b,h=>by
  obtain⟨h1,h2⟩:=zG (a:=f x y) (b:=zs1 f a b) h;rw[hf _ _ h1,zpE hf h2]
theorem zHN {a b:List Nat} (h:zuI a b=true):a=b:=by rw[ztF] at h;exact Zd0 h
theorem C.eqb_s {a b:C} (h:a.eqb b=true):a=b:=by
 unfold C.eqb at h;split at h
 ·obtain⟨h1,h2⟩:=zG h;have:=ztE (a:=_) (b:=_)▸(show zrA _ _=true from h1)
  have h3:=Zd0 this;have h4:=Zd0 (show decide _=true from h2)
  rw[h3,h4]
 ·rw[eq_of_beq h]
 ·rw[zHN h]
 ·obtain⟨h1,h2⟩:=zG h;rw[zM h1,zM h2]
 ·rfl
 ·obtain⟨h1,h2⟩:=zG h;obtain⟨h3,h4⟩:=zG h2;obtain⟨h5,h6⟩:=zG h4;rw[zM h1,zM h3,zM h5,zM h6]
 ·obtain⟨h1,h2⟩:=zG h;obtain⟨h3,h4⟩:=zG h2;obtain⟨h5,h6⟩:=zG h4;rw[zM h1,zM h3,zM h5,zM h6]
 ·rfl
 ·rw[zM h]
 ·rfl
 ·obtain⟨h1,h2⟩:=zG h;rw[zM h1,zM h2]
 ·rw[zM h]
 ·obtain⟨h1,h2⟩:=zG h;obtain⟨h3,h4⟩:=zG h2;rw[zM h1,zM h3,zM h4]
 ·obtain⟨h1,h2⟩:=zG h;obtain⟨h3,h4⟩:=zG h2;obtain⟨h5,h6⟩:=zG h4;obtain⟨h7,h8⟩:=zG h6;obtain⟨h9,h10⟩:=zG h8;rw[zM h1,zM h3,zM h5,zM h7,zM h9,eq_of_beq h10]
 ·rfl
 ·rfl
 ·cases h
theorem zlh {a b:List C} (h:zoe a b=true):a=b:=zpE (fun _ _=>C.eqb_s) h
theorem W.eqb_s {a b:W} (h:a.eqb b=true):a=b:=by
 unfold W.eqb at h;split at h
 ·rw[C.eqb_s h]
 ·rw[zlh h]
 ·obtain⟨h1,h2⟩:=zG h;rw[zM h1,zlh h2]
 ·cases h
theorem V.eqb_s {a b:V} (h:a.eqb b=true):a=b:=by
 unfold V.eqb at h;split at h
 ·rw[C.eqb_s h]
 ·rw[zlh h]
 ·obtain⟨h1,h2⟩:=zG h;rw[zM h1,zlh h2]
 ·rw[zpE (fun _ _=>W.eqb_s) h]
 ·obtain⟨h1,h2⟩:=zG h;rw[zM h1,zM h2]
 ·rfl
 ·cases h
theorem En.eqb_s {a b:En} (h:a.eqb b=true):a=b:=by
 obtain⟨k,v,n⟩:=a;obtain⟨k',v',n'⟩:=b;obtain⟨h1,h2⟩:=zG (a:=k.eqb k') h;obtain⟨h3,h4⟩:=zG h2;rw[W.eqb_s h1,W.eqb_s h3,zM h4]
theorem zUL {a b:Option Nat} (h:oN a b=true):a=b:=by
 unfold oN at h;split at h
 ·rw[zM h]
 ·rfl
 ·cases h
theorem O.eqb_s {a b:O} (h:a.eqb b=true):a=b:=by
 unfold O.eqb at h;split at h
 ·obtain⟨h1,h2⟩:=zG h;rw[zM h1,zlh h2]
 ·obtain⟨h1,h2⟩:=zG h;rw[zM h1,zlh h2]
 ·obtain⟨h1,h2⟩:=zG h;obtain⟨h3,h4⟩:=zG h2;rw[zM h1,zM h3,zlh h4]
 ·obtain⟨h1,h2⟩:=zG h;rw[zpE (fun _ _=>En.eqb_s) h1,zM h2]
 ·obtain⟨h1,h2⟩:=zG h;rw[zHN h1,zM h2]
 ·obtain⟨h1,h2⟩:=zG h;obtain⟨h3,h4⟩:=zG h2;obtain⟨h5,h6⟩:=zG h4;rw[zUL h1,zM h3,zHN h5,zM h6]
 ·cases h
theorem zRH {a b:Option O} (h:zF7 a b=true):a=b:=by
 unfold zF7 at h;split at h
 ·rw[O.eqb_s h]
 ·rfl
 ·cases h
theorem zCt:∀ {a b:T O},zHx a b=true→a=b
 | .e,.e,_=>rfl
 | .e,.n _ _ _,h=>by cases h
 | .n _ _ _,.e,h=>by cases h
 | .n l v r,.n l' v' r',h=>by
  obtain⟨h1,h2⟩:=zG (a:=zHx l l') (b:=zW (zF7 v v') (zHx r r')) h;obtain⟨h3,h4⟩:=zG h2;rw[zCt h1,zRH h3,zCt h4]
theorem B.eqb_s {a b:B} (h:a.eqb b=true):a=b:=by
 unfold B.eqb at h;split at h
 ·obtain⟨h1,h2⟩:=zG h;rw[zM h1,zlh h2]
 ·rw[zM h]
 ·cases h
theorem zTa {a b:Nat×V} (h:zSY a b=true):a=b:=by
 obtain⟨d,v⟩:=a;obtain⟨d',v'⟩:=b;obtain⟨h1,h2⟩:=zG (a:=Nat.beq d d') h;rw[zM h1,V.eqb_s h2]
theorem zRI {a b:Option V} (h:zKG a b=true):a=b:=by
 unfold zKG at h;split at h
 ·rw[V.eqb_s h]
 ·rfl
 ·cases h
theorem S.eqb_s {a b:S} (h:a.eqb b=true):a=b:=by
 unfold S.eqb at h;split at h
 ·obtain⟨h1,h2⟩:=zG h;obtain⟨h3,h4⟩:=zG h2;obtain⟨h5,h6⟩:=zG h4;obtain⟨h7,h8⟩:=zG h6;obtain⟨h9,h10⟩:=zG h8;rw[zM h1,zM h3,zpE (fun _ _=>zTa) h5,zpE (fun _ _=>zRI) h7,zpE (fun _ _=>B.eqb_s) h9,zCt h10]
 ·cases h
theorem zNn {x z:R} {y:Out} (h:zOj x z=some y):x=some y∧z=some y:=by
 unfold zOj at h;obtain⟨a,h1,h2⟩:=zjg h;obtain⟨b,h3,h4⟩:=zjg h2;split at h4
 ·obtain⟨h5,h6⟩:=zA h4;obtain⟨h7,h8⟩:=zG h5;obtain⟨h9,h10⟩:=zG h8;have e1:=V.eqb_s h7
  have e2:=zM h9;have e3:=zCt h10
  subst e1 e2 e3;rw[h1,h3];exact⟨h6,h6⟩
 ·obtain⟨h5,h6⟩:=zA h4;have e1:=S.eqb_s h5
  subst e1;rw[h1,h3];exact⟨h6,h6⟩
 ·cases h4
section
variable {P:Program} {F:Cal} {σ:List E} {s:S} {t:St} {y:Out} {nb:Nat}
theorem mem_s {a:Nat}:∀ {l:List Nat},mem a l=true↔a∈l
 | []=>by constructor<;>intro h<;>cases h
 | x::l=>by
  show (Bool.rec (mem a l) true (Nat.beq x a):Bool)=true↔_;rw[zwS];by_cases h:x=a
  ·subst h;simp
  ·have:¬a=x:=fun e=>h e.symm
   simp[h,this,mem_s (a:=a) (l:=l)]
noncomputable def part (σ:List E) (H:T O) (M:Mem) (kp:List Nat):Mem:=fun b=>by
 classical exact if ∃ a∈kp,∃ o e,H.get a=some o∧σ[a]? = some e∧e.nil=false∧e.addr=b then M b else none
theorem part_le {σ:List E} {H:T O} {M:Mem} {kp:List Nat}:(part σ H M kp).le M:=fun b o h=>by
 unfold part at h;split at h
 ·exact h
 ·cases h
theorem zwT {σ:List E} {H:T O} {M:Mem} {kp:List Nat} {b:Nat} {x:Obj} (h:part σ H M kp b=some x):∃ a∈kp,∃ o e,H.get a=some o∧σ[a]? = some e∧e.nil=false∧e.addr=b∧M b=some x:=by
 unfold part at h;split at h
 ·rename_i hc;obtain⟨a,h1,o,e,h2,h3,h4,h5⟩:=hc;exact⟨a,h1,o,e,h2,h3,h4,h5,h⟩
 ·cases h
theorem zAv (h:HR σ s.H t.M) {kp:List Nat} {a:Nat} {o:O} (ha:a∈kp) (hg:s.H.get a=some o):∃ e,σ[a]? = some e∧OR σ e o (part σ s.H t.M kp):=by
 obtain⟨e,h1,h2⟩:=h.has a o hg;refine⟨e,h1,h2.frame fun hn=>?_⟩;unfold part;rw[if_pos ⟨a,ha,o,e,hg,h1,hn,rfl⟩]
theorem CRs.fn {l:List C} {vs vs':List Value} (h:All2 (CR σ) l vs) (h':All2 (CR σ) l vs'):vs=vs':=All2.fn (Q:=CR σ) (fun _ _ _ h h'=>CR.fn h h') h h'
theorem WR.fn {w:W} {v v':Value} (h:WR σ w v) (h':WR σ w v'):v=v':=by
 cases w with
 | c x=>exact CR.fn h h'
 | ag l=>obtain⟨vs,h1,rfl⟩:=h;obtain⟨vs',h2,rfl⟩:=h';rw[CRs.fn h1 h2]
 | fn g l=>obtain⟨vs,h1,rfl⟩:=h;obtain⟨vs',h2,rfl⟩:=h';rw[CRs.fn h1 h2]
theorem EnR.fn {e:En} {m m':MapEntry} (h:EnR σ e m) (h':EnR σ e m'):m=m':=by
 obtain⟨k,v,n⟩:=m;obtain⟨k',v',n'⟩:=m';obtain⟨h1,h2,h3⟩:=h;obtain⟨h4,h5,h6⟩:=h';have e1:k=k':=WR.fn h1 h4
 have e2:v=v':=WR.fn h2 h5;have e3:n=n':=h3.trans h6.symm
 rw[e1,e2,e3]
theorem OR.fn {e:E} {o:O} {M M':Mem} (h:OR σ e o M) (h':OR σ e o M') (hn:e.nil=false):M e.addr=M' e.addr:=by
 cases o with
 | row T l=>obtain⟨-, vs,h1,h2⟩:=h;obtain⟨-, vs',h3,h4⟩:=h';rw[h2,h4,CRs.fn h1 h3]
 | ro T l=>obtain⟨-, vs,h1,h2⟩:=h;obtain⟨-, vs',h3,h4⟩:=h';rw[h2,h4,CRs.fn h1 h3]
 | gr T z l=>
  obtain⟨vs,h1,h2⟩:=h;obtain⟨vs',h3,h4⟩:=h';rcases h2 with ⟨h2, -⟩|⟨-, h2, -⟩
  ·rw[hn] at h2;cases h2
  ·rcases h4 with ⟨h4, -⟩|⟨-, h4, -⟩
   ·rw[hn] at h4;cases h4
   ·rw[h2,h4,CRs.fn h1 h3]
 | mp es c=>obtain⟨-, vs,h1,h2⟩:=h;obtain⟨-, vs',h3,h4⟩:=h';rw[h2,h4,All2.fn (Q:=EnR σ) (fun _ _ _ h h'=>EnR.fn h h') h1 h3]
 | it m a s t=>
  obtain⟨-, x,h1,h2⟩:=h;obtain⟨-, x',h3,h4⟩:=h';rw[h2,h4];cases m with
  | none=>rw[show x=none from h1,show x'=none from h3]
  | some a=>
   obtain⟨e1,h5,rfl⟩:=h1;obtain⟨e2,h6,rfl⟩:=h3;rw[h5] at h6;cases h6;rfl
 | si l p=>rw[h.2,h'.2]
theorem zHO {H H':T O}:∀ {kp:List Nat},kept kp H H'=true→∀ a∈kp,∀ o,H.get a=some o→H'.get a=some o
 | [],_,a,ha,_,_=>by cases ha
 | x::kp,h,a,ha,o,ho=>by
  have h':(match H.get x with|none=>kept kp H H'|some o=>(match H'.get x with|some o'=>zW (o.eqb o') (kept kp H H')|none=>false))=true:=h;cases hx:H.get x with
  | none=>
   rw[hx] at h';rcases List.mem_cons.1 ha with rfl|ha
   ·rw[hx] at ho;cases ho
   ·exact zHO h' a ha o ho
  | some ox=>
   rw[hx] at h';simp only at h';cases hx':H'.get x with
   | none=>rw[hx'] at h';cases h'
   | some ox'=>
    rw[hx'] at h';obtain⟨h1,h2⟩:=zG h';rcases List.mem_cons.1 ha with rfl|ha
    ·rw[hx] at ho;cases ho;rw[hx',O.eqb_s h1]
    ·exact zHO h2 a ha o ho
theorem SCR.fn {c:C} {x x':SC} (h:SCR σ nb c x) (h':SCR σ nb c x'):x=x':=by
 cases c with
 | b j o=>rw[h.2,h'.2]
 | _=>obtain⟨v,h1,rfl⟩:=h;obtain⟨v',h2,rfl⟩:=h';rw[h1] at h2;cases h2;rfl
theorem SCRs.fn {l:List C} {vs vs':List SC} (h:All2 (SCR σ nb) l vs) (h':All2 (SCR σ nb) l vs'):vs=vs':=All2.fn (Q:=SCR σ nb) (fun _ _ _ h h'=>SCR.fn h h') h h'
theorem BR.fn {b:B} {x x':BE} (hd:b ≠ .dark) (h:BR σ nb b x) (h':BR σ nb b x'):x=x':=by
 cases b with
 | dark=>exact absurd rfl hd
 | live T l=>obtain⟨cs,h1,rfl⟩:=h;obtain⟨cs',h2,rfl⟩:=h';rw[SCRs.fn h1 h2]
 | gone a=>obtain⟨e,h1,rfl⟩:=h;obtain⟨e',h2,rfl⟩:=h';rw[h1] at h2;cases h2;rfl
theorem zRJ {l:List C} {vs:List Value} {xs:List SC} (h:All2 (CR σ) l vs) (h':All2 (SCR σ nb) l xs):zfg xs=some vs:=by
 have:xs=vs.map SC.v:=SCRs.fn h' (h.sc nb);subst this;clear h h'
 induction vs with
 | nil=>rfl
 | cons v vs ih=>show (zfg (vs.map SC.v)).map (v :: ·)=_;rw[ih];rfl
theorem zQC {H:T O} {M:Mem} (hH:HR σ H M) {A:Prop} (hA:A):∀ {f:List B} {e:List B} {fx ex:List BE},bxs H f e=true→All2 (BR σ nb) f fx→All2 (BR σ nb) e ex→zta M ex fx A
 | [],_,[],ex,_,_,_=>by cases ex<;>exact hA
 | f::fs,[],_,_,h,_,_=>by cases h
 | f::fs,e::es,fx::fxs,ex::exs,h,hf,he=>by
  have h':zW (zKH H e f) (bxs H fs es)=true:=h;obtain⟨h1,h2⟩:=zG h';have h3:=zQC hH hA h2 hf.2 he.2
  show bx1 M ex fx (zta M exs fxs A)
  have same:e ≠ .dark→e=f→bx1 M ex fx (zta M exs fxs A):=fun hd hef=>by
   subst hef;have:=BR.fn hd hf.1 he.1
   subst this;cases fx<;>exact⟨rfl,h3⟩
  cases e with
  | dark=>cases f<;>cases h1
  | live T l=>
   cases f with
   | dark=>
    obtain⟨cs, -, h9⟩:=he.1;obtain⟨b,h10⟩:=hf.1;subst h9 h10;exact h3
   | live T' l'=>exact same (by simp) (B.eqb_s h1)
   | gone b=>cases h1
  | gone a=>
   cases f with
   | dark=>cases h1
   | gone b=>exact same (by simp) (B.eqb_s h1)
   | live T cs=>
    cases hg:H.get a with
    | none=>simp only[zKH,hg] at h1;cases h1
    | some ob=>
     simp only[zKH,hg] at h1;cases ob with
     | row T' cs'=>
      obtain⟨h4,h5⟩:=zG h1;have e1:=zM h4
      have e2:=zlh h5;subst e1 e2;obtain⟨en,h6,h7⟩:=he.1;subst h7;obtain⟨xs,h8,h9⟩:=hf.1;subst h9;obtain⟨en',h10,h11⟩:=hH.has a _ hg;rw[h6] at h10;cases h10;obtain⟨-, vs,h12,h13⟩:=h11;show onO (zfg xs) _
      rw[zRJ h12 h8];exact⟨h13,h3⟩
     | _=>cases h1
 | [],_,_::_,_,_,h,_=>h.elim
 | _::_,_,[],_,_,h,_=>h.elim
 | _::_,_::_,_::_,[],_,_,h=>h.elim
end
end
end Go.Vm.Rn
