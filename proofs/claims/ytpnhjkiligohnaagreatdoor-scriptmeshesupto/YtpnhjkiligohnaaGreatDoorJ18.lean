/- Part of this proof;laid by program. -/
import Derived.Test.YtpnhjkiligohnaaGreatDoorJ17
import Derived.Test.YtpnhjkiligohnaaGreatDoorJ7
set_option linter.unusedVariables false
set_option linter.unusedSimpArgs false
namespace Go.Vm.Rn
open Go.Vm
set_option linter.unusedVariables false
section
section
variable {P:Program} {σ:List E} {s:S} {t:St} {y:Out} {nb:Nat}
theorem All2.eraseIdx {α β:Type} {Q:α→β→Prop}:∀ {l:List α} {r:List β},All2 Q l r→∀ k,All2 Q (l.eraseIdx k) (r.eraseIdx k)
 | [],[],_,_=>trivial
 | _::_,_::_,h,0=>h.2
 | _::_,_::_,h,k+1=>⟨h.1,eraseIdx h.2 k⟩
 | [],_::_,h,_=>h.elim
 | _::_,[],h,_=>h.elim
theorem All2.modify {α β:Type} {Q:α→β→Prop} {f:β→β}:∀ {l:List α} {r:List β},All2 Q l r→∀ {k:Nat} {a a':α},l[k]? = some a→(∀ b,Q a b→Q a' (f b))→All2 Q (l.set k a') (r.modify k f)
 | _::_,_::_,h,0,a,a',ha,hf=>⟨by simp at ha;subst ha;exact hf _ h.1,h.2⟩
 | _::_,_::_,h,k+1,a,a',ha,hf=>⟨h.1,modify h.2 (by simpa using ha) hf⟩
 | [],[],_,_,_,_,ha,_=>by simp at ha
 | [],_::_,h,_,_,_,_,_=>h.elim
 | _::_,[],h,_,_,_,_,_=>h.elim
theorem zAg (ms:List MapEntry) (i:Nat) (f:MapEntry→MapEntry):ms.toArray.modify i f=(ms.modify i f).toArray:=by
 apply Array.ext';simp
theorem zBB (ms:List MapEntry) (i:Nat):ms.toArray.eraseIdxIfInBounds i=(ms.eraseIdx i).toArray:=by
 apply Array.ext';unfold Array.eraseIdxIfInBounds;split
 ·simp
 ·rename_i h;simp at h;rw[List.eraseIdx_of_length_le h]
theorem zMV {es:List En} {ms:List MapEntry} {c:Nat} {f:Option (Nat×W)} {f':Option (Nat×Value)} (hf:fR σ f f') {w wk:W} {v key:Value} (hk:WR σ wk key) (hw:WR σ w v) (hl:All2 (EnR σ) es ms) {K:O→R} (h:mput es c f wk w K=some y) :
  ∃ es' c' ms',All2 (EnR σ) es' ms'∧Vm.mput (ms.toArray,c) f' key v = .map ms'.toArray c'∧K (.mp es' c')=some y:=by
 match f,f',hf with
 | some (i,_),some (j,_),hf=>
  obtain⟨rfl, -⟩:=hf;obtain⟨e,h1,h2⟩:=zpD (l:=es) (k:=i) (K:=fun (e:En)=>setK es i (En.mk wk w e.born) fun es'=>K (.mp es' c)) h;obtain⟨h3,h4⟩:=zBs h2;refine⟨_,c,ms.modify i fun e=>{ e with key:=key,val:=v },hl.modify (a':=En.mk wk w e.born) h1 (fun b hb=>⟨hk,hw,hb.2.2⟩),?_,h4⟩;show Obj.map (ms.toArray.modify i _) c=_
  rw[zAg]
 | none,none,_=>
  have h':fN (fun c'=>appK es [⟨wk,w,c⟩] fun es'=>K (.mp es' c')) (c+1)=some y:=h;rw[fN_eq,zj5] at h';have h1:All2 (EnR σ) [(⟨wk,w,c⟩:En)] [(⟨key,v,c⟩:MapEntry)]:=⟨⟨hk,hw,rfl⟩,trivial⟩
  refine⟨_,c+1,ms++[⟨key,v,c⟩],hl.append h1,?_,h'⟩;show Obj.map (ms.toArray.push _) (c+1)=_
  simp
theorem zMW (kk:KK) (x key w:Operand):LS P (.mset kk x key w) (zKb kk x key w):=fun {σ s t y K k} hr h hk=>by
 refine zW h hr.fr fun u su _ hu h1=>?_
 rcases zlQ h1 hu with ⟨-, h6⟩|⟨a,e,rfl,he,h2⟩
 ·cases h6
 show Vm.ev t key _;refine zW h2 hr.fr fun kv skv _ hkv h3=>zBA h3 hkv fun wk key' hwk h4=>?_
 refine zW h4 hr.fr fun v sv _ hv h5=>zmf h5 hr hv fun σ1 uw u1 s1 t1 hx hr1 huw h6=>?_
 obtain⟨ob, -, h7,h8⟩:=zcl h6;obtain⟨e',he',ho⟩:=hr1.h.has a ob h7;rw[zmd hx he] at he';cases he';obtain⟨es,c,ms,rfl,h0,h10,h11,h12,h13⟩:=zrf h8 ho;obtain⟨f,h14,h15⟩:=zgh h13;obtain⟨f',h16,h17⟩:=ztT (WR.ext hx hwk) h14 h10;obtain⟨es',c',ms',h18,h19,h20⟩:=zMV h17 (WR.ext hx hwk) huw h10 h15;rw[zfv] at h20;obtain⟨fr,bx,M⟩:=t1;show onO (M.mapAt e.addr) _
 replace h12:M.mapAt e.addr=some (ms.toArray,c):=h12;rw[h12];show onO (Vm.kfind key' ms 0) _
 rw[h16];show k .dead ⟨fr,bx,M.upd e.addr (Vm.mput (ms.toArray,c) f' key' u1)⟩
 rw[h19];exact hk σ1 .dead .dead _ _ (hx.trans ⟨⟨[],by simp⟩,Nat.le_refl _⟩) (hr1.heap (hr1.h.upd (o := .mp es' c') h7 (zmd hx he) (fun x hx=>by simp[Mem.upd,hx]) h0 ⟨h0,ms',h18,by simp[Mem.upd]⟩)) rfl h20
theorem zMX (kk:KK) (x key:Operand):LS P (.mdel kk x key) (zKc kk x key):=fun {σ s t y K k} hr h hk=>by
 refine zW h hr.fr fun u su _ hu h1=>?_
 have h2:∃ r,su = .c (.v (.map r)):=by
  obtain⟨kv,hk1⟩:∃ kv,(zlL kk kv fun key=>asMap u (K (.tp []) s) fun b=>s.hget b fun ob=>ob.mpK fun es c=>oV (kfind key es 0) fun f=>match f with
    | some (i,_)=>zHY es i fun es'=>s.hset b (some (.mp es' c)) fun s'=>K (.tp []) s'
    | none=>K (.tp []) s)=some y:=by
   cases key with
   | tmp d=>obtain⟨v, -, h2⟩:=zgh (K:=fun kv=>zlL kk kv _) h1;exact⟨v,h2⟩
   | const v=>obtain⟨x, -, -, h2⟩:=ofV_s (σ:=σ) (nb:=0) (K:=fun kv=>zlL kk kv _) h1;exact⟨x,h2⟩
   | func f=>exact⟨_,h1⟩
   | global g=>cases h1
  have key:∀ {A:R} {B:Nat→R},asMap u A B=some y→∃ r,su = .c (.v (.map r)):=fun hw=>by
   rcases zlQ hw hu with ⟨rfl, -⟩|⟨a,e,rfl, -, -⟩
   ·exact⟨_,rfl⟩
   ·exact⟨_,rfl⟩
  unfold zlL at hk1;split at hk1
  ·exact key hk1
  ·exact key (zr hk1).2
  ·rw[zbA] at hk1;exact key (zr (zr hk1).2).2
  ·cases hk1
 obtain⟨r,rfl⟩:=h2;show Vm.ev t key _
 refine zW h1 hr.fr fun kv skv _ hkv h3=>zBA h3 hkv fun wk u' hwk h4=>?_
 rcases zlQ h4 hu with ⟨h5,h6⟩|⟨a,e,h5,he,h6⟩
 ·cases h5;exact hk σ (.tp []) _ s t Ext.rfl' hr ⟨[],trivial,rfl⟩ h6
 ·cases h5;obtain⟨ob, -, h7,h8⟩:=zcl h6;obtain⟨e',he',ho⟩:=hr.h.has a ob h7;rw[he] at he';cases he';obtain⟨es,c,ms,rfl,h0,h10,h11,h12,h13⟩:=zrf h8 ho;obtain⟨f,h14,h15⟩:=zgh h13;obtain⟨f',h16,h17⟩:=ztT hwk h14 h10;obtain⟨fr,bx,M⟩:=t;replace h12:M.mapAt e.addr=some (ms.toArray,c):=h12;replace h11:M e.addr=some (.map ms.toArray c):=h11;show onO (M.mapAt e.addr) _
  rw[h12];show onO (Vm.kfind u' ms 0) _
  rw[h16]
  match f,f',h17 with
  | some (i,_),some (j,_),h17=>
   obtain⟨rfl, -⟩:=h17;obtain⟨h18,h19⟩:=zGG h15;rw[zfv] at h19;show k _ ⟨fr,bx,M.upd e.addr (.map (ms.toArray.eraseIdxIfInBounds i) c)⟩
   rw[zBB];exact hk σ (.tp []) _ _ _ ⟨⟨[],by simp⟩,Nat.le_refl _⟩ (hr.heap (hr.h.upd (o := .mp (es.eraseIdx i) c) h7 he (fun x hx=>by simp[Mem.upd,hx]) h0 ⟨h0,_,h10.eraseIdx i,by simp[Mem.upd]⟩)) ⟨[],trivial,rfl⟩ h19
  | none,none,_=>
   have hM:M.upd e.addr (.map ms.toArray c)=M:=by
    funext x;simp only[Mem.upd];split
    ·rename_i hx;rw[hx,h11]
    ·rfl
   show k _ ⟨fr,bx,M.upd e.addr (.map ms.toArray c)⟩;rw[hM];exact hk σ (.tp []) _ s _ Ext.rfl' hr ⟨[],trivial,rfl⟩ h15
theorem zIa (x:Operand):LS P (.mrange x) (zCZ x):=fun {σ s t y K k} hr h hk=>by
 refine zW h hr.fr fun u su _ hu h1=>?_
 obtain⟨fr,bx,M⟩:=t;rcases zlQ h1 hu with ⟨rfl,h6⟩|⟨a,e,rfl,he,h6⟩
 ·rw[zme] at h6;intro b hb;exact hk _ (.c (.p s.n 0)) _ _ _ ⟨⟨_,rfl⟩,Nat.le_refl _⟩ (hr.newU hb (o := .it none 0 [] 0) fun M' hM=>⟨rfl,none,rfl,hM⟩) (zaS (by simp[C.val,zns hr.n])) h6
 ·obtain⟨ob, -, h7,h8⟩:=zcl h6;obtain⟨e',he',ho⟩:=hr.h.has a ob h7;rw[he] at he';cases he';obtain⟨es,c,ms,rfl,h0,h10,h11,h12,h13⟩:=zrf h8 ho;replace h12:M.mapAt e.addr=some (ms.toArray,c):=h12;show onO (M.mapAt e.addr) _
  rw[h12];rw[zme] at h13;intro b hb;exact hk _ (.c (.p s.n 0)) _ _ _ ⟨⟨_,rfl⟩,Nat.le_refl _⟩ (hr.newU hb (o := .it (some a) c [] c) fun M' hM=>⟨rfl,some e.addr,⟨e,zlN _ he,rfl⟩,hM⟩) (zaS (by simp[C.val,zns hr.n])) h13
theorem zwo {seen:List Nat}:∀ {es:List En} {ms:List MapEntry},All2 (EnR σ) es ms→All2 (EnR σ) (zxU seen es) (ms.filter fun m => !seen.contains m.born)
 | [],[],_=>trivial
 | e::es,m::ms,h=>by
  unfold zxU;rw[List.filter_cons,List.filter_cons,h.1.2.2];split
  ·exact⟨h.1,zwo h.2⟩
  ·exact zwo h.2
 | [],_::_,h=>h.elim
 | _::_,[],h=>h.elim
theorem zLw (x:Operand):LS P (.mnext x) (zGA x):=fun {σ s t y K k} hr h hk=>by
 refine ztO h hr.fr hr.bx (fun j o T l cs _ _ _ h1=>by cases h1) (fun a o e he h1=>?_);obtain⟨h2,h3⟩:=zr h1;refine zj6 (Nat.eq_of_beq_eq_true h2) ?_;obtain⟨ob, -, h5,h6⟩:=zcl h3;obtain⟨e',he',ho⟩:=hr.h.has a ob h5;rw[he] at he';cases he';obtain⟨fr,bx,M⟩:=t;cases ob with
 | it m since seen last=>
  obtain⟨h0,x',hx,hM⟩:=ho;replace hM:M e.addr=some (.mapIter x' since seen.toArray last):=hM;have hit:M.iterAt e.addr=some (x',since,seen.toArray,last):=by simp[Mem.iterAt,hM]
  show onO (M.iterAt e.addr) _;rw[hit];cases m with
  | none=>
   cases hx;exact hk σ (.tp [.c (.t false)]) _ s _ Ext.rfl' hr ⟨[.bool false],⟨rfl,trivial⟩,rfl⟩ h6
  | some m=>
   obtain⟨em,hem,rfl⟩:=hx
   replace h6:(s.hget m fun om=>om.mpK fun es clock=>cB (seen.isEmpty||es.isEmpty||es.any fun e=>Nat.blt e.born last) (match zxU seen es with
    | []=>K (.tp [.c (.t false)]) s
    | [e]=>cB (Nat.blt e.born since) (s.hset a (some (.it (some m) since (seen++[e.born]) clock)) fun s'=>K (.tp [.c (.t true),e.key,e.val]) s') fail
    | _=>fail) fail)=some y:=h6
   obtain⟨om, -, h8,h9⟩:=zcl h6;obtain⟨em',hem',hom⟩:=hr.h.has m om h8;rw[hem] at hem';cases hem';obtain⟨es,c,ms,rfl, -, h10,h11,h12,h13⟩:=zrf h9 hom;replace h12:M.mapAt em.addr=some (ms.toArray,c):=h12;show onO (M.mapAt em.addr) _
   rw[h12];obtain⟨h14,h15⟩:=zr h13;have hu:=zwo (seen:=seen) h10
   refine⟨?_,?_⟩
   ·simp only[Bool.or_eq_true] at h14;rcases h14 with (h14|h14)|h14
    ·left;simpa using h14
    ·right;left;have:es=[]:=by simpa using h14
     subst this;cases ms with
     | nil=>rfl
     | cons _ _=>exact h10.elim
    ·right;right;rw[List.any_eq_true] at h14;obtain⟨en,hen,hlt⟩:=h14;obtain⟨i,hi⟩:=List.getElem?_of_mem hen;obtain⟨me,hme,her⟩:=h10.at_ hi;refine⟨me,List.mem_of_getElem? hme,?_⟩;rw[her.2.2];simpa[Nat.blt_eq] using hlt
   ·split at h15
    ·rename_i hun
     have hf:(ms.filter fun m => !seen.contains m.born)=[]:=by
      rw[hun] at hu;cases hfe:(ms.filter fun m => !seen.contains m.born) with
      | nil=>rfl
      | cons _ _=>rw[hfe] at hu;exact hu.elim
     refine⟨fun _=>hk σ (.tp [.c (.t false)]) _ s _ Ext.rfl' hr ⟨[.bool false],⟨rfl,trivial⟩,rfl⟩ h15,fun me hme hns=>?_⟩;have:me∈ms.filter fun m => !seen.contains m.born:=List.mem_filter.2 ⟨hme,by simpa using hns⟩
     rw[hf] at this;cases this
    ·rename_i en hun;obtain⟨h16,h17⟩:=zr h15;rw[zfv] at h17;have hlt:en.born<since:=by simpa[Nat.blt_eq] using h16
     obtain⟨me,hfe,her⟩:∃ me,(ms.filter fun m => !seen.contains m.born)=[me]∧EnR σ en me:=by
      rw[hun] at hu
      have one:∀ fl:List MapEntry,All2 (EnR σ) [en] fl→∃ me,fl=[me]∧EnR σ en me:=fun fl h=>by
       match fl,h with
       | [me],h=>exact⟨me,rfl,h.1⟩
       | [],h=>exact h.elim
       | _::_::_,h=>exact h.2.elim
      exact one _ hu
     have hme:me∈ms.filter fun m => !seen.contains m.born:=by rw[hfe];simp
     obtain⟨hme1,hme2⟩:=List.mem_filter.1 hme;refine⟨fun hall=>?_,fun me' hme' hns=>?_⟩
     ·exfalso;rcases hall me (by simpa using hme1) with h|h
      ·have:seen.contains me.born=true:=by simpa using h
       rw[this] at hme2;cases hme2
      ·have h':since≤me.born:=h;rw[her.2.2] at h';omega
     ·have h18:me'∈ms.filter fun m => !seen.contains m.born:=List.mem_filter.2 ⟨by simpa using hme',by simpa using hns⟩
      rw[hfe] at h18;have:me'=me:=by simpa using h18
      subst this;have hpush:seen.toArray.push me'.born=(seen++[en.born]).toArray:=by rw[her.2.2];simp
      rw[hpush];exact hk σ (.tp [.c (.t true),en.key,en.val]) _ _ _ ⟨⟨[],by simp⟩,Nat.le_refl _⟩ (hr.heap (hr.h.upd (o := .it (some m) since (seen++[en.born]) c) h5 he (fun x hx=>by simp[Mem.upd,hx]) h0 ⟨h0,some em.addr,⟨em,hem,rfl⟩,by simp[Mem.upd]⟩)) ⟨[.bool true,me'.key,me'.val],⟨rfl,her.1,her.2.1,trivial⟩,rfl⟩ h17
    ·cases h15
 | _=>cases h6
theorem zIb (x:Operand):LS P (.srange x) (zC1 x):=fun {σ s t y K k} hr h hk=>by
 refine zW h hr.fr fun u su _ hu h1=>?_
 obtain⟨b,rfl,h2⟩:=znq h1 hu;obtain⟨-, h3⟩:=zr h2;rw[zme] at h3;obtain⟨fr,bx,M⟩:=t;intro a ha;exact hk _ (.c (.p s.n 0)) _ _ _ ⟨⟨_,rfl⟩,Nat.le_refl _⟩ (hr.newU ha (o := .si b 0) fun M' hM=>⟨rfl,hM⟩) (zaS (by simp[C.val,zns hr.n])) h3
theorem zLx (x:Operand):LS P (.snext x) (zGB x):=fun {σ s t y K k} hr h hk=>by
 refine ztO h hr.fr hr.bx (fun j o T l cs _ _ _ h1=>by cases h1) (fun a o e he h1=>?_);obtain⟨h2,h3⟩:=zr h1;refine zj6 (Nat.eq_of_beq_eq_true h2) ?_;obtain⟨ob, -, h5,h6⟩:=zcl h3;obtain⟨e',he',ho⟩:=hr.h.has a ob h5;rw[he] at he';cases he';obtain⟨fr,bx,M⟩:=t;cases ob with
 | si l p=>
  obtain⟨h0,hM⟩:=ho;replace hM:M e.addr=some (.stringIter (zab l) p):=hM;have hit:M.sitAt e.addr=some (zab l,p):=by simp[Mem.sitAt,hM]
  show onO (M.sitAt e.addr) _;rw[hit];replace h6:(zc5 l fun n=>Bool.rec (K (.tp [.c (.t false)]) s) (zs5 l p fun b=>cB (Nat.blt b 128) (fN (fun p'=>s.hset a (some (.si l p')) fun s'=>K (.tp [.c (.t true),.c (.n .i64 (.ofNat p)),.c (.n .i32 (.ofNat b))]) s') (p+1)) fail) (Nat.blt p n))=some y:=h6;rw[zbA] at h6;have hs:(zab l).size=l.length:=by simp[zab,ByteArray.size]
  cases hb:Nat.blt p l.length with
  | true=>
   rw[hb] at h6;have hp:p<l.length:=by simpa[Nat.blt_eq] using hb
   obtain⟨b,h7,h8⟩:=zpD (l:=l) (k:=p) h6;obtain⟨h9,h10⟩:=zr h8;rw[fN_eq,zfv] at h10;have hb8:b<128:=by simpa[Nat.blt_eq] using h9
   have hget:((zab l).get! p).toNat=b:=by
    have h11:=List.getElem?_eq_some_iff.1 h7
    have:(zab l).get! p=UInt8.ofNat b:=by
     show (l.map UInt8.ofNat).toArray[p]! = _;simp[hp,h11.2]
    rw[this];simp;omega
   refine⟨fun _=>⟨by show ((zab l).get! p).toNat<128;rw[hget];exact hb8,?_⟩,fun hn=>absurd (by show p<(zab l).size;rw[hs];exact hp) hn⟩;show k (.c (.v (.tuple #[.bool true,.int .i64 p,.int .i32 (((zab l).get! p).toNat:Nat)]))) ⟨fr,bx,M.upd e.addr (.stringIter (zab l) (p+1))⟩
   rw[hget];exact hk σ (.tp [.c (.t true),.c (.n .i64 (.ofNat p)),.c (.n .i32 (.ofNat b))]) _ _ _ ⟨⟨[],by simp⟩,Nat.le_refl _⟩ (hr.heap (hr.h.upd (o := .si l (p+1)) h5 he (fun x hx=>by simp[Mem.upd,hx]) h0 ⟨h0,by simp[Mem.upd]⟩)) ⟨[.bool true,.int .i64 p,.int .i32 b],⟨rfl,rfl,rfl,trivial⟩,rfl⟩ h10
  | false=>
   rw[hb] at h6;have hp:¬p<l.length:=fun h=>by rw[show Nat.blt p l.length=true by simpa[Nat.blt_eq] using h] at hb;cases hb
   refine⟨fun hlt=>absurd (by have:p<(zab l).size:=hlt;rw[hs] at this;exact this) hp,fun _=>?_⟩;exact hk σ (.tp [.c (.t false)]) _ s _ Ext.rfl' hr ⟨[.bool false],⟨rfl,trivial⟩,rfl⟩ h6
 | _=>cases h6
theorem ztU {F:Cal} (hF:FOk P F) {g:Nat} {ws:List W} {vs:List Value} {K:V→S→R} (h:callF F g ws s K=some y) (hr:SR σ s t) (hws:All2 (WR σ) ws vs) {k:SV→St→Prop}
  (hk:∀ σ' v sv s' t',Ext σ t σ' t'→SR σ' s' t'→VR σ' t'.bx.length v sv→K v s'=some y→k sv t'):Vm.callF P g vs t k:=by
 obtain⟨nl,tl,L,bx,n,H,g0⟩:=s;obtain⟨fr,bx',M⟩:=t;obtain⟨z,h1,h2⟩:=zgh (K:=fun y=>Out.rec (motive:=fun _=>R) (fun _ _=>fail) (fun v n' H'=>K v ⟨nl,tl,L,bx,n',H',g0⟩) y) h;cases z with
 | st e s=>cases h2
 | rt v n' H'=>
  show zan vs _;rw[z8];refine CallsM.mono (hF h1 rfl hr.n.symm hr.h hws) fun u M' ⟨τ,h3,h4,h5⟩=>?_
  refine hk (σ++τ) v (zdL u) ⟨nl,tl,L,bx,n',H',g0⟩ ⟨fr,bx',M'⟩ ⟨⟨τ,rfl⟩,Nat.le_refl _⟩ ⟨h3.symm,(hr.fr.mono τ (Nat.le_refl _)).same rfl rfl rfl,hr.bx.imp fun _ _ h=>h.mono τ (Nat.le_refl _),h5⟩ (zN0 h4) h2
theorem zMY {F:Cal} (hF:FOk P F) (f:Operand) (args:List Operand):LS P (.call f args) (zKd F f args):=fun {σ s t y K k} hr h hk=>by
 refine zW h hr.fr fun v sv _ hv h1=>?_
 refine zDi h1 hr fun σ1 ws vs s1 t1 hx hr1 hws h2=>?_
 have hv1:=VR.ext hx hv;cases v with
 | c c=>cases c with
  | f g=>
   rw[hv1.val rfl (by simp)];refine ztU (vs:=(#[]:Array Value).toList++vs++(#[]:Array Value).toList) hF h2 hr1 (by simpa using hws) fun σ' v sv s' t' hx' hr' hv' h3=>hk σ' v sv s' t' (hx.trans hx') hr' hv' h3
  | fm g a o=>
   obtain⟨sc,h5,rfl⟩:=hv1.cc (by simp);obtain⟨w,h5,rfl⟩:=h5;simp only[C.val,Option.map_eq_some_iff] at h5;obtain⟨e,he,rfl⟩:=h5
   refine ztU (vs:=(#[.pointer (some ⟨e.addr,o,none⟩)]:Array Value).toList++vs++(#[]:Array Value).toList) hF h2 hr1 (by
    show All2 (WR σ1) _ ([.pointer (some ⟨e.addr,o,none⟩)]++vs++[]);rw[List.append_nil]
    exact⟨by simp[WR,CR,C.val,he],hws⟩) fun σ' v sv s' t' hx' hr' hv' h3=>hk σ' v sv s' t' (hx.trans hx') hr' hv' h3
  | _=>cases h2
 | fn g l=>
  replace h2:(shalCs l s1 fun l' s''=>appK ws (l'.map W.c) fun ws'=>callF F g ws' s'' K)=some y:=h2
  have wsOf:∀ {σ':List E} {l':List C} {us:List Value},All2 (CR σ') l' us→All2 (WR σ') (l'.map W.c) us:=fun {σ' l' us} hl=>by
   induction l' generalizing us with
   | nil=>cases us with
    | nil=>trivial
    | cons _ _=>exact hl.elim
   | cons c l' ih=>cases us with
    | nil=>exact hl.elim
    | cons u us=>exact⟨hl.1,ih hl.2⟩
  rcases hv1 with ⟨cs,h3,rfl⟩|⟨us,h3,rfl⟩
  ·refine zlR h2 hr1 h3 fun σ2 l' us s2 t2 hx2 hr2 hl' _ h4=>?_
   rw[zj5] at h4;refine ztU hF h4 hr2 ((hws.imp fun _ _ h=>WR.ext hx2 h).append (wsOf hl')) fun σ' v sv s' t' hx' hr' hv' h5=>hk σ' v sv s' t' (hx.trans (hx2.trans hx')) hr' hv' h5
  ·have hid:∀ {l:List C} {vs:List Value} {K:List C→S→R},All2 (CR σ1) l vs→shalCs l s1 K=some y→K l s1=some y:=by
    intro l
    induction l with
    | nil=>intro vs K _ h;exact h
    | cons c l ih=>
     intro vs K hl h
     match vs,hl with
     | v::vs,hl=>
      have h':shalC c s1 (fun c' s'=>shalCs l s' fun r s''=>K (c'::r) s'')=some y:=h
      have h'':(shalCs l s1 fun r s''=>K (c::r) s'')=some y:=by
       cases c with
       | b j o=>exact absurd hl.1 (by simp[CR,C.val])
       | _=>exact h'
      exact ih hl.2 h''
   have h4:=hid h3 h2;rw[zj5] at h4;refine ztU (vs:=(#[]:Array Value).toList++vs++us.toArray.toList) hF h4 hr1 (by simpa using hws.append (wsOf h3)) fun σ' v sv s' t' hx' hr' hv' h5=>hk σ' v sv s' t' (hx.trans hx') hr' hv' h5
 | _=>cases h2
end
end
section
section
variable {P:Program} {F:Cal} {σ:List E} {s:S} {t:St} {y:Out} {nb:Nat}
theorem zOP (hF:FOk P F) (o:ROp) (hq:zy o=false):LS P o (st F o):=by
 cases o with
 | box T x=>exact zN6 T x
 | alloc T z=>exact zLq T z
 | mkSl tmp E n z parts=>exact zMU tmp E n z parts
 | store n p x=>exact zLr n p x
 | app E size bytes z x y=>exact zN7 E size bytes z x y
 | mkMap=>exact zLt
 | strish x=>exact zH9 x
 | clr z x=>exact zOa z x
 | slA n x=>exact zN9 n x
 | srange x=>exact zIb x
 | snext x=>exact zLx x
 | cpy n x y=>exact zN8 n x y
 | mkSlN E b z x y=>exact zLu E b z x y
 | mkSlC E b z x y=>exact zLv E b z x y
 | mset k x y z=>exact zMW k x y z
 | mdel k x y=>exact zMX k x y
 | mrange x=>exact zIa x
 | mnext x=>exact zLw x
 | call f args=>exact zMY hF f args
 | _=>cases hq
theorem zOQ (o:ROp) (hq:zy o=true) {K:V→S→R} (h:st F o s K=some y) (hr:SR σ s t) {k:SV→Prop} (hk:∀ v sv,VR σ t.bx.length v sv→K v s=some y→k sv):vq o t k:=by
 have key:∀ {q:S→(V→R)→R},QS o q→lQ q s K=some y→vq o t k:=fun hs h=>hs hr.q h hk
 cases o with
 | mov x=>exact key (zKk x) h
 | pick c a b=>exact key (zGH c a b) h
 | build z p=>exact key (zC5 z p) h
 | load g n p=>exact key (zGI g n p) h
 | nilck x=>exact key (zC6 x) h
 | faddr o p=>exact key (zC7 o p) h
 | field g o n x=>exact key (zC8 g o n x) h
 | iaddr n x i=>exact key (zC9 n x i) h
 | iaddrA l n x i=>exact key (zBv l n x i) h
 | ibin o x y=>exact key (zGM o x y) h
 | bbin o x y=>exact key (zGJ o x y) h
 | pnil o x y=>exact key (zGK o x y) h
 | not x=>exact key (zKl x) h
 | conv k x=>exact key (zGN k x) h
 | len x=>exact key (zKm x) h
 | lenS x=>exact key (zGL x) h
 | extract x i=>exact key (zzB x i) h
 | strOf x=>exact key (zDd x) h
 | strE o x y=>exact key (zGQ o x y) h
 | imm m x y=>exact key (zKp m x y) h
 | slx3 n x l h' m=>exact key (zGT n x l h' m) h
 | slx n x l h'=>exact key (zKq n x l h') h
 | aeq o n x y=>exact key (zKr o n x y) h
 | slnil o x y=>exact key (zDe o x y) h
 | sidx x i=>exact key (zGR x i) h
 | aidx g l n x i=>exact key (zGS g l n x i) h
 | mkfn f c=>exact key (zGW f c) h
 | mval f x=>exact key (zGU f x) h
 | uneg x=>exact key (zGO x) h
 | ucom x=>exact key (zGP x) h
 | ssl x l h'=>exact key (zKs x l h') h
 | mget k o z x y=>exact key (zGZ k o z x y) h
 | mlen x=>exact key (zG0 x) h
 | mentry x=>exact key (zH4 x) h
 | _=>cases hq
theorem zBC:∀ (L:List (Option V)) (d:Nat),zHP L d=(L[d]?).join
 | [],_=>rfl
 | _::_,0=>rfl
 | _::L,d+1=>by rw[List.getElem?_cons_succ];exact zBC L d
theorem zG3 {v:V}:∀ {L:List (Option V)} {d:Nat} {K:List (Option V)→R},zD3 L d v K=some y→d<L.length∧K (L.set d (some v))=some y
 | [],_,_,h=>by cases h
 | _::_,0,_,h=>⟨by simp,h⟩
 | a::L,d+1,K,h=>by
  obtain⟨h1,h2⟩:=zG3 (L:=L) (d:=d) (K:=fun r=>K (a::r)) h;exact⟨by simp only[List.length_cons];omega,h2⟩
theorem zj8 (k:Nat) (v:V) (l:List (Nat×V)) (d:Nat):zra ((k,v)::l) d=if k=d then some v else zra l d:=by
 show (Bool.rec (zra l d) (some v) (Nat.beq k d):Option V)=_;rw[ztd];by_cases h:k=d
 ·simp[h]
 ·simp[h]
theorem zhw (nl:Nat) (tl:List (Nat×V)) (L:List (Option V)) (bx:List B) (n:Nat) (H:T O) (g:Option (List Nat)) (d:Nat):S.fget ⟨nl,tl,L,bx,n,H,g⟩ d=if nl≤d then zra tl d else (L[d]?).join:=by
 show (Bool.rec (zHP L d) (zra tl d) (Nat.ble nl d):Option V)=_;rw[zBC];by_cases h:nl≤d
 ·rw[Nat.ble_eq_true_of_le h,if_pos h]
 ·have hb:Nat.ble nl d=false:=by
   cases hb:Nat.ble nl d with
   | false=>rfl
   | true=>exact absurd (Nat.le_of_ble_eq_true hb) h
  rw[if_neg h,hb]
theorem znt (d:Nat) (sv:SV) (fr:List (Nat×SV)) (d':Nat):lk ((d,sv)::fr) d'=if d=d' then some sv else lk fr d':=by
 show (match Nat.beq d d' with|true=>some sv|false=>lk fr d')=_;rw[ztd];by_cases h:d=d'
 ·simp[h]
 ·simp[h]
theorem put_s {d:Option Nat} {v:V} {sv:SV} {K:S→R} (h:s.put d v K=some y) (hf:FR σ nb s t.fr) (hv:VR σ nb v sv) :
  ∃ s',K s'=some y∧s'.bx=s.bx∧s'.n=s.n∧s'.H=s.H∧FR σ nb s' (t.put d sv).fr:=by
 obtain⟨nl,tl,L,bx,n,H,g⟩:=s;cases d with
 | none=>exact⟨_,h,rfl,rfl,rfl,hf⟩
 | some d=>
  have h':(Bool.rec (Bool.rec (zD3 L d v fun L'=>K ⟨nl,tl,L',bx,n,H,g⟩) (K ⟨nl,(d,v)::tl,L,bx,n,H,g⟩) (Nat.ble nl d)) fail (zGs v):R)=some y:=h
  have hd:v ≠ .dead∧(Bool.rec (zD3 L d v fun L'=>K ⟨nl,tl,L',bx,n,H,g⟩) (K ⟨nl,(d,v)::tl,L,bx,n,H,g⟩) (Nat.ble nl d):R)=some y:=by
   cases v with
   | dead=>cases h'
   | _=>exact⟨by simp,h'⟩
  obtain⟨hd,h''⟩:=hd;cases hb:Nat.ble nl d with
  | true=>
   rw[hb] at h'';have hle:=Nat.le_of_ble_eq_true hb
   refine⟨_,h'',rfl,rfl,rfl,fun d' v' hv'=>?_⟩;rw[zhw] at hv';show _∧∃ sv',lk ((d,sv)::t.fr) d'=some sv'∧_
   rw[znt];by_cases hdd:d=d'
   ·subst hdd;rw[if_pos hle,zj8,if_pos rfl] at hv';cases hv';exact⟨hd,sv,by rw[if_pos rfl],hv⟩
   ·rw[if_neg hdd];refine hf d' v' ?_;rw[zhw];by_cases hle':nl≤d'
    ·rw[if_pos hle',zj8,if_neg hdd] at hv';rw[if_pos hle'];exact hv'
    ·rw[if_neg hle'] at hv' ⊢; exact hv'
  | false=>
   rw[hb] at h'';obtain⟨h1,h2⟩:=zG3 h'';have hle:¬nl≤d:=fun h=>by rw[Nat.ble_eq_true_of_le h] at hb;cases hb
   refine⟨_,h2,rfl,rfl,rfl,fun d' v' hv'=>?_⟩;rw[zhw] at hv';show _∧∃ sv',lk ((d,sv)::t.fr) d'=some sv'∧_
   rw[znt];by_cases hdd:d=d'
   ·subst hdd;rw[if_neg hle,List.getElem?_set_self h1] at hv';cases hv';exact⟨hd,sv,by rw[if_pos rfl],hv⟩
   ·rw[if_neg hdd];refine hf d' v' ?_;rw[zhw];by_cases hle':nl≤d'
    ·rw[if_pos hle'] at hv' ⊢; exact hv'
    ·rw[if_neg hle',List.getElem?_set_ne hdd] at hv';rw[if_neg hle'];exact hv'
theorem SR.put_s {d:Option Nat} {v:V} {sv:SV} {K:S→R} (h:s.put d v K=some y) (hr:SR σ s t) (hv:VR σ t.bx.length v sv):∃ s',K s'=some y∧SR σ s' (t.put d sv):=by
 obtain⟨s',h1,h2,h3,h4,h5⟩:=Rn.put_s (t:=t) h hr.fr hv;have hb:(t.put d sv).bx=t.bx:=by cases d<;>rfl
 have hM:(t.put d sv).M=t.M:=by cases d<;>rfl
 exact⟨s',h1,⟨by rw[h3];exact hr.n,by rw[hb];exact h5,by rw[hb,h2];exact hr.bx,by rw[hM,h4];exact hr.h⟩⟩
theorem zMZ {b:Bool} {v:V} {sv:SV} {K:V→R} (h:sp b v K=some y) (hv:VR σ nb v sv) {k:SV→Prop} (hk:∀ v sv,VR σ nb v sv→K v=some y→k sv):zfn b sv k:=by
 cases b with
 | false=>exact hk v sv hv h
 | true=>
  have h':(asB v fun t=>kB t K)=some y:=h;exact zEt h' hv (fun h1=>by rw[zpb] at h1;exact hk (.c (.t true)) (.bool true) (zaS rfl) h1) (fun h1=>by rw[zpb] at h1;exact hk (.c (.t false)) (.bool false) (zaS rfl) h1)
theorem zEx (hF:FOk P F) {o:zZ} {K:S→R} (h:op F o s K=some y) (hr:SR σ s t) {k:St→Prop} (hk:∀ σ' s' t',Ext σ t σ' t'→SR σ' s' t'→K s'=some y→k t'):vop P o t k:=by
 have fin:∀ {σ':List E} {v:V} {sv:SV} {s':S} {t':St},Ext σ t σ' t'→SR σ' s' t'→VR σ' t'.bx.length v sv→(sp o.sp v fun v'=>s'.put o.dst v' K)=some y→zfn o.sp sv fun sv'=>t'.putK o.dst sv' k:=fun hx hr' hv h1=>
  zMZ h1 hv fun v' sv' hv' h2=>by
   obtain⟨s'',h3,h4⟩:=hr'.put_s h2 hv';rw[zfu];refine hk _ s'' _ (hx.trans ⟨⟨[],by simp⟩,?_⟩) h4 h3;cases o.dst<;>exact Nat.le_refl _
 unfold vop;cases hq:zy o.op with
 | true=>exact zOQ o.op hq h hr fun v sv hv h1=>fin Ext.rfl' hr hv h1
 | false=>exact zOP hF o.op hq hr h fun σ' v sv s' t' hx hr' hv h1=>fin hx hr' hv h1
theorem zEy {b:Bool} {v:V} {sv:SV} {run skip:R} (h:gd b v run skip=some y) (hv:VR σ nb v sv) {A B:Prop} (ha:run=some y→A) (hb:skip=some y→B):brG b sv A B:=by
 unfold gd at h;split at h
 ·rename_i x;rcases hv with ⟨sc,h1,rfl⟩|⟨x',h1,rfl⟩
  ·obtain⟨w,h2,rfl⟩:=h1;cases h2;cases b<;>cases x
   ·exact ha h
   ·exact hb h
   ·exact hb h
   ·exact ha h
  ·cases h1;cases b<;>cases x
   ·exact⟨fun h'=>(by cases h'),fun _=>ha h⟩
   ·exact⟨fun _=>hb h,fun h'=>(by cases h')⟩
   ·exact⟨fun h'=>(by cases h'),fun _=>hb h⟩
   ·exact⟨fun _=>ha h,fun h'=>(by cases h')⟩
 ·obtain⟨vs, -, rfl⟩:=hv;exact hb h
 ·cases h
theorem zy5:VR σ nb zrc SV.skip:=⟨[],trivial,rfl⟩
theorem zOb (hF:FOk P F) {o:zZ} {K:S→R} (h:opG F o s K=some y) (hr:SR σ s t) {k:St→Prop} (hk:∀ σ' s' t',Ext σ t σ' t'→SR σ' s' t'→K s'=some y→k t') :
  match o.guard with
  | none=>vop P o t k
  | some (g,b)=>Vm.ev t (.tmp g) fun sv=>brG b sv (vop P o t k) (t.putK o.dst SV.skip k):=by
 have h':(match o.guard with|none=>op F o s K|some g=>ev s (.tmp g.1) fun v=>gd g.2 v (op F o s K) (s.put o.dst zrc K))=some y:=by
  unfold opG at h;cases hg:o.guard with
  | none=>rw[hg] at h;exact h
  | some g=>rw[hg] at h;exact h
 cases hg:o.guard with
 | none=>rw[hg] at h';exact zEx hF h' hr hk
 | some g=>
  rw[hg] at h';obtain⟨g,b⟩:=g;refine zW h' hr.fr fun v sv _ hv h1=>zEy h1 hv (fun h2=>zEx hF h2 hr hk) (fun h2=>?_)
  obtain⟨s'',h3,h4⟩:=hr.put_s h2 zy5;rw[zfu];refine hk _ s'' _ ⟨⟨[],by simp⟩,?_⟩ h4 h3;cases o.dst<;>exact Nat.le_refl _
theorem zKu (hF:FOk P F):∀ {l:List zZ} {σ:List E} {s:S} {t:St} {K:S→R},ops F l s K=some y→SR σ s t→∀ {k:St→Prop},(∀ σ' s' t',Ext σ t σ' t'→SR σ' s' t'→K s'=some y→k t')→zpY P l t k
 | [],σ,s,t,K,h,hr,k,hk=>hk σ s t Ext.rfl' hr h
 | o::l,σ,s,t,K,h,hr,k,hk=>by
  have:=zOb hF (o:=o) (K:=fun s'=>ops F l s' K) h hr (k:=fun t'=>zpY P l t' k) fun σ' s' t' hx hr' h1=>zKu hF h1 hr' fun σ'' s'' t'' hx' hr'' h2=>hk σ'' s'' t'' (hx.trans hx') hr'' h2
  unfold zpY;exact this
theorem zEz {K:S→R} (h:s.cut K=some y) (hr:SR σ s t):∃ s',K s'=some y∧SR σ s' t:=by
 obtain⟨nl,tl,L,bx,n,H,g⟩:=s;cases tl with
 | nil=>exact⟨_,h,hr⟩
 | cons p tl=>
  refine⟨⟨nl,[p],L,bx,n,H,g⟩,h,hr.n,fun d v hd=>?_,hr.bx,hr.h⟩;refine hr.fr d v ?_;rw[zhw] at hd ⊢;split at hd
  ·rename_i hle;rw[if_pos hle];obtain⟨k,u⟩:=p;rw[zj8] at hd ⊢;split at hd
   ·rename_i hk;rw[if_pos hk];exact hd
   ·cases hd
  ·rename_i hle;rw[if_neg hle];exact hd
end
end
section
theorem zs {a b:Bool} (h:zM a b=true):a=true∧b=true:=by cases a<;>cases b<;>first|exact⟨rfl,rfl⟩|cases h
theorem zE {a b:Nat} (h:Nat.beq a b=true):a=b:=Nat.eq_of_beq_eq_true h
theorem zmg {α:Type} {f:α→α→Bool} (hf:∀ a b,f a b=true→a=b):∀ {a b:List α},zpa f a b=true→a=b
 | [],[],_=>rfl
 | [],_::_,h=>by cases h
 | _::_,[],h=>by cases h
 | x::a,y::b,h=>by
  obtain⟨h1,h2⟩:=zs (a:=f x y) (b:=zpa f a b) h;rw[hf _ _ h1,zmg hf h2]
theorem zBD {a b:List Nat} (h:zrb a b=true):a=b:=by rw[zpG] at h;exact Zd0 h
theorem C.eqb_s {a b:C} (h:a.eqb b=true):a=b:=by
 unfold C.eqb at h;split at h
 ·obtain⟨h1,h2⟩:=zs h;have:=znr (a:=_) (b:=_)▸(show zmW _ _=true from h1)
  have h3:=Zd0 this;have h4:=Zd0 (show decide _=true from h2)
  rw[h3,h4]
 ·rw[eq_of_beq h]
 ·rw[zBD h]
 ·obtain⟨h1,h2⟩:=zs h;rw[zE h1,zE h2]
 ·rfl
 ·obtain⟨h1,h2⟩:=zs h;obtain⟨h3,h4⟩:=zs h2;obtain⟨h5,h6⟩:=zs h4;rw[zE h1,zE h3,zE h5,zE h6]
 ·obtain⟨h1,h2⟩:=zs h;obtain⟨h3,h4⟩:=zs h2;obtain⟨h5,h6⟩:=zs h4;rw[zE h1,zE h3,zE h5,zE h6]
 ·rfl
 ·rw[zE h]
 ·rfl
 ·obtain⟨h1,h2⟩:=zs h;rw[zE h1,zE h2]
 ·rw[zE h]
 ·obtain⟨h1,h2⟩:=zs h;obtain⟨h3,h4⟩:=zs h2;rw[zE h1,zE h3,zE h4]
 ·obtain⟨h1,h2⟩:=zs h;obtain⟨h3,h4⟩:=zs h2;obtain⟨h5,h6⟩:=zs h4;obtain⟨h7,h8⟩:=zs h6;obtain⟨h9,h10⟩:=zs h8;rw[zE h1,zE h3,zE h5,zE h7,zE h9,eq_of_beq h10]
 ·rfl
 ·rfl
 ·obtain⟨h1,h2⟩:=zs h;obtain⟨h3,h4⟩:=zs h2;obtain⟨h5,h6⟩:=zs h4;have key:∀ {u v:Int},zBl u v=true→u=v:=fun {u v} h=>Zd0 (znr u v▸(show zmW u v=true from h))
  rw[zE h1,key h3,key h5,key h6]
 ·cases h
theorem zhx {a b:List C} (h:zkT a b=true):a=b:=zmg (fun _ _=>C.eqb_s) h
theorem W.eqb_s {a b:W} (h:a.eqb b=true):a=b:=by
 unfold W.eqb at h;split at h
 ·rw[C.eqb_s h]
 ·rw[zhx h]
 ·obtain⟨h1,h2⟩:=zs h;rw[zE h1,zhx h2]
 ·cases h
theorem V.eqb_s {a b:V} (h:a.eqb b=true):a=b:=by
 unfold V.eqb at h;split at h
 ·rw[C.eqb_s h]
 ·rw[zhx h]
 ·obtain⟨h1,h2⟩:=zs h;rw[zE h1,zhx h2]
 ·rw[zmg (fun _ _=>W.eqb_s) h]
 ·obtain⟨h1,h2⟩:=zs h;rw[zE h1,zE h2]
 ·rfl
 ·cases h
theorem En.eqb_s {a b:En} (h:a.eqb b=true):a=b:=by
 obtain⟨k,v,n⟩:=a;obtain⟨k',v',n'⟩:=b;obtain⟨h1,h2⟩:=zs (a:=k.eqb k') h;obtain⟨h3,h4⟩:=zs h2;rw[W.eqb_s h1,W.eqb_s h3,zE h4]
theorem zOR {a b:Option Nat} (h:oN a b=true):a=b:=by
 unfold oN at h;split at h
 ·rw[zE h]
 ·rfl
 ·cases h
theorem O.eqb_s {a b:O} (h:a.eqb b=true):a=b:=by
 unfold O.eqb at h;split at h
 ·obtain⟨h1,h2⟩:=zs h;rw[zE h1,zhx h2]
 ·obtain⟨h1,h2⟩:=zs h;rw[zE h1,zhx h2]
 ·obtain⟨h1,h2⟩:=zs h;obtain⟨h3,h4⟩:=zs h2;rw[zE h1,zE h3,zhx h4]
 ·obtain⟨h1,h2⟩:=zs h;rw[zmg (fun _ _=>En.eqb_s) h1,zE h2]
 ·obtain⟨h1,h2⟩:=zs h;rw[zBD h1,zE h2]
 ·obtain⟨h1,h2⟩:=zs h;obtain⟨h3,h4⟩:=zs h2;obtain⟨h5,h6⟩:=zs h4;rw[zOR h1,zE h3,zBD h5,zE h6]
 ·cases h
theorem zLy {a b:Option O} (h:zAz a b=true):a=b:=by
 unfold zAz at h;split at h
 ·rw[O.eqb_s h]
 ·rfl
 ·cases h
theorem zxZ:∀ {a b:T O},zBm a b=true→a=b
 | .e,.e,_=>rfl
 | .e,.n _ _ _,h=>by cases h
 | .n _ _ _,.e,h=>by cases h
 | .n l v r,.n l' v' r',h=>by
  obtain⟨h1,h2⟩:=zs (a:=zBm l l') (b:=zM (zAz v v') (zBm r r')) h;obtain⟨h3,h4⟩:=zs h2;rw[zxZ h1,zLy h3,zxZ h4]
theorem B.eqb_s {a b:B} (h:a.eqb b=true):a=b:=by
 unfold B.eqb at h;split at h
 ·obtain⟨h1,h2⟩:=zs h;rw[zE h1,zhx h2]
 ·rw[zE h]
 ·cases h
theorem zM0 {a b:Nat×V} (h:zMO a b=true):a=b:=by
 obtain⟨d,v⟩:=a;obtain⟨d',v'⟩:=b;obtain⟨h1,h2⟩:=zs (a:=Nat.beq d d') h;rw[zE h1,V.eqb_s h2]
theorem zLz {a b:Option V} (h:zEo a b=true):a=b:=by
 unfold zEo at h;split at h
 ·rw[V.eqb_s h]
 ·rfl
 ·cases h
theorem S.eqb_s {a b:S} (h:a.eqb b=true):a=b:=by
 unfold S.eqb at h;split at h
 ·obtain⟨h1,h2⟩:=zs h;obtain⟨h3,h4⟩:=zs h2;obtain⟨h5,h6⟩:=zs h4;obtain⟨h7,h8⟩:=zs h6;obtain⟨h9,h10⟩:=zs h8;rw[zE h1,zE h3,zmg (fun _ _=>zM0) h5,zmg (fun _ _=>zLz) h7,zmg (fun _ _=>B.eqb_s) h9,zxZ h10]
 ·cases h
theorem zG4 {x z:R} {y:Out} (h:zHZ x z=some y):x=some y∧z=some y:=by
 unfold zHZ at h;obtain⟨a,h1,h2⟩:=zgh h;obtain⟨b,h3,h4⟩:=zgh h2;split at h4
 ·obtain⟨h5,h6⟩:=zr h4;obtain⟨h7,h8⟩:=zs h5;obtain⟨h9,h10⟩:=zs h8;have e1:=V.eqb_s h7
  have e2:=zE h9;have e3:=zxZ h10
  subst e1 e2 e3;rw[h1,h3];exact⟨h6,h6⟩
 ·obtain⟨h5,h6⟩:=zr h4;have e1:=S.eqb_s h5
  subst e1;rw[h1,h3];exact⟨h6,h6⟩
 ·cases h4
section
variable {P:Program} {F:Cal} {σ:List E} {s:S} {t:St} {y:Out} {nb:Nat}
theorem mem_s {a:Nat}:∀ {l:List Nat},mem a l=true↔a∈l
 | []=>by constructor<;>intro h<;>cases h
 | x::l=>by
  show (Bool.rec (mem a l) true (Nat.beq x a):Bool)=true↔_;rw[ztd];by_cases h:x=a
  ·subst h;simp
  ·have:¬a=x:=fun e=>h e.symm
   simp[h,this,mem_s (a:=a) (l:=l)]
noncomputable def part (σ:List E) (H:T O) (M:Mem) (kp:List Nat):Mem:=fun b=>by
 classical exact if ∃ a∈kp,∃ o e,H.get a=some o∧σ[a]? = some e∧e.nil=false∧e.addr=b then M b else none
theorem part_le {σ:List E} {H:T O} {M:Mem} {kp:List Nat}:(part σ H M kp).le M:=fun b o h=>by
 unfold part at h;split at h
 ·exact h
 ·cases h
theorem zte {σ:List E} {H:T O} {M:Mem} {kp:List Nat} {b:Nat} {x:Obj} (h:part σ H M kp b=some x):∃ a∈kp,∃ o e,H.get a=some o∧σ[a]? = some e∧e.nil=false∧e.addr=b∧M b=some x:=by
 unfold part at h;split at h
 ·rename_i hc;obtain⟨a,h1,o,e,h2,h3,h4,h5⟩:=hc;exact⟨a,h1,o,e,h2,h3,h4,h5,h⟩
 ·cases h
theorem zwp (h:HR σ s.H t.M) {kp:List Nat} {a:Nat} {o:O} (ha:a∈kp) (hg:s.H.get a=some o):∃ e,σ[a]? = some e∧OR σ e o (part σ s.H t.M kp):=by
 obtain⟨e,h1,h2⟩:=h.has a o hg;refine⟨e,h1,h2.frame fun hn=>?_⟩;unfold part;rw[if_pos ⟨a,ha,o,e,hg,h1,hn,rfl⟩]
theorem CRs.fn {l:List C} {vs vs':List Value} (h:All2 (CR σ) l vs) (h':All2 (CR σ) l vs'):vs=vs':=All2.fn (Q:=CR σ) (fun _ _ _ h h'=>CR.fn h h') h h'
theorem WR.fn {w:W} {v v':Value} (h:WR σ w v) (h':WR σ w v'):v=v':=by
 cases w with
 | c x=>exact CR.fn h h'
 | ag l=>obtain⟨vs,h1,rfl⟩:=h;obtain⟨vs',h2,rfl⟩:=h';rw[CRs.fn h1 h2]
 | fn g l=>obtain⟨vs,h1,rfl⟩:=h;obtain⟨vs',h2,rfl⟩:=h';rw[CRs.fn h1 h2]
theorem EnR.fn {e:En} {m m':MapEntry} (h:EnR σ e m) (h':EnR σ e m'):m=m':=by
 obtain⟨k,v,n⟩:=m;obtain⟨k',v',n'⟩:=m';obtain⟨h1,h2,h3⟩:=h;obtain⟨h4,h5,h6⟩:=h';have e1:k=k':=WR.fn h1 h4
 have e2:v=v':=WR.fn h2 h5;have e3:n=n':=h3.trans h6.symm
 rw[e1,e2,e3]
theorem OR.fn {e:E} {o:O} {M M':Mem} (h:OR σ e o M) (h':OR σ e o M') (hn:e.nil=false):M e.addr=M' e.addr:=by
 cases o with
 | row T l=>obtain⟨-, vs,h1,h2⟩:=h;obtain⟨-, vs',h3,h4⟩:=h';rw[h2,h4,CRs.fn h1 h3]
 | ro T l=>obtain⟨-, vs,h1,h2⟩:=h;obtain⟨-, vs',h3,h4⟩:=h';rw[h2,h4,CRs.fn h1 h3]
 | gr T z l=>
  obtain⟨vs,h1,h2⟩:=h;obtain⟨vs',h3,h4⟩:=h';rcases h2 with ⟨h2, -⟩|⟨-, h2, -⟩
  ·rw[hn] at h2;cases h2
  ·rcases h4 with ⟨h4, -⟩|⟨-, h4, -⟩
   ·rw[hn] at h4;cases h4
   ·rw[h2,h4,CRs.fn h1 h3]
 | mp es c=>obtain⟨-, vs,h1,h2⟩:=h;obtain⟨-, vs',h3,h4⟩:=h';rw[h2,h4,All2.fn (Q:=EnR σ) (fun _ _ _ h h'=>EnR.fn h h') h1 h3]
 | it m a s t=>
  obtain⟨-, x,h1,h2⟩:=h;obtain⟨-, x',h3,h4⟩:=h';rw[h2,h4];cases m with
  | none=>rw[show x=none from h1,show x'=none from h3]
  | some a=>
   obtain⟨e1,h5,rfl⟩:=h1;obtain⟨e2,h6,rfl⟩:=h3;rw[h5] at h6;cases h6;rfl
 | si l p=>rw[h.2,h'.2]
theorem zBE {H H':T O}:∀ {kp:List Nat},zBo kp H H'=true→∀ a∈kp,∀ o,H.get a=some o→H'.get a=some o
 | [],_,a,ha,_,_=>by cases ha
 | x::kp,h,a,ha,o,ho=>by
  have h':(match H.get x with|none=>zBo kp H H'|some o=>(match H'.get x with|some o'=>zM (o.eqb o') (zBo kp H H')|none=>false))=true:=h;cases hx:H.get x with
  | none=>
   rw[hx] at h';rcases List.mem_cons.1 ha with rfl|ha
   ·rw[hx] at ho;cases ho
   ·exact zBE h' a ha o ho
  | some ox=>
   rw[hx] at h';simp only at h';cases hx':H'.get x with
   | none=>rw[hx'] at h';cases h'
   | some ox'=>
    rw[hx'] at h';obtain⟨h1,h2⟩:=zs h';rcases List.mem_cons.1 ha with rfl|ha
    ·rw[hx] at ho;cases ho;rw[hx',O.eqb_s h1]
    ·exact zBE h2 a ha o ho
theorem SCR.fn {c:C} {x x':SC} (h:SCR σ nb c x) (h':SCR σ nb c x'):x=x':=by
 cases c with
 | b j o=>rw[h.2,h'.2]
 | _=>obtain⟨v,h1,rfl⟩:=h;obtain⟨v',h2,rfl⟩:=h';rw[h1] at h2;cases h2;rfl
theorem SCRs.fn {l:List C} {vs vs':List SC} (h:All2 (SCR σ nb) l vs) (h':All2 (SCR σ nb) l vs'):vs=vs':=All2.fn (Q:=SCR σ nb) (fun _ _ _ h h'=>SCR.fn h h') h h'
theorem BR.fn {b:B} {x x':BE} (hd:b ≠ .dark) (h:BR σ nb b x) (h':BR σ nb b x'):x=x':=by
 cases b with
 | dark=>exact absurd rfl hd
 | live T l=>obtain⟨cs,h1,rfl⟩:=h;obtain⟨cs',h2,rfl⟩:=h';rw[SCRs.fn h1 h2]
 | gone a=>obtain⟨e,h1,rfl⟩:=h;obtain⟨e',h2,rfl⟩:=h';rw[h1] at h2;cases h2;rfl
theorem zLA {l:List C} {vs:List Value} {xs:List SC} (h:All2 (CR σ) l vs) (h':All2 (SCR σ nb) l xs):zdq xs=some vs:=by
 have:xs=vs.map SC.v:=SCRs.fn h' (h.sc nb);subst this;clear h h'
 induction vs with
 | nil=>rfl
 | cons v vs ih=>show (zdq (vs.map SC.v)).map (v :: ·)=_;rw[ih];rfl
theorem zKv {H:T O} {M:Mem} (hH:HR σ H M) {A:Prop} (hA:A):∀ {f:List B} {e:List B} {fx ex:List BE},bxs H f e=true→All2 (BR σ nb) f fx→All2 (BR σ nb) e ex→zpk M ex fx A
 | [],_,[],ex,_,_,_=>by cases ex<;>exact hA
 | f::fs,[],_,_,h,_,_=>by cases h
 | f::fs,e::es,fx::fxs,ex::exs,h,hf,he=>by
  have h':zM (zEp H e f) (bxs H fs es)=true:=h;obtain⟨h1,h2⟩:=zs h';have h3:=zKv hH hA h2 hf.2 he.2
  show bx1 M ex fx (zpk M exs fxs A)
  have same:e ≠ .dark→e=f→bx1 M ex fx (zpk M exs fxs A):=fun hd hef=>by
   subst hef;have:=BR.fn hd hf.1 he.1
   subst this;cases fx<;>exact⟨rfl,h3⟩
  cases e with
  | dark=>cases f<;>cases h1
  | live T l=>
   cases f with
   | dark=>
    obtain⟨cs, -, h9⟩:=he.1;obtain⟨b,h10⟩:=hf.1;subst h9 h10;exact h3
   | live T' l'=>exact same (by simp) (B.eqb_s h1)
   | gone b=>cases h1
  | gone a=>
   cases f with
   | dark=>cases h1
   | gone b=>exact same (by simp) (B.eqb_s h1)
   | live T cs=>
    cases hg:H.get a with
    | none=>simp only[zEp,hg] at h1;cases h1
    | some ob=>
     simp only[zEp,hg] at h1;cases ob with
     | row T' cs'=>
      obtain⟨h4,h5⟩:=zs h1;have e1:=zE h4
      have e2:=zhx h5;subst e1 e2;obtain⟨en,h6,h7⟩:=he.1;subst h7;obtain⟨xs,h8,h9⟩:=hf.1;subst h9;obtain⟨en',h10,h11⟩:=hH.has a _ hg;rw[h6] at h10;cases h10;obtain⟨-, vs,h12,h13⟩:=h11;show onO (zdq xs) _
      rw[zLA h12 h8];exact⟨h13,h3⟩
     | _=>cases h1
 | [],_,_::_,_,_,h,_=>h.elim
 | _::_,_,[],_,_,h,_=>h.elim
 | _::_,_::_,_::_,[],_,_,h=>h.elim
end
end
section
theorem zAD (a b k:Nat):sw a b k=if k=a then b else if k=b then a else k:=by
 show (Bool.rec (Bool.rec k a (Nat.beq k b)) b (Nat.beq k a):Nat)=_;rw[ztd,ztd];by_cases h1:k=a
 ·simp[h1]
 ·rw[decide_eq_false h1,if_neg h1];by_cases h2:k=b
  ·rw[decide_eq_true h2,if_pos h2]
  ·rw[decide_eq_false h2,if_neg h2]
theorem zEA (a b k:Nat):sw a b (sw a b k)=k:=by
 simp only[zAD];by_cases h1:k=a
 ·by_cases h2:b=a<;>simp[h1,h2]
 ·by_cases h2:k=b
  ·simp[h2]
  ·simp[h1,h2]
def swL (σ:List E) (a b:Nat) (ea eb:E):List E:=(σ.set a eb).set b ea
theorem zM1 {σ:List E} {a b:Nat} {ea eb:E} (ha:σ[a]? = some ea) (hb:σ[b]? = some eb) (k:Nat):(swL σ a b ea eb)[k]? = σ[sw a b k]?:= by
 have la:=(List.getElem?_eq_some_iff.1 ha).1;have lb:=(List.getElem?_eq_some_iff.1 hb).1
 unfold swL;rw[zAD,List.getElem?_set,List.getElem?_set];by_cases h1:k=a
 ·subst h1;by_cases h2:b=k
  ·subst h2;rw[ha] at hb;cases hb;rw[if_pos rfl,if_pos rfl,if_pos (by simpa using la),ha]
  ·simp[h2,la,hb]
 ·have h1':¬a=k:=fun e=>h1 e.symm
  by_cases h2:k=b
  ·subst h2;simp[h1,lb,ha]
  ·have h2':¬b=k:=fun e=>h2 e.symm
   simp[h1,h2,h1',h2']
section
variable {σ σ':List E} {a b:Nat}
def Sw (σ σ':List E) (a b:Nat):Prop:=∀ k,σ'[k]? = σ[sw a b k]?
theorem Sw.to (h:Sw σ σ' a b) (k:Nat):σ'[sw a b k]? = σ[k]? := by rw[h,zEA]
theorem C.ren_s (h:Sw σ σ' a b) (c:C):(c.ren a b).val σ'=c.val σ:=by
 cases c<;>simp only[C.ren,C.val,h.to]
theorem CR.ren (h:Sw σ σ' a b) {c:C} {v:Value} (hc:CR σ c v):CR σ' (c.ren a b) v:=(C.ren_s h c).trans hc
theorem SCR.ren (h:Sw σ σ' a b) {nb:Nat} {c:C} {x:SC} (hc:SCR σ nb c x):SCR σ' nb (c.ren a b) x:=by
 cases c with
 | b j o=>exact hc
 | p x o=>obtain⟨v,h1,h2⟩:=hc;exact⟨v,(C.ren_s h (.p x o)).trans h1,h2⟩
 | l x o n k=>obtain⟨v,h1,h2⟩:=hc;exact⟨v,(C.ren_s h (.l x o n k)).trans h1,h2⟩
 | g x o d n=>obtain⟨v,h1,h2⟩:=hc;exact⟨v,(C.ren_s h (.g x o d n)).trans h1,h2⟩
 | m x=>obtain⟨v,h1,h2⟩:=hc;exact⟨v,(C.ren_s h (.m x)).trans h1,h2⟩
 | fm g x o=>obtain⟨v,h1,h2⟩:=hc;exact⟨v,(C.ren_s h (.fm g x o)).trans h1,h2⟩
 | h x o d k z w=>obtain⟨v,h1,h2⟩:=hc;exact⟨v,(C.ren_s h (.h x o d k z w)).trans h1,h2⟩
 | xx y d lo hi=>obtain⟨v,h1,h2⟩:=hc;exact⟨v,(C.ren_s h (.xx y d lo hi)).trans h1,h2⟩
 | _=>exact hc
theorem All2.mapL {α β γ:Type} {Q:α→β→Prop} {Q':γ→β→Prop} {f:α→γ} (hf:∀ x y,Q x y→Q' (f x) y):∀ {l:List α} {r:List β},All2 Q l r→All2 Q' (l.map f) r
 | [],[],_=>trivial
 | x::l,y::r,h=>⟨hf x y h.1,All2.mapL hf h.2⟩
 | [],_::_,h=>h.elim
 | _::_,[],h=>h.elim
theorem CRs.ren (h:Sw σ σ' a b) {l:List C} {vs:List Value} (hc:All2 (CR σ) l vs):All2 (CR σ') (l.map (C.ren a b)) vs:=All2.mapL (fun _ _ hq=>CR.ren h hq) hc
theorem SCRs.ren (h:Sw σ σ' a b) {nb:Nat} {l:List C} {vs:List SC} (hc:All2 (SCR σ nb) l vs):All2 (SCR σ' nb) (l.map (C.ren a b)) vs:=All2.mapL (fun _ _ hq=>SCR.ren h hq) hc
theorem WR.ren (h:Sw σ σ' a b) {w:W} {v:Value} (hc:WR σ w v):WR σ' (w.ren a b) v:=by
 cases w with
 | c x=>exact CR.ren h hc
 | ag l=>obtain⟨vs,h1,h2⟩:=hc;exact⟨vs,CRs.ren h h1,h2⟩
 | fn g l=>obtain⟨vs,h1,h2⟩:=hc;exact⟨vs,CRs.ren h h1,h2⟩
theorem VR.ren (h:Sw σ σ' a b) {nb:Nat} {v:V} {sv:SV} (hc:VR σ nb v sv):VR σ' nb (v.ren a b) sv:=by
 cases v with
 | c x=>
  rcases hc with ⟨sc,h1,h2⟩|⟨b',rfl,h2⟩
  ·exact .inl ⟨sc,SCR.ren h h1,h2⟩
  ·exact .inr ⟨b',rfl,h2⟩
 | ag l=>obtain⟨cs,h1,h2⟩:=hc;exact⟨cs,SCRs.ren h h1,h2⟩
 | fn g l=>
  rcases hc with ⟨cs,h1,h2⟩|⟨vs,h1,h2⟩
  ·exact .inl ⟨cs,SCRs.ren h h1,h2⟩
  ·exact .inr ⟨vs,CRs.ren h h1,h2⟩
 | tp l=>obtain⟨vs,h1,h2⟩:=hc;exact⟨vs,All2.mapL (fun _ _ hq=>WR.ren h hq) h1,h2⟩
 | sl j n=>exact hc
 | dead=>exact hc
theorem EnR.ren (h:Sw σ σ' a b) {e:En} {m:MapEntry} (hc:EnR σ e m):EnR σ' (e.ren a b) m:=⟨hc.1.ren h,hc.2.1.ren h,hc.2.2⟩
theorem OR.ren (h:Sw σ σ' a b) {e:E} {o:O} {M:Mem} (hc:OR σ e o M):OR σ' e (o.ren a b) M:=by
 cases o with
 | row E l=>obtain⟨h0,vs,h1,h2⟩:=hc;exact⟨h0,vs,CRs.ren h h1,h2⟩
 | ro E l=>obtain⟨h0,vs,h1,h2⟩:=hc;exact⟨h0,vs,CRs.ren h h1,h2⟩
 | gr E z l=>
  obtain⟨vs,h1,h2⟩:=hc;refine⟨vs,CRs.ren h h1,?_⟩;rcases h2 with ⟨h3,h4,h5⟩|h2
  ·exact .inl ⟨h3,by rw[h4];rfl,h5⟩
  ·exact .inr h2
 | mp es c=>obtain⟨h0,ms,h1,h2⟩:=hc;exact⟨h0,ms,All2.mapL (fun _ _ hq=>EnR.ren h hq) h1,h2⟩
 | it m s l t=>
  obtain⟨h0,x,h1,h2⟩:=hc;refine⟨h0,x,?_,h2⟩;cases m with
  | none=>exact h1
  | some k=>obtain⟨e',h3,h4⟩:=h1;exact⟨e',(h.to k).trans h3,h4⟩
 | si l p=>exact hc
theorem BR.ren (h:Sw σ σ' a b) {nb:Nat} {x:B} {y:BE} (hc:BR σ nb x y):BR σ' nb (x.ren a b) y:=by
 cases x with
 | live T l=>obtain⟨cs,h1,h2⟩:=hc;exact⟨cs,SCRs.ren h h1,h2⟩
 | gone k=>obtain⟨e,h1,h2⟩:=hc;exact⟨e,(h.to k).trans h1,h2⟩
 | dark=>exact hc
theorem T.ztf:∀ (t:T O) (k:Nat),(t.ren a b).get k=(t.get k).map (O.ren a b)
 | .e,_=>rfl
 | .n l v r,0=>rfl
 | .n l v r,m+1=>by
  show (T.n (l.ren a b) (v.map (O.ren a b)) (r.ren a b)).get (m+1)=_;rw[T.get_1,T.get_1];split
  ·exact T.ztf r _
  ·exact T.ztf l _
theorem T.ztg {H:T O} {k:Nat} {o:O} (h:(H.swp a b).get k=some o):∃ o0,H.get (sw a b k)=some o0∧o=o0.ren a b:=by
 unfold T.swp T.pt at h;rw[T.set_put,T.set_put] at h
 have opt:∀ {x:Option O},x.map (O.ren a b)=some o→∃ o0,x=some o0∧o=o0.ren a b:=fun {x} h=>by
  rw[Option.map_eq_some_iff] at h;obtain⟨o0,h1,h2⟩:=h;exact⟨o0,h1,h2.symm⟩
 rw[zAD];rcases T.get_put h with ⟨rfl,h1⟩|⟨h0,h1⟩
 ·obtain⟨o0,h2,h3⟩:=opt h1;by_cases hab:k=a
  ·subst hab;exact⟨o0,by rw[if_pos rfl];exact h2,h3⟩
  ·exact⟨o0,by rw[if_neg hab,if_pos rfl];exact h2,h3⟩
 ·rcases T.get_put h1 with ⟨rfl,h2⟩|⟨h3,h2⟩
  ·obtain⟨o0,h4,h5⟩:=opt h2;exact⟨o0,by rw[if_pos rfl];exact h4,h5⟩
  ·rw[T.ztf] at h2;obtain⟨o0,h4,h5⟩:=opt h2;exact⟨o0,by rw[if_neg h3,if_neg h0];exact h4,h5⟩
theorem HR.swp (h:Sw σ σ' a b) {H:T O} {M:Mem} (hr:HR σ H M):HR σ' (H.swp a b) M:=by
 refine⟨fun k o hk=>?_,fun k k' o o' e e' hk hk' he he' hn hn' hadr=>?_⟩
 ·obtain⟨o0,h1,rfl⟩:=T.ztg hk;obtain⟨e,h2,h3⟩:=hr.has _ _ h1;exact⟨e,(h k).trans h2,h3.ren h⟩
 ·obtain⟨o0,h1,rfl⟩:=T.ztg hk;obtain⟨o1,h2,rfl⟩:=T.ztg hk';have:=hr.inj _ _ _ _ _ _ h1 h2 ((h k).symm.trans he) ((h k').symm.trans he') hn hn' hadr
  rw[←zEA a b k,this,zEA]
theorem zBF {f:V→V} {d:Nat}:∀ {l:List (Nat×V)},zra (l.map fun p=>(p.1,f p.2)) d=(zra l d).map f
 | []=>rfl
 | (k,v)::l=>by
  rw[List.map_cons,zj8,zj8,zBF];split<;>rfl
variable {s:S} {t:St}
theorem SR.swp (hr:SR σ s t) (h:Sw σ σ' a b) (hl:σ'.length=σ.length):SR σ' (s.swp a b) t:=by
 obtain⟨nl,tl,L,bx,n,H,g⟩:=s;refine⟨hr.n.trans hl.symm,fun d v hd=>?_,All2.mapL (fun _ _ hq=>BR.ren h hq) hr.bx,hr.h.swp h⟩
 have h1:S.fget (S.swp a b ⟨nl,tl,L,bx,n,H,g⟩) d=(S.fget ⟨nl,tl,L,bx,n,H,g⟩ d).map (V.ren a b):=by
  show S.fget ⟨nl,tl.map fun p=>(p.1,p.2.ren a b),L.map fun v=>v.map (V.ren a b),bx.map (B.ren a b),n,H.swp a b,g⟩ d=_;rw[zhw,zhw,zBF];split
  ·rfl
  ·rw[List.getElem?_map];cases L[d]? <;> simp
 rw[h1,Option.map_eq_some_iff] at hd;obtain⟨v0,h2,rfl⟩:=hd;obtain⟨h3,sv,h4,h5⟩:=hr.fr d v0 h2;refine⟨fun e=>h3 ?_,sv,h4,h5.ren h⟩;cases v0<;>first|rfl|cases e
theorem zBG {σ0:List E} (ha:σ0.length≤a) (hb:σ0.length≤b) (hx:∃ τ,σ=σ0++τ) (hr:SR σ s t):∃ σ'',(∃ τ,σ''=σ0++τ)∧SR σ'' (s.cs a b) t:=by
 unfold S.cs;cases hq:swB a b s.H with
 | false=>exact⟨σ,hx,hr⟩
 | true=>
  unfold swB at hq;split at hq
  ·rename_i x y h1 h2;obtain⟨ea,h3, -⟩:=hr.h.has a x h1;obtain⟨eb,h4, -⟩:=hr.h.has b y h2;have hS:Sw σ (swL σ a b ea eb) a b:=zM1 h3 h4
   have hl:(swL σ a b ea eb).length=σ.length:=by simp[swL]
   refine⟨swL σ a b ea eb,?_,hr.swp hS hl⟩;obtain⟨τ,rfl⟩:=hx;refine⟨(swL (σ0++τ) a b ea eb).drop σ0.length,?_⟩
   have h5:(swL (σ0++τ) a b ea eb).take σ0.length=σ0:=by
    refine List.ext_getElem? fun k=>?_
    rw[List.getElem?_take];split
    ·rename_i hk;rw[hS k,zAD,if_neg (by omega),if_neg (by omega),List.getElem?_append_left hk]
    ·rename_i hk;rw[List.getElem?_eq_none (by omega)]
   rw[←List.take_append_drop σ0.length (swL (σ0++τ) a b ea eb),h5];simp
  ·cases hq
theorem zLB {σ0:List E} {n:Nat} (hn:σ0.length=n) (hx:∃ τ,σ=σ0++τ) (hr:SR σ s t):∃ σ'',(∃ τ,σ''=σ0++τ)∧SR σ'' (zEn n s) t:=by
 unfold zEn;obtain⟨σ1,x1,h1⟩:=zBG (a:=n) (b:=n+1) (by omega) (by omega) hx hr;obtain⟨σ2,x2,h2⟩:=zBG (a:=n+2) (b:=n+3) (by omega) (by omega) x1 h1;obtain⟨σ3,x3,h3⟩:=zBG (a:=n) (b:=n+2) (by omega) (by omega) x2 h2;obtain⟨σ4,x4,h4⟩:=zBG (a:=n+1) (b:=n+3) (by omega) (by omega) x3 h3;exact zBG (a:=n+1) (b:=n+2) (by omega) (by omega) x4 h4
theorem zfw {α:Type} {f:α→(α→R)→R} (hf:∀ x K,f x K=K x):∀ (l:List α) (K:List α→R),zgg f l K=K l
 | [],_=>rfl
 | x::l,K=>by
  show f x (fun a'=>zgg f l fun r=>K (a'::r))=_;rw[hf,zfw hf l]
theorem zy6 {α:Type} {f:α→(α→R)→R} (hf:∀ x K,f x K=K x) (x:Option α) (K:Option α→R):zyX f x K=K x:=by
 cases x with
 | none=>rfl
 | some v=>exact hf v _
theorem zpI (c:C) (K:C→R):fcC c K=K c:=by cases c<;>simp only[fcC,fN_eq]
theorem zBH (w:W) (K:W→R):fcW w K=K w:=by cases w<;>simp only[fcW,zpI,zfw zpI]
theorem zG5 (v:V) (K:V→R):fcV v K=K v:=by cases v<;>simp only[fcV,zpI,zfw zpI,zfw zBH]
theorem zM2 (e:En) (K:En→R):fcE e K=K e:=by
 obtain⟨k,v,n⟩:=e;show (fcW k fun k=>fcW v fun v=>K ⟨k,v,n⟩)=_
 rw[zBH,zBH]
theorem zM3 (o:O) (K:O→R):fcO o K=K o:=by
 cases o<;>simp only[fcO,zfw zpI,zfw zM2];exact zy6 (fun x K=>fN_eq K x) _ _
theorem zM4 (x:B) (K:B→R):fcB x K=K x:=by cases x<;>simp only[fcB,zfw zpI,fN_eq]
theorem zBI:∀ (t:T O) (K:T O→R),fcT t K=K t
 | .e,_=>rfl
 | .n l v r,K=>by
  show fcT l (fun l=>zyX fcO v fun v=>fcT r fun r=>K (.n l v r))=_;rw[zBI l,zy6 zM3,zBI r]
theorem zM5 (s:S) (K:S→R):fcS s K=K s:=by
 obtain⟨nl,tl,L,bx,n,H,g⟩:=s;show (zgg (fun p K=>Prod.rec (fun d v=>fcV v fun v=>K (d,v)) p) tl fun tl=>zgg (zyX fcV) L fun L=>zgg fcB bx fun bx=>fcT H fun H=>K ⟨nl,tl,L,bx,n,H,g⟩)=_
 rw[zfw (fun p K=>by obtain⟨d,v⟩:=p;exact zG5 v _),zfw (fun x K=>zy6 zG5 x K),zfw zM4,zBI]
end
end
end Go.Vm.Rn
