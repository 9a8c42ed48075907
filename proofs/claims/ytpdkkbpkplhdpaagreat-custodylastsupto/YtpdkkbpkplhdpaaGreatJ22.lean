/- Part of this proof;laid by program. -/
import Derived.Test.YtpdkkbpkplhdpaaGreatJ21
import Derived.Test.YtpdkkbpkplhdpaaGreatJ18
set_option linter.unusedVariables false
set_option linter.unusedSimpArgs false
namespace Go.Proofs.YtpdkkbpkplhdpaaGreat
open Go Go.Vm
attribute [local irreducible] Brn Ob Grow CallsM inR zax zav Mem.row Mem.cells Mem.setCells Mem.upd Go.Vm.Own zaD za5 zbc zaJ New SrcOk subA NewSl Mem.textAt Mem.mapAt Mem.iterAt zau zaj Wr NewEls Elems
set_option maxRecDepth 10000
section
variable {M:Mem} {S:StR} {L:List K} {D:zgi} {ms:List MX}
def zAJ (S:StR) (L:List K) (D:zgi) (k:Int) (i:IdT) (l:List UInt8) (M:Mem) (v:Value) (M':Mem):Prop:=
 ∃ D' ms',v = .tuple #[zhH (if zag S (zf4 S L) k i l.length=0 then zJ S k i l else S) D',.int .i64 (zag S (zf4 S L) k i l.length)]∧M.le M' ∧
  DocAt M' (if zag S (zf4 S L) k i l.length=0 then zJ S k i l else S) (if zag S (zf4 S L) k i l.length=0∧k=4 then putK ⟨i.o,i.e,i.c⟩ L else L) D' ms'∧D'.kn≤D.kn+1
theorem zxC (h:DocAt M S L D ms) (hI:zeh S) (hf:D.kn<4000000) (k:Int) (i:IdT) {a:Option Addr} {c:Nat} {l:List UInt8} (hl:SrcOk M 1 a l.length (l.map zl)) (hn:l.length≤1048576) :
  CallsM Tryz.prog F.zfh [zhH S D,evV k i a l.length c] M (zAJ S L D k i l M):=by
 refine zsg (by simp) ?_;refine zR ?_;refine(ztt h hI k i a l.length c hn).mono ?_;rintro v M1 ⟨rfl,hle1⟩;have h1:=h.le hle1
 (conv=>whnf);refine brn (fun g=>?_) (fun g=>?_)
 ·have g1:¬zag S (zf4 S L) k i l.length=0:=by simpa using g
  refine zR ?_;refine(ztt h1 hI k i a l.length c hn).mono ?_;rintro v M2 ⟨rfl,hle2⟩;refine zT (hle2) ?_;refine zR ?_;refine⟨D,ms,?_,Mem.le_trans hle1 hle2,?_,by omega⟩
  ·rw[if_neg g1]
  ·rw[if_neg g1,if_neg (fun e=>g1 e.1)];exact h1.le hle2
 have g1:zag S (zf4 S L) k i l.length=0:=by simpa using g
 have hI2:=zmp hI g1
 have hk:k=1∨k=2∨k=3∨k=4:=by
  have g3:zaF k i l.length=0:=by
   unfold zag at g1;split at g1
   ·rename_i g4;exact absurd g1 g4
   ·rename_i g4;simpa using g4
  unfold zaF at g3
  repeat' split at g3
  all_goals omega
 unfold zAJ;rw[g1];simp only[if_true,true_and];rcases hk with rfl|rfl|rfl|rfl
 ·have he:=hI2.epoch;have e:zJ S 1 i l={ S with epoch:=S.epoch+1,used:=List.replicate 64 0 }:=by unfold zJ;rw[if_pos rfl]
  rw[e] at he ⊢;dsimp only at he;refine zR ?_;refine ob (zd (by omega)) ?_;refine zR ?_;refine⟨⟨none,0,0,D.la,D.ln,D.lc,D.ka,D.kn,D.kc⟩,ms,rfl,hle1,?_,by dsimp only;omega⟩;rw[if_neg (by decide)];exact⟨by dsimp only;rw[zmr];exact SrcOk.nil _ _,h1.row,h1.msgs,h1.keys,h1.few⟩
 ·obtain⟨m1,m2,m3,m4,m5,m6⟩:=zoi g1;obtain⟨i1,i2,i3⟩:=za8 m1;have hid:=zfH i1
  have hqb:=hI.qb;have hqh:=hI.qh
  have hln:=h.ln;have hmsl:=h.row.len
  refine zR ?_;refine new (fun b9 hb9=>?_);replace hb9:M1 b9=none:=hb9;have hN1:NewSl M1 T.zdz 5 (some ⟨b9,0,none⟩) 0 0 (([]:List MX).flatMap zli) _:=NewSl.lit hb9 T.zdz 5 0 [] rfl
  obtain⟨M3,hM3⟩:∃ M3,M3=M1.setCells b9 T.zdz []:=⟨_,rfl⟩
  rw[←hM3] at hN1;(conv=>whnf)
  erw [←hM3];refine zR ?_;refine zdR (h1.row.row.le hN1.le) ?_;(conv=>whnf);refine ze6 M1 _ hN1 (by first|omega|(dsimp only;omega)) (by simp[maxLen];omega) (zBQ ms) fun a4 c4 M4 hN4=>?_
  rw[Nat.zero_add D.ln] at hN4;rw[Nat.zero_add D.ln];replace hN4:NewSl M1 T.zdz 5 a4 D.ln c4 (ms.flatMap zli) M4:=hN4;refine zR ?_;refine new (fun b10 hb10=>?_);replace hb10:M4 b10=none:=hb10;have hN5:NewSl M4 T.zn 1 (some ⟨b10,0,none⟩) 0 0 (([]:List UInt8).map zl) _:=NewSl.lit hb10 T.zn 1 0 [] rfl
  obtain⟨M5,hM5⟩:∃ M5,M5=M4.setCells b10 T.zn []:=⟨_,rfl⟩
  rw[←hM5] at hN5;(conv=>whnf)
  erw [←hM5];refine zR ?_;refine zdR ((hl.le (Mem.le_trans hle1 hN4.le)).le hN5.le) ?_;(conv=>whnf);refine ze6 M4 _ hN5 (by first|omega|(dsimp only;omega)) (by simp[maxLen];omega) (by simp[Value.oneCell',zl]) fun a6 c6 M6 hN6=>?_
  rw[Nat.zero_add l.length] at hN6;rw[Nat.zero_add l.length];refine zT (hN6.le) ?_;refine zR ?_;have hN7:=hN4.up hN6.le
  obtain⟨x,hx⟩:∃ x:MX,x=⟨i,a6,c6,l⟩:=⟨_,rfl⟩
  refine zdS M1 hN7 x (by rw[hx]) (by first|omega|(dsimp only;omega)) (by simp[maxLen];omega) (by simp[Value.oneCell']) fun a8 c8 M8 hN8 hk8=>?_
  have hx8:SrcOk M8 1 x.a x.p.length (x.p.map zl):=by
   rw[hx];have hw:Wr M8 T.zn 1 a6 l.length c6 (l.map zl):=hN6.wr.mono fun q o hq ho=>hk8 _ _ (fun ⟨q',hq',e⟩=>(NewSl.ne (hN6.mono hN4.le) hN7 (by decide) hq hq') e.symm) ho
   exact hw.src
  have hle8:M1.le M8:=hN8.le;have he:zJ S 2 i l={ S with l:=S.l++[⟨i,l⟩],used:=if i.o=S.self∧i.e=S.epoch then S.used.set i.d.toNat (max (zcL S i.d) i.c) else S.used }:=by unfold zJ;rw[if_neg (by decide),if_pos rfl]
  have h8:DocAt M8 { S with l:=S.l++[⟨i,l⟩] } L ⟨D.ua,D.un,D.uc,a8,D.ln+1,c8,D.ka,D.kn,D.kc⟩ (ms++[x]):=by
   refine⟨h1.used.le hle8,⟨hN8.src,fun m hm=>?_⟩,?_,h1.keys.le hle8,h1.few⟩
   ·rcases List.mem_append.1 hm with hm|hm
    ·exact(h1.row.data m hm).le hle8
    ·simp only[List.mem_singleton] at hm;subst hm;exact hx8
   ·rw[List.map_append,h1.msgs,hx];rfl
  have fin:zJ S 2 i l={ S with l:=S.l++[⟨i,l⟩] }→∃ D' ms',Value.tuple #[zhH { S with l:=S.l++[⟨i,l⟩] } ⟨D.ua,D.un,D.uc,a8,D.ln+1,c8,D.ka,D.kn,D.kc⟩,Value.int .i64 0]=Value.tuple #[zhH (zJ S 2 i l) D',Value.int .i64 0]∧M.le M8∧DocAt M8 (zJ S 2 i l) (if 2=4 then putK ⟨i.o,i.e,i.c⟩ L else L) D' ms'∧D'.kn≤D.kn+1:=by
   intro e;refine⟨_,ms++[x],by rw[e],Mem.le_trans hle1 hle8,?_,by dsimp only;omega⟩;rw[if_neg (by decide),e];exact h8
  refine zR ?_;refine brn (fun g2=>?_) (fun g2=>?_)
  rotate_left
  ·have g3:¬i.o=S.self:=Zd1 g2;refine zR ?_;exact fin (by rw[he,if_neg (fun h=>g3 h.1)])
  have g3:i.o=S.self:=Zd0 g2;refine zR ?_;refine brn (fun g4=>?_) (fun g4=>?_)
  rotate_left
  ·have g5:¬i.e=S.epoch:=Zd1 g4;refine zR ?_;exact fin (by rw[he,if_neg (fun h=>g5 h.2)])
  have g5:i.e=S.epoch:=Zd0 g4;have e1:zJ S 2 i l={ S with l:=S.l++[⟨i,l⟩],used:=S.used.set i.d.toNat (max (zcL S i.d) i.c) }:=by rw[he,if_pos ⟨g3,g5⟩]
  refine zR ?_;refine(zBS h8 hI.ulen i.d).mono ?_;have hla:=zhU hI (d:=i.d) (by omega)
  rw[show zG ({ S with l:=S.l++[⟨i,l⟩] }:StR).used=zG S.used from rfl,hla];rintro v _ ⟨rfl,rfl⟩;refine zR ?_;refine brn (fun g6=>?_) (fun g6=>?_)
  rotate_left
  ·have g7:i.c≤zcL S i.d:=by have:=Zd1 g6;omega
   refine zR ?_;refine fin ?_;rw[e1];have:=zwn (u:=S.used) (d:=i.d.toNat) (c:=i.c) g7 (by have:=hI.ulen;omega)
   unfold zcL;rw[this]
  have g7:zcL S i.d<i.c:=Zd0 g6;refine zR ?_;refine(zDf (x:=(i.d,i.c)) h8.used (by have hu1:(zaB 0 S.used).length=D.un:=h.un;have:=zc5 S.used 0;have:=hI.ulen;dsimp only;omega)).mono ?_;rw[show zG ({ S with l:=S.l++[⟨i,l⟩] }:StR).used=zG S.used from rfl,zzq hI (by omega) (by omega)];rintro v M9 ⟨a',n',c',rfl,hle9,hu9⟩;refine zR ?_;have h9:=h8.le hle9
  refine⟨⟨a',n',c',a8,D.ln+1,c8,D.ka,D.kn,D.kc⟩,ms++[x],by rw[e1],Mem.le_trans hle1 (Mem.le_trans hle8 hle9),?_,by dsimp only;omega⟩;rw[if_neg (by decide),e1];refine⟨?_,h9.row,h9.msgs,h9.keys,h9.few⟩;dsimp only;rw[Int.max_eq_right (by omega)];exact hu9
 ·have e:zJ S 3 i l={ S with l:=S.l.filter fun m=>decide (m.id≠i) }:=by unfold zJ;rw[if_neg (by decide),if_neg (by decide),if_pos rfl]
  have hqh:=hI.qh;have hln:=h.ln
  rw[e];refine zR ?_;refine(zxB h1.row (by omega) i).mono ?_;rintro v M2 ⟨a',n',c',rfl,hle2,hr2⟩;refine zR ?_;refine⟨⟨D.ua,D.un,D.uc,a',n',c',D.ka,D.kn,D.kc⟩,ms.filter fun m=>decide (m.id≠i),rfl,Mem.le_trans hle1 hle2,?_,by dsimp only;omega⟩;rw[if_neg (by decide)];refine⟨h1.used.le hle2,hr2,?_,h1.keys.le hle2,h1.few⟩;dsimp only;rw[←h.msgs,List.filter_map];rfl
 ·have e:zJ S 4 i l=S:=by unfold zJ;rw[if_neg (by decide),if_neg (by decide),if_neg (by decide)]
  rw[e];refine zR ?_;refine(zDd h1.keys (by have:=h.few;omega) S.qg i.o i.d i.e i.c).mono ?_
  have hm0:zfo S.qg L i.o i.d i.e i.c=0:=by
   unfold zag at g1;split at g1
   ·rename_i g4;exact absurd g1 g4
   rw[if_neg (by decide),if_neg (by decide),if_neg (by decide)] at g1;split at g1
   ·cases g1
   ·exact g1
  rintro v M2 (⟨hne, -⟩|⟨-, a',c',rfl,hN⟩)
  ·exact absurd hm0 hne
  refine zR ?_;refine⟨⟨D.ua,D.un,D.uc,D.la,D.ln,D.lc,a',D.kn+1,c'⟩,ms,rfl,Mem.le_trans hle1 hN.le,?_,by dsimp only;omega⟩;rw[if_pos rfl];exact⟨h1.used.le hN.le,h1.row.le hN.le,h1.msgs,hN.src,by dsimp only;omega⟩
end
section
variable {M:Mem} {S:StR} {L:List K} {D:zgi} {ms:List MX}
theorem zi4 (n most:Int):CallsM Tryz.prog F.zd0 [.int .i64 n,.int .i64 most] M fun v M'=>v = .bool (decide (0≤n∧n≤most))∧M=M':=by
 refine zq7 (by simp) ?_;(conv=>whnf);refine brn (fun h=>?_) (fun h=>?_)
 all_goals (conv=>whnf)
 ·exact⟨by have:=Zd0 h;simp_all,rfl⟩
 ·exact⟨by have:=Zd1 h;simp_all;omega,rfl⟩
theorem ztu (self qh qb qg:Int):CallsM Tryz.prog F.zhL [.int .i64 self,.agg #[.int .i64 qh,.int .i64 qb,.int .i64 qg]] M fun v M'=>
  (zbr self qh qb qg∧v = .tuple #[zhH ⟨0,0,0,0,0,[],[]⟩ ⟨none,0,0,none,0,0,none,0,0⟩,.int .i64 1]∧M=M') ∨
  (¬zbr self qh qb qg∧v = .tuple #[zhH (zfp self qh qb qg) ⟨none,0,0,none,0,0,none,0,0⟩,.int .i64 0]∧M=M'):=by
 refine zu8 (by simp) ?_;refine zR ?_;refine(zi4 _ _).mono ?_;rintro v _ ⟨rfl,rfl⟩;(conv=>whnf);refine brn (fun g=>?_) (fun g=>?_)
 ·(conv=>whnf);refine zR ?_;exact .inl ⟨by unfold zbr;simp only[Bool.not_eq_true',decide_eq_false_iff_not] at *; omega,rfl,rfl⟩
 (conv=>whnf);refine(zi4 _ _).mono ?_;rintro v _ ⟨rfl,rfl⟩;(conv=>whnf);refine brn (fun g1=>?_) (fun g1=>?_)
 ·(conv=>whnf);refine zR ?_;exact .inl ⟨by unfold zbr;simp only[Bool.not_eq_true',decide_eq_false_iff_not] at *; omega,rfl,rfl⟩
 (conv=>whnf);refine(zi4 _ _).mono ?_;rintro v _ ⟨rfl,rfl⟩;(conv=>whnf);refine brn (fun g2=>?_) (fun g2=>?_)
 ·(conv=>whnf);refine zR ?_;exact .inl ⟨by unfold zbr;simp only[Bool.not_eq_true',decide_eq_false_iff_not] at *; omega,rfl,rfl⟩
 (conv=>whnf);refine(zi4 _ _).mono ?_;rintro v _ ⟨rfl,rfl⟩;(conv=>whnf);refine brn (fun g3=>?_) (fun g3=>?_)
 ·(conv=>whnf);refine zR ?_;exact .inl ⟨by unfold zbr;simp only[Bool.not_eq_true',decide_eq_false_iff_not] at *; omega,rfl,rfl⟩
 have hn:¬zbr self qh qb qg:=by
  unfold zbr;simp only[Bool.not_eq_false',decide_eq_true_eq] at *;omega
 refine zR ?_;exact .inr ⟨hn,rfl,rfl⟩
theorem DocAt.new (M:Mem) (self qh qb qg:Int):DocAt M (zfp self qh qb qg) [] ⟨none,0,0,none,0,0,none,0,0⟩ []:=
 ⟨by show SrcOk M 2 none 0 ((zG (List.replicate 64 0)).flatMap zeJ);rw[zmr];exact SrcOk.nil _ _,⟨SrcOk.nil _ _,by simp⟩,rfl,SrcOk.nil _ _,by simp⟩
end
section
variable {M M0:Mem} {p b sp sb:Nat} {S:StR} {came:Int} {xs:HsT} {es:EsT}
theorem StAt.some (h:StAt M p b sp sb S came xs es) (hE:InvE es) (hg:(zaI es:Int)≤S.qg∧S.qg≤256) {y:Nat} (hy:stB p b sp sb xs es y):M y≠none:=by
 rcases hy with rfl|rfl|⟨q,hq,hy⟩|hy
 ·have:=h.self;unfold Mem.has at this;rw[this];simp
 ·obtain⟨l,c,hh,_⟩:=h.map;rw[hh];simp
 ·obtain⟨cs,hc⟩:=h.dhas hq hy;unfold Mem.has at hc;rw[hc];simp
 ·have hF:FreshS (M.minus (setB sp sb es)) M sp sb S.qg es:=⟨Mem.minus_le _ _,h.set,hE,hg,fun _ hy=>Mem.minus_in hy⟩
  exact hF.some hy
theorem FreshSt.some (h:FreshSt M0 M p b sp sb S came xs es) {y:Nat} (hy:stB p b sp sb xs es y):M y≠none:=h.at'.some h.invE h.room hy
theorem FreshSt.base (h:FreshSt M0 M p b sp sb S came xs es):FreshSt (M.minus (stB p b sp sb xs es)) M p b sp sb S came xs es∧M0.le (M.minus (stB p b sp sb xs es)):=
 ⟨⟨Mem.minus_le _ _,h.at',h.inv,h.invE,h.room,fun _ hy=>Mem.minus_in hy⟩,Mem.le_minus h.le h.fresh⟩
structure EvX where
 kind:Int
 id:IdT
 p:List UInt8
end
section
variable {M B:Mem} {p b sp sb:Nat} {S:StR} {came:Int} {xs:HsT} {es:EsT} {L:List K} {D:zgi} {ms:List MX}
structure zFt (B M:Mem) (p b sp sb:Nat) (S:StR) (came:Int) (xs:HsT) (es:EsT) (L:List K) (D:zgi) (ms:List MX):Prop where
 own:FreshSt B M p b sp sb S came xs es
 doc:DocAt B S L D ms
 rel:RelS es L
@[reducible] def zEJ (S:StR) (D:zgi):List SC:=[.v (.int .i64 S.self),.v (.int .i64 S.qh),.v (.int .i64 S.qb),.v (.int .i64 S.qg),.v (.int .i64 S.epoch),.v (.slice D.ua D.un D.uc),.v (.slice D.la D.ln D.lc),.v (.int .i64 S.qg),.v (.slice D.ka D.kn D.kc)]
structure StB where
 i:Nat
 mem:Mem
 B:Mem
 S:StR
 came:Int
 xs:HsT
 es:EsT
 L:List K
 D:zgi
 ms:List MX
def zEK (Q:StR→EsT→Prop):Prop:=∀ (S:StR) (es es':EsT) (k:Int) (i:IdT) (p:List UInt8),zeh S→InvE es→Q S es →
 (if zag S (zcV S es) k i p.length=0∧k=4 then zuP S.qg es es' i.o i.d i.e i.c else es'=es)→Q (if zag S (zcV S es) k i p.length=0 then zJ S k i p else S) es'
end
section
variable {M M0:Mem} {p b sp sb:Nat} {S:StR} {came:Int} {xs:HsT} {es:EsT}
@[reducible] def zqv (x:PX):List Value:=[.int .i64 x.id.o,.int .i64 x.id.d,.int .i64 x.id.e,.int .i64 x.id.c,.slice x.a x.p.length x.c,.int .i64 x.n]
theorem zmt (x:PX):(zqv x).length=6:=rfl
theorem zBT (x:PX):∀ v∈zqv x,v.oneCell'=true:=by
 intro v hv;simp only[zqv,List.mem_cons,List.not_mem_nil,or_false] at hv;rcases hv with rfl|rfl|rfl|rfl|rfl|rfl<;>rfl
structure PB where
 x:PX
 h:0≤x.n∧x.n≤4611686018427387904
instance:Inhabited PB:=⟨⟨⟨⟨0,0,0,0⟩,none,0,[],0⟩,by simp⟩⟩
def zwp (x:PB):List Value:=zqv x.x
def zsY (x y:PB):Int:=x.x.n - y.x.n
theorem zDg (x y:PB):CallsM Tryz.prog F.zdO [.agg (zwp x).toArray,.agg (zwp y).toArray] M fun v _=>v = .int .i64 (zsY x y):=by
 obtain⟨x,hx⟩:=x;obtain⟨y,hy⟩:=y;unfold zwp zsY;refine zly (by simp) ?_;(conv=>whnf);refine ob (zd (by first|omega|(dsimp only;omega))) ?_;(conv=>whnf)
theorem zBU:Go.Sort.SWO (Go.Proofs.ltOf zsY):=by
 have h:∀ x y:PB,Go.Proofs.ltOf zsY x y=decide (x.x.n<y.x.n):=fun x y=>by
  unfold Go.Proofs.ltOf zsY;rw[decide_eq_decide];omega
 refine⟨fun x=>?_,fun x y z=>?_,fun x y z=>?_⟩<;>simp only[h,decide_eq_true_eq,decide_eq_false_iff_not]<;>omega
theorem zpr:∀ {l l':List PX},l.Perm l'→l.Pairwise (fun x y=>x.n<y.n)→l'.Pairwise (fun x y=>x.n≤y.n)→l=l'
 | [],l',hp,_,_=>(List.nil_perm.1 hp).symm
 | x::r,l',hp,h1,h2=>by
  cases l' with
  | nil=>exact absurd hp.length_eq (by simp)
  | cons y r'=>
   have hxy:x=y:=by
    rcases List.mem_cons.1 (hp.mem_iff.1 (by simp:x∈x::r)) with e|e
    ·exact e
    ·rcases List.mem_cons.1 (hp.mem_iff.2 (by simp:y∈y::r')) with e'|e'
     ·exact e'.symm
     ·have g1:=(List.pairwise_cons.1 h1).1 y e';have g2:=(List.pairwise_cons.1 h2).1 x e
      omega
   subst hxy;rw[zpr (List.Perm.cons_inv hp) (List.pairwise_cons.1 h1).2 (List.pairwise_cons.1 h2).2]
theorem zCu:∀ (l:List PX),(∀ x∈l,0≤x.n∧x.n≤4611686018427387904)→∃ l':List PB,l'.map PB.x=l
 | [],_=>⟨[],rfl⟩
 | x::r,h=>by
  obtain⟨r',hr⟩:=zCu r fun y hy=>h y (by simp[hy])
  exact⟨⟨x,h x (by simp)⟩::r',by simp[hr]⟩
theorem ztv (l:List PB):l.flatMap zwp=(l.map PB.x).flatMap zqv:=by
 rw[List.flatMap_map];rfl
structure HeldAt (M0:Mem) (a:Option Addr) (n c:Nat) (ms:List MX) (M':Mem):Prop where
 row:NewSl M0 T.zdz 5 a n c (ms.flatMap zli) M'
 data:∀ m∈ms,NewSl M0 T.zn 1 m.a m.p.length m.c (m.p.map zl) M'
 apart:ms.Pairwise fun x y=>∀ z,z6 x.a z→¬z6 y.a z
theorem HeldAt.msgs {a:Option Addr} {n c:Nat} {ms:List MX} {M':Mem} (h:HeldAt M0 a n c ms M'):MsgsR M' a n ms:=⟨h.row.src,fun m hm=>(h.data m hm).src⟩
theorem HeldAt.up {a:Option Addr} {n c:Nat} {ms:List MX} {M' M2:Mem} (h:HeldAt M0 a n c ms M') (hle:M'.le M2):HeldAt M0 a n c ms M2:=⟨h.row.up hle,fun m hm=>(h.data m hm).up hle,h.apart⟩
theorem HeldAt.len {a:Option Addr} {n c:Nat} {ms:List MX} {M':Mem} (h:HeldAt M0 a n c ms M'):ms.length=n:=h.row.src.flen ze9 (by decide)
@[reducible] def zEh (x:PX) (a:Option Addr) (c:Nat):MX:=⟨x.id,a,c,x.p⟩
theorem zx9 (h:FreshSt M0 M p b sp sb S came xs es) (hcm:came≤4611686018427387904):CallsM Tryz.prog F.zer [ptr p] M fun v M'=>
  ∃ a n c ms,v = .slice a n c∧HeldAt M a n c ms M'∧ms.map MX.msg=S.l:=by
 refine zmZ (by simp) ?_;have hA:=h.at'
 have hI:=h.inv;have hqh:=hI.qh
 have hxl:xs.length=S.l.length:=by rw[←hA.held,List.length_map]
 have hpl:∀ q∈xs,q.2.p.length≤48:=fun q hq=>by
  have hm:q.2.msg∈S.l:=by rw[←hA.held];exact List.mem_map.2 ⟨q,hq,rfl⟩
  exact(za8 (hI.msgs _ hm).1).2.2
 (conv=>whnf);refine brn_f rfl ?_;(conv=>whnf);refine on (hA.self.c1 (ze8 hI.ulen ..)) ?_;(conv=>whnf)
 refine hA.map.range fun q bi hbi hIt=>?_
 replace hbi:M bi=none:=hbi;(conv=>whnf)
 refine za6 (σ:=Mem×(Option Addr×Nat×Nat)×List PX×HsT) [3] (fun x=>[(3,.slice x.2.1.1 x.2.1.2.1 x.2.1.2.2)]) (fun _=>[]) (fun x=>x.1)
  (fun|⟨M1,(a,n,c),l,todo⟩=>NewSl M T.zmJ 6 a n c (l.flatMap zqv) M1∧Iter idA pxV M1 bi b xs todo∧(l++todo.map (·.2)).Perm (xs.map (·.2))) (fun x=>x.2.2.2.length) ⟨_,(none,0,0),[],xs⟩
  ⟨(NewSl.none M _ _).up (Mem.le_upd hbi),hIt,.refl _⟩ zS ?_
 rintro ⟨M1,⟨a,n,c⟩,l,todo⟩ ⟨hN,hI1,hperm⟩;(conv=>whnf)
 refine hI1.next (fun h0=>?_) (fun i k todo' o' hperm2 hI2 hent=>?_)
 ·subst h0;simp only[List.map_nil,List.append_nil] at hperm;have hll:l.length=n:=hN.src.flen zmt (by decide)
  have hbl:∀ x∈l,0≤x.n∧x.n≤4611686018427387904:=fun x hx=>by
   obtain⟨q,hq,rfl⟩:=List.mem_map.1 (hperm.mem_iff.1 hx);have:=hA.came.2 q hq
   omega
  obtain⟨lb,rfl⟩:=zCu l hbl;rw[←ztv] at hN;have hnx:n=xs.length:=by have:=hperm.length_eq;simp at this hll;omega
  refine zR ?_;refine(zv9 Tryz.laysP (by kernel_rfl) (enc:=zwp) (k:=6) (by decide) Tryz.isAgg175 Tryz.sizeOf175 (fun x:PB=>zmt x.x) (fun x:PB=>zBT x.x) zBU (g:=F.zdO) (fun args w=>ziD (by kernel_rfl) args w) (fun x y=>zDg x y) hN.wr (by omega)).mono ?_;rintro v M5 ⟨rfl,l',hp',hs',hw',hk'⟩;have hN5:=hN.ofWr hw' hk' rfl
  rw[ztv] at hN5
  have hl':l'.map PB.x=xs.map (·.2):=by
   refine(zpr ((hp'.map PB.x).trans hperm).symm ?_ ?_).symm
   ·rw[List.pairwise_map];exact hA.ord
   ·rw[List.pairwise_map];refine hs'.imp fun {x y} hxy=>?_
    unfold zsY at hxy;omega
  rw[hl'] at hN5;have hle5:M.le M5:=hN5.le
  (conv=>whnf)
  refine za6 (σ:=Nat×Mem×(Option Addr×Nat)×List MX) [28,6] (fun x=>[(28,.int .i64 x.1),(6,.slice x.2.2.1.1 x.2.2.2.length x.2.2.1.2)]) (fun _=>[]) (fun x=>x.2.1)
   (fun|⟨j,M6,(a6,c6),ms⟩=>j≤n∧HeldAt M5 a6 ms.length c6 ms M6∧ms.map MX.msg=(xs.take j).map (fun q=>q.2.msg)) (fun x=>n - x.1) ⟨0,M5,(none,0),[]⟩
   ⟨by omega,⟨NewSl.none M5 _ _,by simp,by simp⟩,by simp⟩ zS ?_
  rintro ⟨j,M6,⟨a6,c6⟩,ms⟩ ⟨hj,hH,hms⟩;have hle6:=hH.row.le
  have hmsl:ms.length=j:=by have:=congrArg List.length hms;simp at this;omega
  (conv=>whnf);refine brn (fun g=>?_) (fun g=>?_)
  rotate_left
  ·have hge:n≤j:=by have:=Zd1 g;dsimp only at this;omega
   rw[List.take_of_length_le (by omega),hA.held] at hms;refine zR ?_;exact⟨a6,_,c6,ms,rfl,⟨hH.row.mono hle5,fun m hm=>(hH.data m hm).mono hle5,hH.apart⟩,hms⟩
  have hlt:j<n:=by have:=Zd0 g;dsimp only at this;omega
  have hjx:j<xs.length:=by omega
  have hx:(xs.map (·.2))[j]? = some xs[j].2:=by rw[List.getElem?_map,List.getElem?_eq_getElem hjx];rfl
  obtain⟨b1,o1,ha,hcc⟩:=hN5.src.fparts zmt (by decide) hx;have htk:xs.take (j+1)=xs.take j++[xs[j]]:=by rw[List.take_add_one,List.getElem?_eq_getElem hjx];rfl
  have hmem:xs[j]∈xs:=List.getElem_mem _;generalize xs[j]=q at *;have hd6:=(hA.data q hmem).src.le (Mem.le_trans hle5 hle6)
  have hq48:=hpl q hmem;(conv=>whnf);refine ob (by first|omega|(dsimp only;omega)) ?_;(conv=>whnf);refine atp ha ?_;(conv=>whnf);refine on (Mem.row_le hle6 (hcc 0 6 (by decide))) ?_;refine zR ?_;refine new (fun b9 hb9=>?_);replace hb9:M6 b9=none:=hb9;have hN7:NewSl M6 T.zn 1 (some ⟨b9,0,none⟩) 0 0 (([]:List UInt8).map zl) _:=NewSl.lit hb9 T.zn 1 0 [] rfl
  obtain⟨M7,hM7⟩:∃ M7,M7=M6.setCells b9 T.zn []:=⟨_,rfl⟩
  rw[←hM7] at hN7;(conv=>whnf)
  erw [←hM7];refine zR ?_;refine zdR (hd6.le hN7.le) ?_;(conv=>whnf);refine ze6 M6 _ hN7 (by first|omega|(dsimp only;omega)) (by simp[maxLen]<;>omega) (zco _) fun a8 c8 M8 hN8=>?_
  rw[Nat.zero_add q.2.p.length] at hN8;rw[Nat.zero_add q.2.p.length];have hH8:=hH.up hN8.le
  refine zT (hN8.le) ?_;refine zR ?_;refine zdS M5 hH8.row (zEh q.2 a8 c8) rfl (by first|omega|(dsimp only;omega)) (by simp[maxLen];omega) (by simp[Value.oneCell']) fun a9 c9 M9 hN9 hk9=>?_
  have hfr:∀ y,z6 a6 y→M5 y=none:=fun y ⟨q,hq,e⟩=>e▸(hH8.row.block hq).1
  have hnew:NewSl M5 T.zn 1 a8 q.2.p.length c8 (q.2.p.map zl) M8:=hN8.mono hle6;refine zR ?_;refine ob (zd (by first|omega|(dsimp only;omega))) ?_;(conv=>whnf)
  refine⟨⟨j+1,M9,(a9,c9),ms++[zEh q.2 a8 c8]⟩,⟨by omega,⟨by simpa using hN9,fun m hm=>?_,?_⟩,?_⟩,by dsimp only;omega,?_⟩
  ·rcases List.mem_append.1 hm with hm|hm
   ·exact(hH8.data m hm).keep hk9 hfr fun q hq ⟨q',hq',e⟩=>hH8.row.ne (hH8.data m hm) (by decide) hq' hq e
   ·simp only[List.mem_singleton] at hm;subst hm;exact hnew.keep hk9 hfr fun q hq ⟨q',hq',e⟩=>hH8.row.ne hnew (by decide) hq' hq e
  ·rw[List.pairwise_append];refine⟨hH.apart,by simp,fun m hm y hy z hz hz'=>?_⟩;simp only[List.mem_singleton] at hy;subst hy;obtain⟨q1,hq1,e1⟩:=hz;obtain⟨q2,hq2,e2⟩:=hz';obtain⟨_,cs,hh⟩:=(hH.data m hm).block hq1;have h0:=(hN8.block hq2).1
   unfold Mem.has at hh;rw[e2,←e1,hh] at h0;cases h0
  ·rw[List.map_append,hms,htk,List.map_append];rfl
  ·simp only[List.length_append,List.length_cons,List.length_nil];exact zS
 ·have hk2:Mem.keep (fun y=>y=bi) M1 (M1.upd bi o'):=Mem.keep_upd _ _ rfl
  have hN2:NewSl M T.zmJ 6 a n c (l.flatMap zqv) (M1.upd bi o'):=hN.keep hk2 (fun y e=>e▸hbi) (fun q hq e=>by
   obtain⟨_,cs,hh⟩:=hN.block hq
   exact(hI1.nb hh).1 e)
  obtain⟨M2,hM2⟩:∃ M2,M2=M1.upd bi o':=⟨_,rfl⟩
  rw[←hM2] at hI2 hent hN2;have hlt:l.length<xs.length:=by have:=hperm.length_eq;have:=hperm2.length_eq;simp at *; omega
  have hll:l.length=n:=hN2.src.flen zmt (by decide);(conv=>whnf)
  erw [←hM2];refine zR ?_;refine on hent ?_;refine zR ?_;refine zdS M hN2 k (by simp) (by first|omega|(dsimp only;omega)) (by simp[maxLen];omega) (by simp[Value.oneCell']) fun a6 c6 M6 hN6 hk6=>?_
  have hnb:∀ y,z6 a y→y≠bi∧y≠b:=fun y ⟨q,hq,e⟩=>by
   obtain⟨_,cs,hh⟩:=hN2.block hq;exact e▸hI2.nb hh
  have hI6:=hI2.keep hk6 (fun hb=>(hnb _ hb).1 rfl) (fun hb=>(hnb _ hb).2 rfl);(conv=>whnf)
  refine⟨⟨M6,(a6,n+1,c6),l++[k],todo'⟩,⟨hN6,hI6,?_⟩,by have:=hperm2.length_eq;simp at this ⊢; omega,zS⟩;refine List.Perm.trans ?_ hperm;rw[List.append_assoc];refine List.Perm.append_left _ ?_;have:=hperm2.map (·.2)
  simpa using this.symm
end
section
variable {M M0:Mem} {p b sp sb:Nat} {S:StR} {came:Int} {xs:HsT} {es:EsT}
@[reducible] def zzr (c:Nat→Int):List Value:=[.int .i64 (c 0),.int .i64 (c 1),.int .i64 (c 2),.int .i64 (c 3),.int .i64 (c 4),.int .i64 (c 5),.int .i64 (c 6),.int .i64 (c 7),.int .i64 (c 8),.int .i64 (c 9),.int .i64 (c 10),.int .i64 (c 11),.int .i64 (c 12),.int .i64 (c 13),.int .i64 (c 14),.int .i64 (c 15),.int .i64 (c 16),.int .i64 (c 17),.int .i64 (c 18),.int .i64 (c 19),.int .i64 (c 20),.int .i64 (c 21),.int .i64 (c 22),.int .i64 (c 23),.int .i64 (c 24),.int .i64 (c 25),.int .i64 (c 26),.int .i64 (c 27),.int .i64 (c 28),.int .i64 (c 29),.int .i64 (c 30),.int .i64 (c 31),.int .i64 (c 32),.int .i64 (c 33),.int .i64 (c 34),.int .i64 (c 35),.int .i64 (c 36),.int .i64 (c 37),.int .i64 (c 38),.int .i64 (c 39),.int .i64 (c 40),.int .i64 (c 41),.int .i64 (c 42),.int .i64 (c 43),.int .i64 (c 44),.int .i64 (c 45),.int .i64 (c 46),.int .i64 (c 47),.int .i64 (c 48),.int .i64 (c 49),.int .i64 (c 50),.int .i64 (c 51),.int .i64 (c 52),.int .i64 (c 53),.int .i64 (c 54),.int .i64 (c 55),.int .i64 (c 56),.int .i64 (c 57),.int .i64 (c 58),.int .i64 (c 59),.int .i64 (c 60),.int .i64 (c 61),.int .i64 (c 62),.int .i64 (c 63)]
@[reducible] def zzs (c:Nat→Int):List SC:=[.v (.int .i64 (c 0)),.v (.int .i64 (c 1)),.v (.int .i64 (c 2)),.v (.int .i64 (c 3)),.v (.int .i64 (c 4)),.v (.int .i64 (c 5)),.v (.int .i64 (c 6)),.v (.int .i64 (c 7)),.v (.int .i64 (c 8)),.v (.int .i64 (c 9)),.v (.int .i64 (c 10)),.v (.int .i64 (c 11)),.v (.int .i64 (c 12)),.v (.int .i64 (c 13)),.v (.int .i64 (c 14)),.v (.int .i64 (c 15)),.v (.int .i64 (c 16)),.v (.int .i64 (c 17)),.v (.int .i64 (c 18)),.v (.int .i64 (c 19)),.v (.int .i64 (c 20)),.v (.int .i64 (c 21)),.v (.int .i64 (c 22)),.v (.int .i64 (c 23)),.v (.int .i64 (c 24)),.v (.int .i64 (c 25)),.v (.int .i64 (c 26)),.v (.int .i64 (c 27)),.v (.int .i64 (c 28)),.v (.int .i64 (c 29)),.v (.int .i64 (c 30)),.v (.int .i64 (c 31)),.v (.int .i64 (c 32)),.v (.int .i64 (c 33)),.v (.int .i64 (c 34)),.v (.int .i64 (c 35)),.v (.int .i64 (c 36)),.v (.int .i64 (c 37)),.v (.int .i64 (c 38)),.v (.int .i64 (c 39)),.v (.int .i64 (c 40)),.v (.int .i64 (c 41)),.v (.int .i64 (c 42)),.v (.int .i64 (c 43)),.v (.int .i64 (c 44)),.v (.int .i64 (c 45)),.v (.int .i64 (c 46)),.v (.int .i64 (c 47)),.v (.int .i64 (c 48)),.v (.int .i64 (c 49)),.v (.int .i64 (c 50)),.v (.int .i64 (c 51)),.v (.int .i64 (c 52)),.v (.int .i64 (c 53)),.v (.int .i64 (c 54)),.v (.int .i64 (c 55)),.v (.int .i64 (c 56)),.v (.int .i64 (c 57)),.v (.int .i64 (c 58)),.v (.int .i64 (c 59)),.v (.int .i64 (c 60)),.v (.int .i64 (c 61)),.v (.int .i64 (c 62)),.v (.int .i64 (c 63))]
theorem zDh (c:Nat→Int):zzr c=(List.range 64).map (fun i=>Value.int .i64 (c i)):=rfl
theorem zDi (c:Nat→Int):zzs c=(List.range 64).map (fun i=>SC.v (.int .i64 (c i))):=rfl
theorem zwq (c:Nat→Int) {i:Nat} (hi:i<64):zkn (zzs c) (i*1) 1=some [.v (.int .i64 (c i))]:=by
 have hl:(zzs c).length=64:=rfl;unfold zkn;rw[if_pos (by rw[hl];omega),zDi];rw[List.drop_eq_getElem_cons (by simp;omega)];simp
theorem zAK {u:List Int} (h:u.length=64):u.map zaa=zzr (fun i=>u.getD i 0):=by
 rw[zDh];apply List.ext_getElem (by simp[h]);intro i h1 h2;simp only[List.getElem_map,List.getElem_range,zaa];congr 1;rw[List.getD_eq_getElem?_getD,List.getElem?_eq_getElem (by simpa using h1)];rfl
theorem zmu (hA:StAt M p b sp sb S came xs es) (hI:zeh S):M.row p 5 64=some (zzr (fun i=>S.used.getD i 0)):=by
 rw[hA.self.row (by rw[zcU hI.ulen];omega),←zAK hI.ulen];congr 1;unfold zH;rw[List.append_assoc,List.drop_append];simp[hI.ulen]
theorem zi5:∀ (u:List Int) (k j:Nat),j<u.length→zaB k (u.take (j+1))=zaB k (u.take j)++(if 0<u.getD j 0 then [(((k+j:Nat):Int),u.getD j 0)] else [])
 | [],_,_,h=>by simp at h
 | n::r,k,0,_=>by
  simp only[Nat.zero_add,List.take_succ_cons,List.take_zero,List.getD_cons_zero,Nat.add_zero];unfold zaB;split<;>simp[zaB]
 | n::r,k,j+1,h=>by
  have ih:=zi5 r (k+1) j (by simpa using h);have e1:∀ t,zaB k (n::t)=if 0<n then ((k:Int),n)::zaB (k+1) t else zaB (k+1) t:=fun _=>rfl
  rw[List.take_succ_cons,List.take_succ_cons,e1,e1,ih,List.getD_cons_succ,show k+1+j=k+(j+1) by omega];split
  ·rw[List.cons_append]
  ·rfl
@[reducible] def zAL (S:StR) (ua:Option Addr) (uc:Nat) (ha:Option Addr) (ms:List MX) (hc:Nat) (ma:Option Addr) (mk:List MkC) (mc:Nat):Value := .agg #[.int .i64 S.self,.int .i64 S.epoch,.slice ua (zG S.used).length uc,.slice ha ms.length hc,.slice ma mk.length mc]
def zBV (S:StR) (es:EsT) (M:Mem) (v:Value) (M':Mem):Prop:=∃ ua uc ha hc ms ma mc mk,v=zAL S ua uc ha ms hc ma mk mc∧M.le M'∧NewSl M T.zbM 2 ua (zG S.used).length uc ((zG S.used).flatMap zeJ) M'∧HeldAt M ha ms.length hc ms M'∧ms.map MX.msg=S.l ∧
 MarksAt M ma mk.length mc mk M'∧(mk.map MkC.mk').Perm (es.map zbe)∧Canon (inE es) (mk.map MkC.mk')
theorem MarksAt.up {a:Option Addr} {n c:Nat} {l:List MkC} {M' M2:Mem} (h:MarksAt M0 a n c l M') (hle:M'.le M2):MarksAt M0 a n c l M2:=⟨h.row.up hle,fun m hm=>(h.more m hm).up hle⟩
theorem MarksAt.mono' {a:Option Addr} {n c:Nat} {l:List MkC} {M':Mem} (h:MarksAt M a n c l M') (hle:M0.le M):MarksAt M0 a n c l M':=⟨h.row.mono hle,fun m hm=>(h.more m hm).mono hle⟩
theorem zBW (h:FreshSt M0 M p b sp sb S came xs es) (hcm:came≤4611686018427387904) (hes:es.length≤4194000):CallsM Tryz.prog F.zde [ptr p] M (zBV S es M):=by
 refine zl0 (by simp) ?_;have hI:=h.inv
 have hA0:=h.at';(conv=>whnf);refine brn_f rfl ?_
 repeat' ((conv=>whnf);first|refine⟨?_,True.intro⟩|refine⟨?_,?_,True.intro⟩|refine brn_t rfl ?_|refine brn_f rfl ?_|refine ob rfl ?_|refine ob (by decide) ?_|refine grow_same (Mem.le_refl _) ?_|refine ob (Mem.le_refl _) ?_|refine⟨_,Mem.le_refl _,?_⟩|fail)
 refine on (hA0.self.c1 rfl) ?_
 repeat' ((conv=>whnf);first|refine⟨?_,True.intro⟩|refine⟨?_,?_,True.intro⟩|refine brn_t rfl ?_|refine brn_f rfl ?_|refine ob rfl ?_|refine ob (by decide) ?_|refine grow_same (Mem.le_refl _) ?_|refine ob (Mem.le_refl _) ?_|refine⟨_,Mem.le_refl _,?_⟩|fail)
 refine on (hA0.self.c1 rfl) ?_
 repeat' ((conv=>whnf);first|refine⟨?_,True.intro⟩|refine⟨?_,?_,True.intro⟩|refine brn_t rfl ?_|refine brn_f rfl ?_|refine ob rfl ?_|refine ob (by decide) ?_|refine grow_same (Mem.le_refl _) ?_|refine ob (Mem.le_refl _) ?_|refine⟨_,Mem.le_refl _,?_⟩|fail)
 refine on (hA0.self.c1 (zmo hI.ulen ..)) ?_
 repeat' ((conv=>whnf);first|refine⟨?_,True.intro⟩|refine⟨?_,?_,True.intro⟩|refine brn_t rfl ?_|refine brn_f rfl ?_|refine ob rfl ?_|refine ob (by decide) ?_|refine grow_same (Mem.le_refl _) ?_|refine ob (Mem.le_refl _) ?_|refine⟨_,Mem.le_refl _,?_⟩|fail)
 ·(conv=>whnf);refine(zx9 h hcm).mono ?_;rintro v M4 ⟨ha,hn,hc,ms,rfl,hH0,hmsg⟩;have h4:=h.to hH0.row.le
  refine zT (hH0.row.le) ?_
  repeat' ((conv=>whnf);first|refine⟨?_,True.intro⟩|refine⟨?_,?_,True.intro⟩|refine brn_t rfl ?_|refine brn_f rfl ?_|refine ob rfl ?_|refine ob (by decide) ?_|refine grow_same (Mem.le_refl _) ?_|refine ob (Mem.le_refl _) ?_|refine⟨_,Mem.le_refl _,?_⟩|fail)
  ·(conv=>whnf);refine(zqr h4.at'.set (by have:=h.room;omega) hes).mono ?_;rintro v M5 ⟨ma,mn,mc,mk,rfl,hMk0,hp,hs⟩;have h5:=h4.to hMk0.row.le
   have hHe:=hH0.up hMk0.row.le;have hMk:=hMk0.mono' hH0.row.le
   have hleM:=hHe.row.le;refine zT (hleM) ?_;refine zR ?_;have hrow:=zmu h5.at' hI
   refine on hrow ?_;(conv=>whnf)
   refine za6 (σ:=Nat×Mem×(Option Addr×Nat)) [29] (fun x=>[(29,.int .i64 x.1)]) (fun x=>[.live T.zaP [.v (.int .i64 0),.v (.int .i64 0),.v (.slice none 0 0),.v (.slice none 0 0),.v (.slice none 0 0)],.live T.zaP [.v (.int .i64 S.self),.v (.int .i64 S.epoch),.v (.slice x.2.2.1 (zG (S.used.take x.1)).length x.2.2.2),.v (.slice ha hn hc),.v (.slice ma mn mc)]]) (fun x=>x.2.1)
    (fun|⟨j,M6,(a6,c6)⟩=>j≤64∧NewSl M5 T.zbM 2 a6 (zG (S.used.take j)).length c6 ((zG (S.used.take j)).flatMap zeJ) M6) (fun x=>64 - x.1) ⟨0,M5,(none,0)⟩ ⟨by omega,NewSl.none M5 _ _⟩ zS ?_
   rintro ⟨j,M6,⟨a6,c6⟩⟩ ⟨hj,hN6⟩;have hul:(zG (S.used.take j)).length≤(S.used.take j).length:=zc5 _ 0
   have huj:(S.used.take j).length≤64:=by simp;omega
   (conv=>whnf);refine brn (fun g=>?_) (fun g=>?_)
   rotate_left
   ·have hge:64≤j:=by have:=Zd1 g;dsimp only at this;omega
    rw[List.take_of_length_le (by rw[hI.ulen];omega)] at hN6 ⊢;refine zR ?_;have hl1:=hHe.len
    have hl2:=hMk.len;subst hl1;subst hl2;exact⟨a6,c6,ha,hc,ms,ma,mc,mk,rfl,Mem.le_trans hleM hN6.le,hN6.mono hleM,hHe.up hN6.le,hmsg,hMk.up hN6.le,hp,zhS h.invE hp hs⟩
   have hlt:j<64:=by have:=Zd0 g;dsimp only at this;omega
   have hnx:zG (S.used.take (j+1))=zG (S.used.take j)++(if 0<S.used.getD j 0 then [((j:Int),S.used.getD j 0)] else []):=by
    have:=zi5 S.used 0 j (by rw[hI.ulen];omega);rw[Nat.zero_add] at this;exact this
   (conv=>whnf);refine ob (by first|omega|(dsimp only;omega)) ?_;(conv=>whnf);refine on (zwq (fun i=>S.used.getD i 0) hlt) ?_;(conv=>whnf);refine brn (fun g1=>?_) (fun g1=>?_)
   ·have h1:0<S.used.getD j 0:=by simpa using g1
    rw[if_pos h1] at hnx;refine zR ?_;refine zdS M5 hN6 ((j:Int),S.used.getD j 0) rfl (by first|omega|(dsimp only;omega)) (by simp[maxLen];omega) (by simp[Value.oneCell']) fun a7 c7 M7 hN7 _=>?_
    (conv=>whnf);refine ob (zd (by first|omega|(dsimp only;omega))) ?_;(conv=>whnf)
    rw[←hnx] at hN7;have hl7:(zG (S.used.take (j+1))).length=(zG (S.used.take j)).length+1:=by rw[hnx];simp
    rw[←hl7] at hN7;refine⟨⟨j+1,M7,(a7,c7)⟩,⟨by omega,hN7⟩,by dsimp only;omega,?_⟩;dsimp only;rw[hl7];exact zS
   ·have h1:¬0<S.used.getD j 0:=by simpa using g1
    rw[if_neg h1,List.append_nil] at hnx;(conv=>whnf);refine ob (zd (by first|omega|(dsimp only;omega))) ?_;(conv=>whnf)
    refine⟨⟨j+1,M6,(a6,c6)⟩,⟨by omega,by rw[hnx];exact hN6⟩,by dsimp only;omega,?_⟩;dsimp only;rw[hnx];exact zS
  ·(conv=>whnf);refine(zqr h4.at'.set (by have:=h.room;omega) hes).mono ?_;rintro v M5 ⟨ma,mn,mc,mk,rfl,hMk0,hp,hs⟩;have h5:=h4.to hMk0.row.le
   have hHe:=hH0.up hMk0.row.le;have hMk:=hMk0.mono' hH0.row.le
   have hleM:=hHe.row.le;refine zT (hleM) ?_;refine zR ?_;have hrow:=zmu h5.at' hI
   refine on hrow ?_;(conv=>whnf)
   refine za6 (σ:=Nat×Mem×(Option Addr×Nat)) [29] (fun x=>[(29,.int .i64 x.1)]) (fun x=>[.live T.zaP [.v (.int .i64 0),.v (.int .i64 0),.v (.slice none 0 0),.v (.slice none 0 0),.v (.slice none 0 0)],.live T.zaP [.v (.int .i64 S.self),.v (.int .i64 S.epoch),.v (.slice x.2.2.1 (zG (S.used.take x.1)).length x.2.2.2),.v (.slice ha hn hc),.v (.slice ma mn mc)]]) (fun x=>x.2.1)
    (fun|⟨j,M6,(a6,c6)⟩=>j≤64∧NewSl M5 T.zbM 2 a6 (zG (S.used.take j)).length c6 ((zG (S.used.take j)).flatMap zeJ) M6) (fun x=>64 - x.1) ⟨0,M5,(none,0)⟩ ⟨by omega,NewSl.none M5 _ _⟩ zS ?_
   rintro ⟨j,M6,⟨a6,c6⟩⟩ ⟨hj,hN6⟩;have hul:(zG (S.used.take j)).length≤(S.used.take j).length:=zc5 _ 0
   have huj:(S.used.take j).length≤64:=by simp;omega
   (conv=>whnf);refine brn (fun g=>?_) (fun g=>?_)
   rotate_left
   ·have hge:64≤j:=by have:=Zd1 g;dsimp only at this;omega
    rw[List.take_of_length_le (by rw[hI.ulen];omega)] at hN6 ⊢;refine zR ?_;have hl1:=hHe.len
    have hl2:=hMk.len;subst hl1;subst hl2;exact⟨a6,c6,ha,hc,ms,ma,mc,mk,rfl,Mem.le_trans hleM hN6.le,hN6.mono hleM,hHe.up hN6.le,hmsg,hMk.up hN6.le,hp,zhS h.invE hp hs⟩
   have hlt:j<64:=by have:=Zd0 g;dsimp only at this;omega
   have hnx:zG (S.used.take (j+1))=zG (S.used.take j)++(if 0<S.used.getD j 0 then [((j:Int),S.used.getD j 0)] else []):=by
    have:=zi5 S.used 0 j (by rw[hI.ulen];omega);rw[Nat.zero_add] at this;exact this
   (conv=>whnf);refine ob (by first|omega|(dsimp only;omega)) ?_;(conv=>whnf);refine on (zwq (fun i=>S.used.getD i 0) hlt) ?_;(conv=>whnf);refine brn (fun g1=>?_) (fun g1=>?_)
   ·have h1:0<S.used.getD j 0:=by simpa using g1
    rw[if_pos h1] at hnx;refine zR ?_;refine zdS M5 hN6 ((j:Int),S.used.getD j 0) rfl (by first|omega|(dsimp only;omega)) (by simp[maxLen];omega) (by simp[Value.oneCell']) fun a7 c7 M7 hN7 _=>?_
    (conv=>whnf);refine ob (zd (by first|omega|(dsimp only;omega))) ?_;(conv=>whnf)
    rw[←hnx] at hN7;have hl7:(zG (S.used.take (j+1))).length=(zG (S.used.take j)).length+1:=by rw[hnx];simp
    rw[←hl7] at hN7;refine⟨⟨j+1,M7,(a7,c7)⟩,⟨by omega,hN7⟩,by dsimp only;omega,?_⟩;dsimp only;rw[hl7];exact zS
   ·have h1:¬0<S.used.getD j 0:=by simpa using g1
    rw[if_neg h1,List.append_nil] at hnx;(conv=>whnf);refine ob (zd (by first|omega|(dsimp only;omega))) ?_;(conv=>whnf)
    refine⟨⟨j+1,M6,(a6,c6)⟩,⟨by omega,by rw[hnx];exact hN6⟩,by dsimp only;omega,?_⟩;dsimp only;rw[hnx];exact zS
 ·(conv=>whnf);refine(zx9 h hcm).mono ?_;rintro v M4 ⟨ha,hn,hc,ms,rfl,hH0,hmsg⟩;have h4:=h.to hH0.row.le
  refine zT (hH0.row.le) ?_
  repeat' ((conv=>whnf);first|refine⟨?_,True.intro⟩|refine⟨?_,?_,True.intro⟩|refine brn_t rfl ?_|refine brn_f rfl ?_|refine ob rfl ?_|refine ob (by decide) ?_|refine grow_same (Mem.le_refl _) ?_|refine ob (Mem.le_refl _) ?_|refine⟨_,Mem.le_refl _,?_⟩|fail)
  (conv=>whnf);refine(zqr h4.at'.set (by have:=h.room;omega) hes).mono ?_;rintro v M5 ⟨ma,mn,mc,mk,rfl,hMk0,hp,hs⟩;have h5:=h4.to hMk0.row.le
  have hHe:=hH0.up hMk0.row.le;have hMk:=hMk0.mono' hH0.row.le
  have hleM:=hHe.row.le;refine zT (hleM) ?_;refine zR ?_;have hrow:=zmu h5.at' hI
  refine on hrow ?_;(conv=>whnf)
  refine za6 (σ:=Nat×Mem×(Option Addr×Nat)) [29] (fun x=>[(29,.int .i64 x.1)]) (fun x=>[.live T.zaP [.v (.int .i64 0),.v (.int .i64 0),.v (.slice none 0 0),.v (.slice none 0 0),.v (.slice none 0 0)],.live T.zaP [.v (.int .i64 S.self),.v (.int .i64 S.epoch),.v (.slice x.2.2.1 (zG (S.used.take x.1)).length x.2.2.2),.v (.slice ha hn hc),.v (.slice ma mn mc)]]) (fun x=>x.2.1)
   (fun|⟨j,M6,(a6,c6)⟩=>j≤64∧NewSl M5 T.zbM 2 a6 (zG (S.used.take j)).length c6 ((zG (S.used.take j)).flatMap zeJ) M6) (fun x=>64 - x.1) ⟨0,M5,(none,0)⟩ ⟨by omega,NewSl.none M5 _ _⟩ zS ?_
  rintro ⟨j,M6,⟨a6,c6⟩⟩ ⟨hj,hN6⟩;have hul:(zG (S.used.take j)).length≤(S.used.take j).length:=zc5 _ 0
  have huj:(S.used.take j).length≤64:=by simp;omega
  (conv=>whnf);refine brn (fun g=>?_) (fun g=>?_)
  rotate_left
  ·have hge:64≤j:=by have:=Zd1 g;dsimp only at this;omega
   rw[List.take_of_length_le (by rw[hI.ulen];omega)] at hN6 ⊢;refine zR ?_;have hl1:=hHe.len
   have hl2:=hMk.len;subst hl1;subst hl2;exact⟨a6,c6,ha,hc,ms,ma,mc,mk,rfl,Mem.le_trans hleM hN6.le,hN6.mono hleM,hHe.up hN6.le,hmsg,hMk.up hN6.le,hp,zhS h.invE hp hs⟩
  have hlt:j<64:=by have:=Zd0 g;dsimp only at this;omega
  have hnx:zG (S.used.take (j+1))=zG (S.used.take j)++(if 0<S.used.getD j 0 then [((j:Int),S.used.getD j 0)] else []):=by
   have:=zi5 S.used 0 j (by rw[hI.ulen];omega);rw[Nat.zero_add] at this;exact this
  (conv=>whnf);refine ob (by first|omega|(dsimp only;omega)) ?_;(conv=>whnf);refine on (zwq (fun i=>S.used.getD i 0) hlt) ?_;(conv=>whnf);refine brn (fun g1=>?_) (fun g1=>?_)
  ·have h1:0<S.used.getD j 0:=by simpa using g1
   rw[if_pos h1] at hnx;refine zR ?_;refine zdS M5 hN6 ((j:Int),S.used.getD j 0) rfl (by first|omega|(dsimp only;omega)) (by simp[maxLen];omega) (by simp[Value.oneCell']) fun a7 c7 M7 hN7 _=>?_
   (conv=>whnf);refine ob (zd (by first|omega|(dsimp only;omega))) ?_;(conv=>whnf)
   rw[←hnx] at hN7;have hl7:(zG (S.used.take (j+1))).length=(zG (S.used.take j)).length+1:=by rw[hnx];simp
   rw[←hl7] at hN7;refine⟨⟨j+1,M7,(a7,c7)⟩,⟨by omega,hN7⟩,by dsimp only;omega,?_⟩;dsimp only;rw[hl7];exact zS
  ·have h1:¬0<S.used.getD j 0:=by simpa using g1
   rw[if_neg h1,List.append_nil] at hnx;(conv=>whnf);refine ob (zd (by first|omega|(dsimp only;omega))) ?_;(conv=>whnf)
   refine⟨⟨j+1,M6,(a6,c6)⟩,⟨by omega,by rw[hnx];exact hN6⟩,by dsimp only;omega,?_⟩;dsimp only;rw[hnx];exact zS
end
section
variable {M:Mem}
structure StatR (M:Mem) (ua:Option Addr) (un:Nat) (ha:Option Addr) (hn:Nat) (ma:Option Addr) (mn:Nat) (ul:List (Int×Int)) (ms:List MX) (mk:List MkC):Prop where
 used:SrcOk M 2 ua un (ul.flatMap zeJ)
 held:MsgsR M ha hn ms
 seen:MarksR M ma mn mk
 few:zzn mk
 short:un≤4194000∧hn≤4194000∧mn≤4194000
theorem StatR.le {ua:Option Addr} {un:Nat} {ha:Option Addr} {hn:Nat} {ma:Option Addr} {mn:Nat} {ul:List (Int×Int)} {ms:List MX} {mk:List MkC} (h:StatR M ua un ha hn ma mn ul ms mk) {M':Mem} (hle:M.le M'):StatR M' ua un ha hn ma mn ul ms mk:=
 ⟨h.used.le hle,h.held.le hle,h.seen.le hle,h.few,h.short⟩
theorem zxD {a b:Option Addr} {n m c d:Nat} {l r:List MX} (ha:MsgsR M a n l) (hb:MsgsR M b m r) (hn:n≤4194304) (hm:m≤4194304) :
  CallsM Tryz.prog F.zg2 [.slice a n c,.slice b m d] M fun v M'=>v = .bool (decide (l.map MX.msg=r.map MX.msg))∧M=M':=by
 refine zpI (by simp) ?_;have hl:=ha.len
 have hr:=hb.len;(conv=>whnf);refine brn (fun h=>?_) (fun h=>?_)
 ·refine zR ?_;have h':¬(n:Int)=m:=by simpa using h
  refine⟨?_,rfl⟩;have:¬l.map MX.msg=r.map MX.msg:=fun e=>h' (by have:=congrArg List.length e;simp at this;omega)
  rw[decide_eq_false this]
 have hnm:n=m:=by have h':(n:Int)=m:=by simpa using h
                  omega
 subst hnm;(conv=>whnf)
 refine zdc [5] (fun (i:Nat)=>[(5,.int .i64 i)]) (fun i=>i≤n∧(l.map MX.msg).take i=(r.map MX.msg).take i) (fun i=>n - i) 0 ⟨by omega,by simp⟩ zS ?_;intro i ⟨hi,hsame⟩;(conv=>whnf);refine brn (fun g=>?_) (fun g=>?_)
 ·have hlt:i<n:=by have:=Zd0 g;omega
  have hx:l[i]? = some (l[i]'(by omega)):=List.getElem?_eq_getElem (by omega);have hy:r[i]? = some (r[i]'(by omega)):=List.getElem?_eq_getElem (by omega)
  generalize l[i]'(by omega)=x at *;generalize r[i]'(by omega)=y at *;obtain⟨b1,o1,ha1,hc1⟩:=ha.row.fparts ze9 (by decide) hx;obtain⟨b2,o2,ha2,hc2⟩:=hb.row.fparts ze9 (by decide) hy;have hxm:=ha.data x (List.mem_of_getElem? hx)
  have hym:=hb.data y (List.mem_of_getElem? hy);(conv=>whnf);refine ob (by first|omega|(dsimp only;omega)) ?_;(conv=>whnf);refine atp ha1 ?_;(conv=>whnf);refine on (hc1 0 5 (by decide)) ?_;(conv=>whnf);refine ob (by first|omega|(dsimp only;omega)) ?_;(conv=>whnf);refine atp ha2 ?_;(conv=>whnf);refine on (hc2 0 5 (by decide)) ?_;refine zR ?_;refine(zxA _ _ _ _ _ _ _ _ _ _ _ _ _ _ _ _ _ hxm hym).mono ?_;rintro v _ ⟨rfl,rfl⟩;refine zU ?_;(conv=>whnf);refine brn (fun g1=>?_) (fun g1=>?_)
  ·refine zR ?_;refine⟨?_,rfl⟩
   have:¬l.map MX.msg=r.map MX.msg:=fun e=>by
    have:=congrArg (·[i]?) e;simp[hx,hy] at this;obtain⟨e1,e2⟩:=this;rw[e1,e2] at g1;simp at g1
   rw[decide_eq_false this]
  ·(conv=>whnf);refine ob (zd (by first|omega|(dsimp only;omega))) ?_;(conv=>whnf)
   refine⟨i+1,⟨by omega,?_⟩,by omega,zS⟩;rw[List.take_add_one,List.take_add_one,hsame];obtain⟨⟨x1,x2,x3,x4⟩,xa,xc,xp⟩:=x;obtain⟨⟨y1,y2,y3,y4⟩,ya,yc,yp⟩:=y;simp at g1;obtain⟨⟨rfl,rfl,rfl,rfl⟩,rfl⟩:=g1;simp[hx,hy]
 ·have hge:i=n:=by have:=Zd1 g;omega
  subst hge;refine zR ?_;refine⟨?_,rfl⟩;rw[List.take_of_length_le (by simp;omega),List.take_of_length_le (by simp;omega)] at hsame;rw[decide_eq_true hsame]
@[reducible] def zhV (self epoch:Int) (ua:Option Addr) (un uc:Nat) (ha:Option Addr) (hn hc:Nat) (ma:Option Addr) (mn mc:Nat):Value := .agg #[.int .i64 self,.int .i64 epoch,.slice ua un uc,.slice ha hn hc,.slice ma mn mc]
end
section
variable {M:Mem}
def Chain:Int→List Int→Prop
 | _,[]=>True
 | last,n::r=>last<n∧n≤65535∧Chain n r
def zj0 (m:Mk):Prop:=(0≤m.o∧m.o<64∧1≤m.e∧m.e≤65535∧0≤m.up∧m.up≤65535)∧(0<m.up∨0<m.more.length)∧Chain (m.up+1) m.more
theorem Chain.can:∀ {l:List Int} {last:Int},Chain last l→l.Pairwise (· < ·)∧∀ c∈l,last<c∧c≤65535
 | [],_,_=>⟨.nil,by simp⟩
 | x::r,last,⟨h1,h2,h3⟩=>by
  obtain⟨h4,h5⟩:=Chain.can h3;refine⟨List.pairwise_cons.2 ⟨fun y hy=>(h5 y hy).1,h4⟩,fun c hc=>?_⟩;rcases List.mem_cons.1 hc with rfl|hc
  ·exact⟨h1,h2⟩
  ·have:=h5 c hc;omega
theorem zBX {m:MkC} (hs:SrcOk M 1 m.a m.more.length (m.more.map zaa)) (hn:m.more.length≤4194304) :
  CallsM Tryz.prog F.zjA [.agg (zhF m).toArray] M fun v M'=>∃ r,v = .bool r∧(r=true↔zj0 m.mk')∧M=M':=by
 refine zur (by simp) ?_;have no:¬zj0 m.mk'→(false=true↔zj0 m.mk'):=fun h=>⟨fun h=>(by cases h),fun h'=>absurd h' h⟩
 (conv=>whnf);refine brn (fun g=>?_) (fun g=>?_)
 ·refine zR ?_;refine⟨false,rfl,no fun hr=>?_,rfl⟩;have g':=Zd0 g
  have h1:=hr.1;simp only[MkC.mk'] at h1;omega
 replace g:=Zd1 g;(conv=>whnf);refine brn (fun g=>?_) (fun g=>?_)
 ·refine zR ?_;refine⟨false,rfl,no fun hr=>?_,rfl⟩;have g':=Zd0 g
  have h1:=hr.1;simp only[MkC.mk'] at h1;omega
 replace g:=Zd1 g;(conv=>whnf);refine brn (fun g=>?_) (fun g=>?_)
 ·refine zR ?_;refine⟨false,rfl,no fun hr=>?_,rfl⟩;have g':=Zd0 g
  have h1:=hr.1;simp only[MkC.mk'] at h1;omega
 replace g:=Zd1 g;(conv=>whnf);refine brn (fun g=>?_) (fun g=>?_)
 ·refine zR ?_;refine⟨false,rfl,no fun hr=>?_,rfl⟩;have g':=Zd0 g
  have h1:=hr.1;simp only[MkC.mk'] at h1;omega
 replace g:=Zd1 g;(conv=>whnf);refine brn (fun g=>?_) (fun g=>?_)
 ·refine zR ?_;refine⟨false,rfl,no fun hr=>?_,rfl⟩;have g':=Zd0 g
  have h1:=hr.1;simp only[MkC.mk'] at h1;omega
 replace g:=Zd1 g;(conv=>whnf);refine brn (fun g=>?_) (fun g=>?_)
 ·refine zR ?_;refine⟨false,rfl,no fun hr=>?_,rfl⟩;have g':=Zd0 g
  have h1:=hr.1;simp only[MkC.mk'] at h1;omega
 replace g:=Zd1 g;have hb:0≤m.o∧m.o<64∧1≤m.e∧m.e≤65535∧0≤m.up∧m.up≤65535:=by omega
 (conv=>whnf);refine ob (zd (by omega)) ?_;(conv=>whnf)
 refine zdc [40,3] (fun (y:Nat×Int)=>[(40,.int .i64 y.1),(3,.int .i64 y.2)]) (fun y=>y.1≤m.more.length∧(Chain (m.up+1) m.more↔Chain y.2 (m.more.drop y.1))) (fun y=>m.more.length - y.1) ⟨0,m.up+1⟩ ⟨by omega,by simp⟩ zS ?_;rintro ⟨i,last⟩ ⟨hi,hch⟩;(conv=>whnf);refine brn (fun g=>?_) (fun g=>?_)
 ·have hlt:i<m.more.length:=by have:=Zd0 g;dsimp only at this;omega
  obtain⟨hkx,bx,ox,hax,hrx⟩:=hs.at (i:=i) hlt;dsimp only at hch;rw[List.drop_eq_getElem_cons hlt] at hch;generalize m.more[i]=x at *;(conv=>whnf);refine ob (by first|omega|(dsimp only;omega)) ?_;(conv=>whnf);refine atp hax ?_;(conv=>whnf);refine on hrx ?_;(conv=>whnf);refine brn (fun g1=>?_) (fun g1=>?_)
  ·refine zR ?_;refine⟨false,rfl,no fun hr=>?_,rfl⟩;have:=(hch.1 hr.2.2).1
   have:=Zd0 g1;omega
  (conv=>whnf);refine brn (fun g2=>?_) (fun g2=>?_)
  ·refine zR ?_;refine⟨false,rfl,no fun hr=>?_,rfl⟩;have:=(hch.1 hr.2.2).2.1
   have:=Zd0 g2;omega
  (conv=>whnf);refine ob (zd (by first|omega|(dsimp only;omega))) ?_;(conv=>whnf)
  refine⟨⟨i+1,x⟩,⟨by omega,hch.trans ⟨fun h=>h.2.2,fun h=>⟨?_,?_,h⟩⟩⟩,by dsimp only;omega,zS⟩
  ·have:=Zd1 g1;omega
  ·have:=Zd1 g2;omega
 have hge:i=m.more.length:=by have:=Zd1 g;dsimp only at this;omega
 subst hge;have hc:Chain (m.up+1) m.more:=hch.2 (by rw[List.drop_length];exact True.intro)
 (conv=>whnf);refine brn (fun g=>?_) (fun g=>?_)
 ·refine zR ?_;exact⟨true,rfl,⟨fun _=>⟨hb,.inl (Zd0 g),hc⟩,fun _=>rfl⟩,rfl⟩
 ·refine zR ?_;refine⟨_,rfl,⟨fun h=>⟨hb,.inr ?_,hc⟩,fun h=>?_⟩,rfl⟩
  ·have h3:=Zd0 h;show 0<m.more.length
   omega
  ·have h2:=h.2.1;have:=Zd1 g
   simp only[MkC.mk'] at h2;exact decide_eq_true (by omega)
end
section
variable {M:Mem}
def FormP (l:List Mk):Prop:=(∀ m∈l,zj0 m)∧l.Pairwise zbJ
theorem FormP.snoc {l:List Mk} {x:Mk} (h:FormP l) (hr:zj0 x) (hl:∀ y,l.getLast? = some y→zbJ y x):FormP (l++[x]):=by
 refine⟨fun m hm=>?_,?_⟩
 ·rcases List.mem_append.1 hm with h1|h1
  ·exact h.1 m h1
  ·simp only[List.mem_singleton] at h1;subst h1;exact hr
 ·rw[List.pairwise_append];refine⟨h.2,by simp,fun z hz y hy=>?_⟩;simp only[List.mem_singleton] at hy;subst hy;by_cases hne:l=[]
  ·subst hne;cases hz
  ·have hl1:=hl (l.getLast hne) (List.getLast?_eq_some_getLast hne);rw[←List.dropLast_concat_getLast hne] at hz;have hp:=h.2
   rw[←List.dropLast_concat_getLast hne,List.pairwise_append] at hp;rcases List.mem_append.1 hz with h2|h2
   ·have:=hp.2.2 z h2 (l.getLast hne) (by simp);unfold zbJ at this hl1 ⊢; omega
   ·simp only[List.mem_singleton] at h2;subst h2;exact hl1
theorem FormP.lt {l:List Mk} (h:FormP l) {i:Nat} {x y:Mk} (hx:l[i]? = some x) (hy:l[i+1]? = some y):zbJ x y:=by
 obtain⟨h1,rfl⟩:=List.getElem?_eq_some_iff.1 hx;obtain⟨h2,rfl⟩:=List.getElem?_eq_some_iff.1 hy;exact List.pairwise_iff_getElem.1 h.2 i (i+1) h1 h2 (by omega)
def zcE (l:List Mk):Nat:=(l.map fun m=>m.more.length).sum
def zn1 (gaps:Int) (l:List Mk) (k:Int):Prop:=
 ((gaps<0∨256<gaps)∧k=1)∨(¬(gaps<0∨256<gaps)∧¬FormP l∧k=2)∨(¬(gaps<0∨256<gaps)∧FormP l∧gaps<zcE l∧k=6)∨(¬(gaps<0∨256<gaps)∧FormP l∧(zcE l:Int)≤gaps∧k=0)
end
end Go.Proofs.YtpdkkbpkplhdpaaGreat
