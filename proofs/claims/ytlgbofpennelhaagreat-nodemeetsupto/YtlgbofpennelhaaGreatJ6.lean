/- Part. -/
import Derived.Test.YtlgbofpennelhaaGreatJ4
import Derived.Test.YtlgbofpennelhaaGreatJ5
set_option linter.all false
set_option maxHeartbeats 0
namespace Go.Proofs.YtlgbofpennelhaaGreat
open Go.Vm Go.Vm.S Go.Proofs.Tryz
section
set_option maxRecDepth 100000
def tq234:=tH prog f234 [(5,[6144,53,57])]
theorem zvI:FO prog 234 41 tq234.c tq234.r:=fh func234 tq234
def tq261:=tH prog f261
theorem zrN:FO prog 261 17 tq261.c tq261.r:=fh func261 tq261
def tq265:=tH prog f265
theorem zqy:FO prog 265 5 tq265.c tq265.r:=fh func265 tq265
def tq266:=tH prog f266
theorem zk8:FO prog 266 20 tq266.c tq266.r:=fh func266 tq266
def tq267:=tH prog f267
theorem zrO:FO prog 267 18 tq267.c tq267.r:=fh func267 tq267
def tq268:=tH prog f268
theorem zvJ:FO prog 268 35 tq268.c tq268.r:=fh func268 tq268
def tq269:=tH prog f269
theorem zxI:FO prog 269 19 tq269.c tq269.r:=fh func269 tq269
def tq270:=tH prog f270 [(1,[12288]),(3,[5120]),(5,[4608,48,41,45,53,1080,3,7,7,45,41,53,1080])]
theorem zha:FO prog 270 62 tq270.c tq270.r:=fh func270 tq270
def tq271:=tH prog f271
theorem zkj:FO prog 271 19 tq271.c tq271.r:=fh func271 tq271
def tq272:=tH prog f272 [(10,[2048,2072,21,46,49,53,568,65])]
theorem znv:FO prog 272 89 tq272.c tq272.r:=fh func272 tq272
def tq273:=tH prog f273
theorem zn7:FO prog 273 11 tq273.c tq273.r:=fh func273 tq273
def tq274:=tH prog f274 [(6,[3584,33,3108])]
theorem zn8:FO prog 274 66 tq274.c tq274.r:=fh func274 tq274
def tq275:=tH prog f275 [(1,[2560,25,2076])]
theorem zn9:FO prog 275 23 tq275.c tq275.r:=fh func275 tq275
def tq276:=tH prog f276
theorem zoa:FO prog 276 46 tq276.c tq276.r:=fh func276 tq276
def tq277:=tH prog f277 [(1,[1536,18,4116,57,572])]
theorem zkk:FO prog 277 21 tq277.c tq277.r:=fh func277 tq277
def tq278:=tH prog f278
theorem ziT:FO prog 278 10 tq278.c tq278.r:=fh func278 tq278
def tq279:=tH prog f279 [(3,[2560,25,540,37,40])]
theorem zkl:FO prog 279 18 tq279.c tq279.r:=fh func279 tq279
def tq280:=tH prog f280
theorem zkm:FO prog 280 9 tq280.c tq280.r:=fh func280 tq280
def tq281:=tH prog f281 [(4,[6656,57,572])]
theorem zrP:FO prog 281 32 tq281.c tq281.r:=fh func281 tq281
def tq282:=tH prog f282 [(1,[5120])]
theorem zsR:FO prog 282 21 tq282.c tq282.r:=fh func282 tq282
def tq283:=tH prog f283
theorem zqz:FO prog 283 25 tq283.c tq283.r:=fh func283 tq283
def tq284:=tH prog f284
theorem zps:FO prog 284 25 tq284.c tq284.r:=fh func284 tq284
def tq285:=tH prog f285
theorem zhq:FO prog 285 54 tq285.c tq285.r:=fh func285 tq285
def tq288:=tH prog f288
theorem zxJ:FO prog 288 18 tq288.c tq288.r:=fh func288 tq288
def tq291:=tH prog f291
theorem zob:FO prog 291 20 tq291.c tq291.r:=fh func291 tq291
def tq292:=tH prog f292
theorem zpX:FO prog 292 14 tq292.c tq292.r:=fh func292 tq292
def tq294:=tH prog f294 [(4,[2048,22,25,28])]
theorem zpt:FO prog 294 25 tq294.c tq294.r:=fh func294 tq294
def tq295:=tH prog f295
theorem znw:FO prog 295 34 tq295.c tq295.r:=fh func295 tq295
def tq296:=tH prog f296
theorem zpu:FO prog 296 10 tq296.c tq296.r:=fh func296 tq296
def tq297:=tH prog f297 [(8,[1536])]
theorem zsS:FO prog 297 23 tq297.c tq297.r:=fh func297 tq297
def tq298:=tH prog f298
theorem zqA:FO prog 298 44 tq298.c tq298.r:=fh func298 tq298
def tq299:=tH prog f299
theorem zpv:FO prog 299 7 tq299.c tq299.r:=fh func299 tq299
def tq300:=tH prog f300 [(3,[6144,53,56,61])]
theorem zjj:FO prog 300 28 tq300.c tq300.r:=fh func300 tq300
def tq334:=tH prog f334
theorem zqB:FO prog 334 6 tq334.c tq334.r:=fh func334 tq334
def tq335:=tH prog f335
theorem zsT:FO prog 335 15 tq335.c tq335.r:=fh func335 tq335
def tq336:=tH prog f336
theorem zqC:FO prog 336 44 tq336.c tq336.r:=fh func336 tq336
def tq337:=tH prog f337 [(2,[2560,6176,25,30,1108])]
theorem zvK:FO prog 337 30 tq337.c tq337.r:=fh func337 tq337
def tq338:=tH prog f338
theorem zqD:FO prog 338 41 tq338.c tq338.r:=fh func338 tq338
def tq339:=tH prog f339
theorem zkn:FO prog 339 8 tq339.c tq339.r:=fh func339 tq339
def tq340:=tH prog f340 [(4,[2048,24,21,30,33]),(6,[6656]),(9,[3584,33]),(10,[3584,33])]
theorem zlC:FO prog 340 101 tq340.c tq340.r:=fh func340 tq340
def tq341:=tH prog f341 [(3,[2560,1564,26,44,49])]
theorem znx:FO prog 341 20 tq341.c tq341.r:=fh func341 tq341
def tq342:=tH prog f342 [(1,[8192,69,584])]
theorem zny:FO prog 342 24 tq342.c tq342.r:=fh func342 tq342
def tq343:=tH prog f343 [(3,[4096,37,41,44]),(6,[0,1032,5,22,24,29,32])]
theorem znz:FO prog 343 30 tq343.c tq343.r:=fh func343 tq343
def tq344:=tH prog f344
theorem znA:FO prog 344 6 tq344.c tq344.r:=fh func344 tq344
end
section
set_option maxRecDepth 100000
def tq371:=tH prog f371
theorem zne:FO prog 371 31 tq371.c tq371.r:=fh func371 tq371
def tq372:=tH prog f372
theorem zsU:FO prog 372 4 tq372.c tq372.r:=fh func372 tq372
def tq410:=tH prog f410 [(9,[8704,73,588,85,600,97])]
theorem zmg:FO prog 410 56 tq410.c tq410.r:=fh func410 tq410
def tq411:=tH prog f411 [(9,[4096,37,552])]
theorem zk9:FO prog 411 49 tq411.c tq411.r:=fh func411 tq411
def tq412:=tH prog f412
theorem zsV:FO prog 412 7 tq412.c tq412.r:=fh func412 tq412
def tq413:=tH prog f413 [(4,[5120,45,48])]
theorem zjR:FO prog 413 21 tq413.c tq413.r:=fh func413 tq413
def tq425:=tH prog f425
theorem zrQ:FO prog 425 60 tq425.c tq425.r:=fh func425 tq425
end
section
set_option maxRecDepth 100000
def tq469:=tH prog f469
theorem zlD:FO prog 469 26 tq469.c tq469.r:=fh func469 tq469
def tq470:=tH prog f470
theorem zpw:FO prog 470 27 tq470.c tq470.r:=fh func470 tq470
def tq501:=tH prog f501
theorem zsW:FO prog 501 21 tq501.c tq501.r:=fh func501 tq501
def tq502:=tH prog f502
theorem zuN:FO prog 502 17 tq502.c tq502.r:=fh func502 tq502
end
end Go.Proofs.YtlgbofpennelhaaGreat
namespace Go.Proofs.YtlgbofpennelhaaGreat
open Go Go.Vm
@[reducible] def zi (n:Int):Value := .int .i64 n
@[reducible] def ptr (p:Nat):Value := .pointer (some ⟨p,0,none⟩)
end Go.Proofs.YtlgbofpennelhaaGreat
namespace Go.Vm
set_option linter.unusedSectionVars false
set_option linter.unusedSimpArgs false
section
section
variable {κ α:Type} [DecidableEq κ]
def zeE (kv:κ→Value):Prop:=∀ a b,zeD (kv a) (kv b)=some (decide (a=b))
def zbO (kv:κ→Value) (vv:α→Value) (p:Nat×κ×α):MapEntry:={ key:=kv p.2.1,val:=vv p.2.2,born:=p.1 }
def zbf (kv:κ→Value) (vv:α→Value) (l:List (Nat×κ×α)) (clock:Nat):Obj := .map (l.map (zbO kv vv)).toArray clock
structure MapOk (l:List (Nat×κ×α)) (clock:Nat):Prop where
 keys:(l.map (·.2.1)).Nodup
 old:∀ p∈l,p.1<clock
 apart:(l.map (·.1)).Nodup
def ze:List (κ×α)→κ→Option α
 | [],_=>none
 | (k,x)::r,i=>if k=i then some x else ze r i
def zbX:List (κ×α)→κ→α→List (κ×α)
 | [],_,_=>[]
 | (k,y)::r,i,x=>if k=i then (i,x)::r else (k,y)::zbX r i x
def zt (l:List (κ×α)) (k:κ) (x:α):List (κ×α):=match ze l k with|some _=>zbX l k x|none=>l++[(k,x)]
def zaO (l:List (κ×α)) (k:κ):List (κ×α):=l.filter fun p=>decide (p.1≠k)
theorem aget_none {l:List (κ×α)} {k:κ}:ze l k=none↔k∉l.map (·.1):=by
 induction l with
 | nil=>simp[ze]
 | cons p r ih=>
  obtain⟨a,x⟩:=p;simp only[ze];split
  ·simp_all
  ·grind
theorem zG {l:List (κ×α)} {k:κ} {x:α} (h:ze l k=some x):(k,x)∈l:=by
 induction l with
 | nil=>cases h
 | cons p r ih=>
  obtain⟨a,y⟩:=p;simp only[ze] at h;split at h
  ·simp_all
  ·simp_all
theorem zbK {l:List (κ×α)} (hn:(l.map (·.1)).Nodup) {k:κ} {x:α} (h:(k,x)∈l):ze l k=some x:=by
 induction l with
 | nil=>cases h
 | cons p r ih=>
  obtain⟨a,y⟩:=p;simp only[Yq,Yau] at hn;simp only[ze];rcases Yp.1 h with e|e
  ·simp_all
  ·grind
theorem zoc (l:List (κ×α)) (k:κ) (x:α):(zbX l k x).map (·.1)=l.map (·.1):=by
 induction l with
 | nil=>rfl
 | cons p r ih=>
  obtain⟨a,y⟩:=p;simp only[zbX];split
  ·simp_all
  ·simp[ih]
theorem ztO (l:List (κ×α)) (k:κ) (x:α) (i:κ):ze (zbX l k x) i=if i=k∧(ze l k).isSome then some x else ze l i:=by
 induction l with
 | nil=>simp[zbX,ze]
 | cons p r ih=>
  obtain⟨a,y⟩:=p;simp only[zbX];by_cases ha:a=k
  ·rw[if_pos ha];subst ha;simp only[ze,if_true,Option.isSome_some,and_true];by_cases hi:a=i
   ·simp[hi]
   ·rw[if_neg hi,if_neg hi,if_neg (fun e=>hi e.symm)]
  ·rw[if_neg ha];simp only[ze,if_neg ha,ih];by_cases hi:a=i
   ·rw[if_pos hi,if_pos hi,if_neg (fun e=>ha (hi.trans e.1))]
   ·rw[if_neg hi,if_neg hi]
theorem zpY (l r:List (κ×α)) (i:κ):ze (l++r) i=(ze l i).or (ze r i):=by
 induction l with
 | nil=>simp[ze]
 | cons p l ih=>
  obtain⟨a,y⟩:=p;simp only[Yby,ze];split<;>simp_all
theorem zbL (l:List (κ×α)) (k:κ) (x:α) (i:κ):ze (zt l k x) i=if i=k then some x else ze l i:=by
 unfold zt;cases h:ze l k with
 | some y=>simp only[ztO,h,Option.isSome_some,and_true]
 | none=>
  simp only[zpY];by_cases hi:i=k
  ·subst hi;rw[h];simp[ze]
  ·rw[if_neg hi];simp only[ze];rw[if_neg (fun e=>hi e.symm)];simp
theorem ztP (l:List (κ×α)) (k:κ) (x:α):(zt l k x).map (·.1)=if (ze l k).isSome then l.map (·.1) else l.map (·.1)++[k]:=by
 unfold zt;cases h:ze l k<;>simp[zoc]
theorem zf6 {l:List (κ×α)} (h:(l.map (·.1)).Nodup) (k:κ) (x:α):((zt l k x).map (·.1)).Nodup:=by
 rw[ztP];cases hg:ze l k with
 | some _=>simp_all
 | none=>
  have:=aget_none.1 hg;simp only[Option.isSome_none,Ybp,if_false];rw[Ydw];exact⟨h,by simp,fun a ha b hb=>by grind⟩
theorem zfI (l:List (κ×α)) (k i:κ):ze (zaO l k) i=if i=k then none else ze l i:=by
 unfold zaO
 induction l with
 | nil=>simp[ze]
 | cons p r ih=>
  obtain⟨a,y⟩:=p;simp only[Yb8];by_cases ha:a=k
  ·simp only[ha,ne_eq,not_true_eq_false,decide_false,Ybp,if_false];rw[ih];by_cases hi:i=k
   ·simp[hi]
   ·rw[if_neg hi,if_neg hi];simp only[ze];rw[if_neg (fun e=>hi e.symm)]
  ·simp only[ne_eq,ha,not_false_eq_true,decide_true,if_true,ze];rw[ih];by_cases hi:a=i
   ·simp_all
   ·rw[if_neg hi,if_neg hi]
theorem zzV {l:List (κ×α)} (h:(l.map (·.1)).Nodup) (k:κ):((zaO l k).map (·.1)).Nodup:=h.sublist (Ydz _ Ycl)
def bset:List (Nat×κ×α)→κ→α→List (Nat×κ×α)
 | [],_,_=>[]
 | (b,k,y)::r,i,x=>if k=i then (b,i,x)::r else (b,k,y)::bset r i x
def zjS (l:List (Nat×κ×α)) (clock:Nat) (k:κ) (x:α):List (Nat×κ×α):=match ze (l.map (·.2)) k with|some _=>bset l k x|none=>l++[(clock,k,x)]
def ziB (l:List (Nat×κ×α)) (clock:Nat) (k:κ):Nat:=match ze (l.map (·.2)) k with|some _=>clock|none=>clock+1
def zhr (l:List (Nat×κ×α)) (k:κ):List (Nat×κ×α):=l.filter fun p=>decide (p.2.1≠k)
theorem zvL (l:List (Nat×κ×α)) (k:κ) (x:α):(bset l k x).map (·.2)=zbX (l.map (·.2)) k x:=by
 induction l with
 | nil=>rfl
 | cons p r ih=>
  obtain⟨b,a,y⟩:=p;simp only[bset,Yq,zbX];split<;>simp[ih]
theorem ztQ (l:List (Nat×κ×α)) (k:κ) (x:α):(bset l k x).map (·.1)=l.map (·.1):=by
 induction l with
 | nil=>rfl
 | cons p r ih=>
  obtain⟨b,a,y⟩:=p;simp only[bset];split<;>simp[ih]
theorem zqE (l:List (Nat×κ×α)) (clock:Nat) (k:κ) (x:α):(zjS l clock k x).map (·.2)=zt (l.map (·.2)) k x:=by
 unfold zjS zt;cases h:ze (l.map (·.2)) k<;>simp[zvL]
theorem zqF (l:List (Nat×κ×α)) (k:κ):(zhr l k).map (·.2)=zaO (l.map (·.2)) k:=by
 unfold zhr zaO;rw[Ydn];rfl
theorem zzW (l:List (Nat×κ×α)):l.map (·.2.1)=(l.map (·.2)).map (·.1):=by simp
theorem MapOk.put {l:List (Nat×κ×α)} {clock:Nat} (h:MapOk l clock) (k:κ) (x:α):MapOk (zjS l clock k x) (ziB l clock k):=by
 refine⟨?_,?_,?_⟩
 ·rw[zzW,zqE];exact zf6 (by rw[←zzW];exact h.keys) k x
 ·unfold zjS ziB;cases hg:ze (l.map (·.2)) k with
  | some y=>
   intro p hp;simp only at hp ⊢;have:p.1∈(bset l k x).map (·.1):=Yj.2 ⟨p,hp,rfl⟩
   rw[ztQ] at this;obtain⟨q,hq,e⟩:=Yj.1 this;rw[←e];exact h.old q hq
  | none=>
   intro p hp;simp only[Yy,Y0] at hp ⊢;rcases hp with hp|rfl
   ·have:=h.old p hp;omega
   ·simp
 ·unfold zjS;cases hg:ze (l.map (·.2)) k with
  | some y=>simp only[ztQ];exact h.apart
  | none=>
   simp only[Yv,Yq,Ybz];rw[Ydw];refine⟨h.apart,by simp,fun a ha b hb=>?_⟩;simp at hb;subst hb;obtain⟨q,hq,e⟩:=Yj.1 ha;have:=h.old q hq
   intro e';omega
theorem MapOk.del {l:List (Nat×κ×α)} {clock:Nat} (h:MapOk l clock) (k:κ):MapOk (zhr l k) clock:=
 ⟨h.keys.sublist (Ydz _ Ycl),fun p hp=>h.old p (Ya3.1 hp).1,h.apart.sublist (Ydz _ Ycl)⟩
theorem MapOk.empty:MapOk ([]:List (Nat×κ×α)) 0:=⟨by simp,by simp,by simp⟩
variable {kv:κ→Value} {vv:α→Value}
theorem zhs (hk:zeE kv) {k:κ}:∀ {l:List (Nat×κ×α)} (i:Nat),ze (l.map (·.2)) k=none→zB (kv k) (l.map (zbO kv vv)) i=some none
 | [],_,_=>rfl
 | (b,a,y)::r,i,h=>by
  simp only[Yq,ze] at h;split at h
  ·cases h
  ·rename_i hne;simp only[Yq,zB,zbO,hk k a];rw[decide_eq_false (fun e=>hne e.symm)];exact zhs hk (i+1) h
theorem zf7 (hk:zeE kv) {k:κ} {x:α}:∀ {l:List (Nat×κ×α)} (i:Nat),ze (l.map (·.2)) k=some x→∃ j,zB (kv k) (l.map (zbO kv vv)) i=some (some (i+j,vv x)) ∧
   (∀ y,((l.map (zbO kv vv)).modify j fun e=>{ e with key:=kv k,val:=vv y })=(bset l k y).map (zbO kv vv))∧(∀ (_:(l.map (·.2.1)).Nodup),(l.map (zbO kv vv)).eraseIdx j=(zhr l k).map (zbO kv vv))∧j<l.length
 | [],_,h=>by cases h
 | (b,a,y)::r,i,h=>by
  simp only[Yq,ze] at h;split at h
  ·rename_i e;subst e;cases h;refine⟨0,?_,?_,?_,by simp⟩
   ·simp[zB,zbO,hk a a]
   ·intro y';simp[zbO,bset]
   ·intro hn;simp only[Yq,Yau] at hn;have:∀ p∈r,p.2.1≠a:=fun p hp e=>hn.1 (e▸Yj.2 ⟨p,hp,rfl⟩)
    simp only[Yq,List.eraseIdx_cons_zero,zhr,Yb8,ne_eq,not_true_eq_false,decide_false,Ybp,if_false];rw[Ycz.2];intro p hp;simpa using this p hp
  ·rename_i hne;obtain⟨j,h1,h3,h4,h5⟩:=zf7 hk (i+1) h;refine⟨j+1,?_,?_,?_,by simp;omega⟩
   ·simp only[Yq,zB,zbO,hk k a];rw[decide_eq_false (fun e=>hne e.symm)];simp only;rw[h1];congr 3;omega
   ·intro y';simp only[Yq,List.modify_succ_cons,bset,if_neg hne];rw[h3]
   ·intro hn;simp only[Yq,Yau] at hn;simp only[Yq,List.eraseIdx_cons_succ];rw[h4 hn.2];simp[zhr,Yb8,hne]
def MapAt (kv:κ→Value) (vv:α→Value) (M:Mem) (b:Nat) (m:List (κ×α)):Prop:=∃ l clock,M b=some (zbf kv vv l clock)∧MapOk l clock∧l.map (·.2)=m
theorem MapAt.nodup {M:Mem} {b:Nat} {m:List (κ×α)} (h:MapAt kv vv M b m):(m.map (·.1)).Nodup:=by
 obtain⟨l,c,_,h1,rfl⟩:=h;rw[←zzW];exact h1.keys
theorem MapAt.mono {M M':Mem} {b:Nat} {m:List (κ×α)} (h:MapAt kv vv M b m) (hb:∀ o,M b=some o→M' b=some o):MapAt kv vv M' b m:=by
 obtain⟨l,c,h0,h1⟩:=h;exact⟨l,c,hb _ h0,h1⟩
theorem MapAt.new (M:Mem) (b:Nat):MapAt kv vv (M.upd b (.map #[] 0)) b []:=⟨[],0,by simp[Mem.upd,zbf],MapOk.empty,rfl⟩
theorem MapAt.get {M:Mem} {b:Nat} {m:List (κ×α)} (h:MapAt kv vv M b m) (hk:zeE kv) (k:κ) {K:Option (Nat×Value)→Prop} (h0:ze m k=none→K none) (h1:∀ x i,ze m k=some x→K (some (i,vv x))) :
  onO (M.mapAt b) fun p=>onO (zB (kv k) p.1.toList 0) K:=by
 obtain⟨l,c,hM,_,rfl⟩:=h;simp only[Mem.mapAt,hM,zbf,onO];cases hg:ze (l.map (·.2)) k with
 | none=>simp only[zhs hk 0 hg];exact h0 hg
 | some x=>
  obtain⟨j,hj,_⟩:=zf7 (vv:=vv) hk 0 hg;simp only[hj];exact h1 x _ hg
theorem MapAt.len {M:Mem} {b:Nat} {m:List (κ×α)} (h:MapAt kv vv M b m) {K:Array MapEntry×Nat→Prop} (hK:∀ es c,es.size=m.length→K (es,c)):onO (M.mapAt b) K:=by
 obtain⟨l,c,hM,_,rfl⟩:=h;simp only[Mem.mapAt,hM,zbf,onO];exact hK _ _ oS
theorem MapAt.put {M:Mem} {b:Nat} {m:List (κ×α)} (h:MapAt kv vv M b m) (hk:zeE kv) (k:κ) (x:α) {K:Array MapEntry×Nat→Option (Nat×Value)→Prop}
  (h0:∀ p f,(∀ M':Mem,MapAt kv vv (M'.upd b (zdg p f (kv k) (vv x))) b (zt m k x))→K p f):onO (M.mapAt b) fun p=>onO (zB (kv k) p.1.toList 0) fun f=>K p f:=by
 obtain⟨l,c,hM,hok,rfl⟩:=h;simp only[Mem.mapAt,hM,zbf,onO];cases hg:ze (l.map (·.2)) k with
 | none=>
  simp only[zhs hk 0 hg];refine h0 _ _ fun M'=>⟨zjS l c k x,ziB l c k,?_,hok.put k x,zqE ..⟩
  simp[Mem.upd,zdg,zbf,zjS,ziB,hg,zbO]
 | some y=>
  obtain⟨j,hj,hset,_⟩:=zf7 (vv:=vv) hk 0 hg;simp only[hj];refine h0 _ _ fun M'=>⟨zjS l c k x,ziB l c k,?_,hok.put k x,zqE ..⟩
  simp[Mem.upd,zdg,zbf,zjS,ziB,hg,hset]
theorem MapAt.del {M:Mem} {b:Nat} {m:List (κ×α)} (h:MapAt kv vv M b m) (hk:zeE kv) (k:κ) {K:Array MapEntry×Nat→Option (Nat×Value)→Prop}
  (h0:∀ p f,(∀ M':Mem,MapAt kv vv (M'.upd b (zdq p f)) b (zaO m k))→K p f):onO (M.mapAt b) fun p=>onO (zB (kv k) p.1.toList 0) fun f=>K p f:=by
 obtain⟨l,c,hM,hok,rfl⟩:=h;simp only[Mem.mapAt,hM,zbf,onO];cases hg:ze (l.map (·.2)) k with
 | none=>
  simp only[zhs hk 0 hg];refine h0 _ _ fun M'=>⟨zhr l k,c,?_,hok.del k,zqF ..⟩
  have:zhr l k=l:=by
   unfold zhr;rw[Ycz];intro p hp;have:=aget_none.1 hg
   simp only[decide_eq_true_eq,ne_eq];intro e;exact this (by grind)
  simp[Mem.upd,zdq,zbf,this]
 | some y=>
  obtain⟨j,hj,_,hdel,hlt⟩:=zf7 (vv:=vv) hk 0 hg;simp only[hj];refine h0 _ _ fun M'=>⟨zhr l k,c,?_,hok.del k,zqF ..⟩
  have:=hdel hok.keys;simp[Mem.upd,zdq,zbf,this,hlt]
end
end
section
section
variable {κ α:Type} [DecidableEq κ] {kv:κ→Value} {vv:α→Value}
def Iter (kv:κ→Value) (vv:α→Value) (M:Mem) (b m:Nat) (cur todo:List (κ×α)):Prop:=
 ∃ (l:List (Nat×κ×α)) (clock:Nat) (seen:List Nat) (tb:List (Nat×κ×α)),M m=some (zbf kv vv l clock)∧MapOk l clock∧l.map (·.2)=cur∧M b=some (.mapIter (some m) clock (List.toArray seen) clock) ∧
  (∀ p∈l,p.1∈seen∨p∈tb)∧(∀ p∈tb,p∈l∧p.1∉seen)∧(tb.map (·.1)).Nodup∧tb.map (·.2)=todo
theorem Iter.at {M:Mem} {b m:Nat} {cur todo:List (κ×α)} (h:Iter kv vv M b m cur todo):MapAt kv vv M m cur:=by
 obtain⟨l,c,seen,tb,h1,h2,h3,_⟩:=h;exact⟨l,c,h1,h2,h3⟩
theorem Iter.mono {M M':Mem} {b m:Nat} {cur todo:List (κ×α)} (h:Iter kv vv M b m cur todo) (hb:∀ c o,c=b∨c=m→M c=some o→M' c=some o):Iter kv vv M' b m cur todo:=by
 obtain⟨l,c,seen,tb,h1,h2,h3,h4,hr⟩:=h;exact⟨l,c,seen,tb,hb _ _ (.inr rfl) h1,h2,h3,hb _ _ (.inl rfl) h4,hr⟩
theorem Iter.le {M M':Mem} {b m:Nat} {cur todo:List (κ×α)} (h:Iter kv vv M b m cur todo) (hle:M.le M'):Iter kv vv M' b m cur todo:=h.mono fun c o _=>hle c o
theorem Iter.keep {M M':Mem} {b m:Nat} {cur todo:List (κ×α)} {S:Nat→Prop} (h:Iter kv vv M b m cur todo) (hk:Mem.keep S M M') (h1:¬S b) (h2:¬S m):Iter kv vv M' b m cur todo:=
 h.mono fun c o hc=>hk c o (by grind)
theorem Iter.ne {M:Mem} {b m:Nat} {cur todo:List (κ×α)} (h:Iter kv vv M b m cur todo):b≠m:=by
 obtain⟨l,c,seen,tb,h1,h2,h3,h4,hr⟩:=h;rintro rfl;rw[h1] at h4;simp[zbf] at h4
theorem Iter.todo_sub {M:Mem} {b m:Nat} {cur todo:List (κ×α)} (h:Iter kv vv M b m cur todo):∀ p∈todo,p∈cur:=by
 obtain⟨l,c,seen,tb,h1,h2,rfl,h4,h5,h6,h7,rfl⟩:=h;intro p hp;obtain⟨q,hq,rfl⟩:=Yj.1 hp;exact Yj.2 ⟨q,(h6 q hq).1,rfl⟩
theorem zqG {β γ:Type} {l:List (β×γ)} (h:(l.map (·.1)).Nodup):l.Nodup:=by
 induction l with
 | nil=>simp
 | cons p r ih=>
  simp_all
theorem MapAt.range {M:Mem} {m:Nat} {cur:List (κ×α)} (h:MapAt kv vv M m cur) {K:Array MapEntry×Nat→Nat→Prop}
  (hk:∀ p b,M b=none→Iter kv vv (M.upd b (.mapIter (some m) p.2 #[] p.2)) b m cur cur→K p b) :
  onO (M.mapAt m) fun p=>New M fun b=>K p b:=by
 obtain⟨l,c,hM,hok,rfl⟩:=h;simp only[Mem.mapAt,hM,zbf,onO];intro b hb;have hne:m≠b:=fun e=>by simp_all
 refine hk _ b hb ⟨l,c,[],l,?_,hok,rfl,by simp[Mem.upd],fun p hp => .inr hp,fun p hp=>⟨hp,by simp⟩,hok.apart,rfl⟩;rw[Yh _ _ hne,hM]
theorem Iter.next {M:Mem} {b m:Nat} {cur todo:List (κ×α)} (h:Iter kv vv M b m cur todo) {A:Prop} {k:SV→Mem→Prop} (h0:todo=[]→k (.c (.v (.tuple #[.bool false]))) M)
  (h1:∀ i x todo' o,todo.Perm ((i,x)::todo')→Iter kv vv (M.upd b o) b m cur todo'→zC (M.upd b o) b=some (kv i,vv x)→k (.c (.v (.tuple #[.bool true,kv i,vv x]))) (M.upd b o)) :
  onO (M.iterAt b) fun t=>zkQ t.1 A (fun m=>onO (M.mapAt m) fun p=>zO M b t.2.1 t.2.2.2 m t.2.2.1 p.1 p.2 k):=by
 have hne:=h.ne;obtain⟨l,c,seen,tb,hM,hok,rfl,hI,h5,h6,h7,rfl⟩:=h;simp only[Mem.iterAt,hI,onO,zkQ,Mem.mapAt,hM,zbf];refine⟨?_,?_,?_⟩
 ·cases hl:l with
  | nil=>simp
  | cons p r=>
   right;right;refine⟨zbO kv vv p,by simp,?_⟩;exact hok.old p (by simp_all)
 ·intro hall;apply h0;cases htb:tb with
  | nil=>rfl
  | cons p r=>
   exfalso;obtain⟨hp,hns⟩:=h6 p (by simp_all);have hp1:=hok.old p hp
   rcases hall (zbO kv vv p) (by grind) with hc|hc
   ·simp only[zbO,List.contains_toArray,List.contains_iff_mem] at hc;exact hns hc
   ·simp only[zbO] at hc;omega
 ·intro e he hns;simp only[Yj] at he;obtain⟨p,hp,rfl⟩:=he;have hns':p.1∉seen:=by simpa[zbO] using hns
  have hpt:p∈tb:=(h5 p hp).resolve_left hns';obtain⟨u,v,rfl⟩:=List.append_of_mem hpt;have hperm:(u++p::v).Perm (p::(u++v)):=List.perm_middle
  refine h1 p.2.1 p.2.2 ((u++v).map (·.2)) _ (hperm.map (·.2)) ?_ ?_
  ·refine⟨l,c,seen++[p.1],u++v,?_,hok,rfl,?_,?_,?_,?_,rfl⟩
   ·rw[Yh _ _ (Ne.symm hne),hM]
   ·rw[Yam];simp[zbO]
   ·grind
   ·grind
   ·grind
  ·have e1:(M.upd b (.mapIter (some m) c ((List.toArray seen).push (zbO kv vv p).born) c)) m=some (zbf kv vv l c):=by rw[Yh _ _ (Ne.symm hne),hM]
   simp only[zC,Mem.iterAt,Yam,Mem.mapAt,e1,zbf,Array.back?_push,if_true]
   have hf:(List.map (zbO kv vv) l).toArray.find? (fun x=>x.born == (zbO kv vv p).born)=some (zbO kv vv p):=by
    rw[List.find?_toArray];rw[List.find?_map]
    have:l.find? ((fun x=>x.born == (zbO kv vv p).born)∘zbO kv vv)=some p:=by
     have hap:=hok.apart;clear h5 h6 h7 hns hns' hpt hperm hok hM e1 h0 h1
     induction l with
     | nil=>cases hp
     | cons q r ih=>
      simp only[Yq,Yau] at hap;rw[List.find?_cons];rcases Yp.1 hp with rfl|hp
      ·simp[zbO]
      ·have hne:q.1≠p.1:=fun e=>hap.1 (e▸Yj.2 ⟨p,hp,rfl⟩)
       have hb:((fun x=>x.born == (zbO kv vv p).born)∘zbO kv vv) q=false:=by simpa[zbO] using hne
       rw[hb];exact ih hp hap.2
    rw[this];rfl
   rw[hf];rfl
theorem zDH {p:Nat×κ×α} {l:List (Nat×κ×α)} {k:κ} {x:α} (hp:p∈bset l k x):(p∈l∧p.2.1≠k)∨(p.2.1=k∧∃ y,(p.1,k,y)∈l)∨False:=by
 induction l with
 | nil=>simp[bset] at hp
 | cons q r ih=>
  obtain⟨b',a,y'⟩:=q;simp only[bset] at hp;split at hp
  ·grind
  ·grind
theorem zBJ {p:Nat×κ×α} {l:List (Nat×κ×α)} {k:κ} {x:α} (hp:p∈l) (hne:p.2.1≠k):p∈bset l k x:=by
 induction l with
 | nil=>cases hp
 | cons q r ih=>
  obtain⟨b',a,y'⟩:=q;simp only[bset];rcases Yp.1 hp with rfl|hp
  ·simp_all
  ·grind
theorem Iter.put {M:Mem} {b m:Nat} {cur todo:List (κ×α)} (h:Iter kv vv M b m cur todo) (hk:zeE kv) (k:κ) (x:α) (hc:(ze cur k).isSome) (ht:ze todo k=none) {K:Array MapEntry×Nat→Option (Nat×Value)→Prop}
  (h0:∀ p f,(∀ M':Mem,M' b=M b→Iter kv vv (M'.upd m (zdg p f (kv k) (vv x))) b m (zt cur k x) todo)→K p f):onO (M.mapAt m) fun p=>onO (zB (kv k) p.1.toList 0) fun f=>K p f:=by
 have hne:=h.ne;obtain⟨l,c,seen,tb,hM,hok,rfl,hI,h5,h6,h7,rfl⟩:=h;simp only[Mem.mapAt,hM,zbf,onO];obtain⟨y,hg⟩:=Option.isSome_iff_exists.1 hc;obtain⟨j,hj,hset,_⟩:=zf7 (vv:=vv) hk 0 hg;simp only[hj];have hbp:zjS l c k x=bset l k x:=by simp[zjS,hg]
 have hbc:ziB l c k=c:=by simp[ziB,hg]
 have hok':=hok.put k x;rw[hbp,hbc] at hok';have hmem:=fun p=>zDH (p:=p) (l:=l) (k:=k) (x:=x)
 have hmem2:=fun p=>zBJ (p:=p) (l:=l) (k:=k) (x:=x)
 have htk:∀ p∈tb,p.2.1≠k:=fun p hp e=>(aget_none.1 ht) (by grind)
 refine h0 _ _ fun M' hM'=>⟨bset l k x,c,seen,tb,?_,hok',?_,?_,?_,?_,h7,rfl⟩
 ·simp[Mem.upd,zdg,zbf,hset]
 ·rw[zvL];simp[zt,hg]
 ·rw[Yh _ _ hne,hM',hI]
 ·grind
 ·grind
theorem Iter.del {M:Mem} {b m:Nat} {cur todo:List (κ×α)} (h:Iter kv vv M b m cur todo) (hk:zeE kv) (k:κ) (ht:ze todo k=none) {K:Array MapEntry×Nat→Option (Nat×Value)→Prop}
  (h0:∀ p f,(∀ M':Mem,M' b=M b→Iter kv vv (M'.upd m (zdq p f)) b m (zaO cur k) todo)→K p f):onO (M.mapAt m) fun p=>onO (zB (kv k) p.1.toList 0) fun f=>K p f:=by
 have hne:=h.ne;obtain⟨l,c,seen,tb,hM,hok,rfl,hI,h5,h6,h7,rfl⟩:=h;simp only[Mem.mapAt,hM,zbf,onO];have htk:∀ p∈tb,p.2.1≠k:=fun p hp e=>(aget_none.1 ht) (by grind)
 have fin:∀ p f,zdq p f=zbf kv vv (zhr l k) c→∀ M':Mem,M' b=M b→Iter kv vv (M'.upd m (zdq p f)) b m (zaO (l.map (·.2)) k) (tb.map (·.2)):=fun p f e M' hM'=>
  ⟨zhr l k,c,seen,tb,by rw[Yam,e],hok.del k,zqF .., by rw[Yh _ _ hne,hM',hI],fun q hq=>h5 q (Ya3.1 hq).1,
   fun q hq=>⟨Ya3.2 ⟨(h6 q hq).1,by grind⟩,(h6 q hq).2⟩,h7,rfl⟩
 cases hg:ze (l.map (·.2)) k with
 | none=>
  simp only[zhs hk 0 hg];refine h0 _ _ (fin _ _ ?_)
  have:zhr l k=l:=by
   unfold zhr;rw[Ycz];intro p hp;have:=aget_none.1 hg
   simp only[decide_eq_true_eq,ne_eq];intro e;exact this (by grind)
  simp[zdq,zbf,this]
 | some y=>
  obtain⟨j,hj,_,hdel,hlt⟩:=zf7 (vv:=vv) hk 0 hg;simp only[hj];refine h0 _ _ (fin _ _ ?_);have:=hdel hok.keys
  simp[zdq,zbf,this,hlt]
end
end
end Go.Vm
namespace Go.Vm
theorem NewSl.store1 {α:Type} {f:α→Value} {M M2:Mem} {E:TypeId} {a:Option Addr} {n c:Nat} {L:List α} (h:NewSl M E 1 a n c (L.map f) M2) {j:Nat} (hj:j<n) :
  ∃ b cs,a=some ⟨b,0,Option.none⟩∧M b=Option.none∧M2.cells b=some (E,cs)∧0+j*1+1≤cs.length∧∀ v,NewSl M E 1 a n c ((L.set j v).map f) (M2.setCells b E (zd cs (0+j*1) [f v]))∧Mem.keep (blk a) M2 (M2.setCells b E (zd cs (0+j*1) [f v])):=by
 obtain⟨b,cs,rfl,hcells,hlen,hst⟩:=h.wr.store1 hj;have hb:M b=Option.none:=(h.block rfl).1
 refine⟨b,cs,rfl,hb,hcells,hlen,fun v=>⟨?_,(hst v).2⟩⟩;obtain⟨h1,h2,h3⟩:=(hst v).1;refine newSl_iff.2 ⟨(hst v).2.le h.le (fun x hx=>?_),h1,h2,.inr ?_⟩
 ·obtain⟨q,hq,e⟩:=hx;cases hq;subst e;exact hb
 ·rcases h3 with ⟨h4,_⟩|⟨b3,cs3,h4,h5,h6,h7⟩
  ·cases h4
  ·cases h4;exact⟨b,cs3,rfl,hb,h5,h6,h7⟩
theorem NewSl.rebase {M M2 M5:Mem} {E:TypeId} {s:Nat} {a:Option Addr} {n c:Nat} {L:List Value} (h:NewSl M E s a n c L M2) (hle:M2.le M5):NewSl (M5.minus (blk a)) E s a n c L M5:=by
 rw[newSl_iff] at h ⊢;obtain⟨_,h1,h2,h3⟩:=h;exact⟨Yab _ _,h1,h2,h3.imp id fun ⟨b,cs,ha,_,hh,hr⟩=>⟨b,cs,ha,Yaq ⟨_,ha,rfl⟩,hle _ _ hh,hr⟩⟩
end Go.Vm
namespace Go.Vm
theorem NewSl.ne {M M':Mem} {E E':TypeId} {s s':Nat} {a a':Option Addr} {n c n' c':Nat} {L L':List Value} (h:NewSl M E s a n c L M') (h':NewSl M E' s' a' n' c' L' M') (hE:E≠E') {q q':Addr} (hq:a=some q) (hq':a'=some q'):q.block≠q'.block:=fun e=>by
 obtain⟨_,cs,h1⟩:=h.block hq;obtain⟨_,cs',h2⟩:=h'.block hq';rw[e] at h1;exact hE (h1.inj h2).1
end Go.Vm
namespace Go.Vm
theorem NewSl.ofWr {M M1 M2:Mem} {E E':TypeId} {s s':Nat} {a a':Option Addr} {n c n' c':Nat} {L L':List Value} (h:NewSl M E s a n c L M1) (hw:Wr M2 E' s' a' n' c' L') (hk:Mem.keep (blk a) M1 M2) (ha:blk a=blk a'):NewSl M E' s' a' n' c' L' M2:=by
 have hb:∀ x,blk a x→M x=Option.none:=fun x ⟨q,hq,e⟩=>by subst e;exact(h.block hq).1
 refine newSl_iff.2 ⟨hk.le h.le hb,?_⟩;obtain⟨h1,h2,h3⟩:=hw;exact⟨h1,h2,h3.imp id fun ⟨b,cs,hab,hr⟩=>⟨b,cs,hab,hb b (by rw[ha];exact⟨_,hab,rfl⟩),hr⟩⟩
section
variable {κ α:Type} {kv:κ→Value} {vv:α→Value}
theorem MapAt.nb {M:Mem} {b:Nat} {m:List (κ×α)} (h:MapAt kv vv M b m) {x:Nat} {E:TypeId} {l:List Value} (hx:M.has x E l):x≠b:=by
 rintro rfl;obtain⟨l1,c,h1,_⟩:=h;unfold Mem.has at hx;rw[h1] at hx;simp[zbf] at hx
theorem Iter.nb {M:Mem} {b m:Nat} {cur todo:List (κ×α)} (h:Iter kv vv M b m cur todo) {x:Nat} {E:TypeId} {l:List Value} (hx:M.has x E l):x≠b∧x≠m:=by
 obtain⟨l1,c,seen,tb,h1,h2,h3,h4,hr⟩:=h;constructor
 ·rintro rfl;unfold Mem.has at hx;rw[h4] at hx;simp at hx
 ·rintro rfl;unfold Mem.has at hx;rw[h1] at hx;simp[zbf] at hx
theorem MapAt.src {M M':Mem} {x:Nat} {m:List (κ×α)} (h:MapAt kv vv M x m) {s:Nat} {a:Option Addr} {n:Nat} {l:List Value} (h':SrcOk M s a n l) (hk:Mem.keep (fun y=>y=x) M M'):SrcOk M' s a n l:=by
 unfold SrcOk at h' ⊢;obtain⟨h1,h2|⟨b,o,rfl,h3⟩⟩:=h'
 ·simp_all
 ·refine⟨h1,.inr ⟨b,o,rfl,?_⟩⟩
  have hne:b≠x:=by
   rintro rfl;obtain⟨l1,c,h4,_⟩:=h;unfold Mem.row at h3;rw[h4] at h3;simp[zbf] at h3
  unfold Mem.row at h3 ⊢;cases hb:M b with
  | none=>simp_all
  | some ob=>rw[hb] at h3;rw[hk b ob hne hb];exact h3
end
end Go.Vm
namespace Go.Vm
end Go.Vm
namespace Go.Vm
theorem CallsM.frame {P:Program} {f:Nat} {args:List Value} {A M:Mem} {R:Value→Mem→Prop} (h:CallsM P f args A R) (hA:A.le M) :
  CallsM P f args M fun v M'=>∃ A',R v A'∧A'.le M'∧∀ x o,A x=none→M x=some o→M' x=some o∧A' x=none:=by
 refine⟨h.1,fun F w hM hF hdj=>?_⟩;obtain⟨F',hF'⟩:∃ F':Mem,F'=fun x=>if A x=none then (if M x=none then F x else M x) else none:=⟨_,rfl⟩
 have hFF:F.le F':=fun x o hx=>by
  have hMx:M x=none:=(hdj x).resolve_right (by simp_all)
  have hAx:A x=none:=by
   cases e:A x with
   | none=>rfl
   | some y=>rw[hA x y e] at hMx;cases hMx
  rw[hF'];dsimp only;rw[if_pos hAx,if_pos hMx];exact hx
 have hF'w:F'.le (zk w):=fun x o hx=>by
  rw[hF'] at hx;dsimp only at hx;split at hx
  ·split at hx
   ·exact hF x o hx
   ·exact hM x o hx
  ·cases hx
 have hdj':A.disj F':=fun x=>by grind
 refine(h.2 F' w (fun x o hx=>hM x o (hA x o hx)) hF'w hdj').mono ?_;rintro e w' ⟨v,A',he,hR,hA',hFw',hdA,hrest⟩;have hin:∀ x o,A x=none→M x=some o→F' x=some o:=fun x o h1 h2=>by simp_all
 obtain⟨M',hM'⟩:∃ M':Mem,M'=fun x=>if A' x=none then (if A x=none then M x else none) else A' x:=⟨_,rfl⟩
 refine⟨v,M',he,⟨A',hR,fun x o hx=>by simp_all,fun x o h1 h2=>?_⟩,fun x o hx=>?_,fun x o hx=>hFw' x o (hFF x o hx),fun x=>?_,hrest⟩
 ·have:=hin x o h1 h2;have hn:A' x=none:=(hdA x).resolve_right (by simp_all)
  exact⟨by simp_all,hn⟩
 ·rw[hM'] at hx;dsimp only at hx;split at hx
  ·split at hx
   ·exact hFw' x o (hin x o ‹_› hx)
   ·cases hx
  ·exact hA' x o hx
 ·cases e:F x with
  | none=>simp
  | some o=>
   left;have hFx:=hFF x o e
   have hn:A' x=none:=(hdA x).resolve_right (by simp_all);have hMx:M x=none:=(hdj x).resolve_right (by rw[e];simp)
   rw[hM'];dsimp only;rw[if_pos hn];split
   ·exact hMx
   ·rfl
end Go.Vm
namespace Go.Vm
end Go.Vm
namespace Go.Vm
section
section
variable {α:Type} {enc:α→List Value} {s:Nat} (hk:∀ x,(enc x).length=s)
include hk
theorem zFP:∀ (l:List α) (i j:Nat) (x:α),l[i]? = some x→j<s→(l.flatMap enc)[i*s+j]? = (enc x)[j]?
 | [],i,j,x,h,_=>by simp at h
 | y::r,0,j,x,h,hj=>by grind
 | y::r,i+1,j,x,h,hj=>by
  have:=zFP r i j x (by simp_all) hj;rw[Ybn,Yan (by grind),hk,←this];congr 1;rw[Ydp];omega
theorem zIg (l:List α):(l.flatMap enc).length=l.length*s:=by
 induction l with
 | nil=>simp
 | cons y r ih=>grind
theorem SrcOk.flen {M:Mem} {a:Option Addr} {n:Nat} {l:List α} (h:SrcOk M s a n (l.flatMap enc)) (hs:0<s):l.length=n:=by
 have:=h.len;rw[zIg hk] at this;exact Nat.eq_of_mul_eq_mul_right hs this
theorem SrcOk.fall {M:Mem} {a:Option Addr} {n:Nat} {l:List α} (h:SrcOk M s a n (l.flatMap enc)) (hs:0<s) {j:Nat} {x:α} (hx:l[j]? = some x):∃ b o,a=some ⟨b,o,Option.none⟩∧M.row b (o+j*s) s=some (enc x):=by
 have hj:j<n:=by have:=h.flen hk hs;have:=(Yu.1 hx).1;omega
 obtain⟨b,o,ha,hr⟩:=h.elem hj hs;refine⟨b,o,ha,?_⟩;have:=hr 0 s oM
 rw[Ybx] at this;rw[this];congr 1;apply Yb1;intro t;by_cases ht:t<s
 ·rw[Ya6 ht,Ybw,Ybx,zFP hk l j t x hx ht]
 ·grind
omit hk in
theorem zvM {E:TypeId} {bytes:Nat} {a:Option Addr} {n c:Nat} {news:List Value} {M:Mem} {k:Option Addr→Nat→Mem→Prop} {l:List α} (M0:Mem) (hown:NewSl M0 E s a n c (l.flatMap enc) M) (x:α) (hx:news=enc x)
  (h1:(n+1)*bytes≤140737488355328) (h2:n+1≤maxLen) (h3:∀ u∈news,u.oneCell'=true) (hkk:∀ a' c' M',NewSl M0 E s a' (n+1) c' ((l++[x]).flatMap enc) M'→Mem.keep (blk a) M M'→k a' c' M'):zZ E s bytes a n c 1 news M k:=by
 subst hx;refine ziQ M0 _ hown h1 h2 h3 fun a' c' M' hn hkp=>hkk a' c' M' ?_ hkp
 rw[Ydj];simpa using hn
end
end
section
theorem Mem.row_part {M:Mem} {b o k:Nat} {vs:List Value} (h:M.row b o k=some vs) {p n:Nat} (hp:p+n≤k):M.row b (o+p) n=some ((vs.drop p).take n):=by
 unfold Mem.row at h ⊢;split at h
 ·rename_i c e fz hc;split at h
  ·rename_i hle;simp only[Y3] at h;subst h;rw[if_pos oM];congr 1;rw[Ycm,Yb0,Ybo];congr 1;omega
  ·cases h
 ·cases h
theorem SrcOk.fparts {α:Type} {enc:α→List Value} {s:Nat} (hlen:∀ x,(enc x).length=s) {M:Mem} {a:Option Addr} {n:Nat} {l:List α} (h:SrcOk M s a n (l.flatMap enc)) (hs:0<s) {j:Nat} {x:α} (hx:l[j]? = some x) :
  ∃ b o,a=some ⟨b,o,Option.none⟩∧∀ p m,p+m≤s→M.row b (o+j*s+p) m=some (((enc x).drop p).take m):=by
 obtain⟨b,o,ha,hr⟩:=h.fall hlen hs hx;exact⟨b,o,ha,fun p m hp=>Mem.row_part hr hp⟩
end
end Go.Vm
namespace Go.Vm
attribute [local irreducible] Brn Ob Grow CallsM inR zI zF Mem.row Mem.cells Mem.setCells Mem.upd Go.Vm.Own zZ zaj zam zO New SrcOk subA NewSl Mem.textAt Mem.mapAt Mem.iterAt zC zB Wr NewEls Elems
def Row (B:Mem) (q:Option Addr) (l:List UInt8):Prop:=SrcOk B 1 q l.length (l.map zc)
theorem Row.le {B B':Mem} {q:Option Addr} {l:List UInt8} (h:Row B q l) (hle:B.le B'):Row B' q l:=SrcOk.le hle h
theorem Row.nil (B:Mem):Row B none []:=Ybh B 1
structure Tn (B M:Mem) (S:Nat→Prop) (B' M':Mem) (S':Nat→Prop):Prop where
 bb:B.le B'
 keep:Mem.keep S M M'
 fresh:∀ y,B' y≠none→B y≠none∨M y=none∨S y
 sup:∀ y,S' y→S y∨M y=none
section
variable {B M B' M' B2 M2:Mem} {S S' S2 R:Nat→Prop}
theorem Tn.refl (B M:Mem) (S:Nat→Prop):Tn B M S B M S:=⟨Ya _,Yas _ _,fun _ h => .inl h,fun _ h => .inl h⟩
theorem Tn.dead (h:Tn B M S B' M' S') {y:Nat} (hy:M' y=none):S y∨M y=none:=by
 by_cases hs:S y
 ·simp_all
 ·cases ho:M y with
  | none=>simp
  | some o=>rw[h.keep y o hs ho] at hy;cases hy
theorem Tn.trans (h:Tn B M S B' M' S') (h':Tn B' M' S' B2 M2 S2):Tn B M S B2 M2 S2:=by
 have ss:∀ y,S' y∨M' y=none→S y∨M y=none:=fun y hy=>by
  rcases hy with hy|hy
  ·exact h.sup y hy
  ·exact h.dead hy
 refine⟨Yc h.bb h'.bb,fun y o hy ho=>h'.keep y o (fun hs=>?_) (h.keep y o hy ho),fun y hy=>?_,fun y hy=>ss y (h'.sup y hy)⟩
 ·grind
 ·rcases h'.fresh y hy with h1|h1|h1
  ·exact h.fresh y h1
  ·grind
  ·grind
theorem Tn.le (hB:B.le B') (hM:M.le M') (hf:∀ y,B' y≠none→B y≠none∨M y=none):Tn B M S B' M' S:=
 ⟨hB,Ybt hM,fun y hy=>(hf y hy).imp id .inl,fun _ h => .inl h⟩
theorem Tn.upd {y:Nat} {x:Obj} (hy:S y):Tn B M S B (M.upd y x) S:=by
 refine⟨Ya _,fun z o hz ho=>?_,fun _ h => .inl h,fun _ h => .inl h⟩;rw[Yh _ _ (fun e=>hz (by rw[e];exact hy))];exact ho
theorem Tn.set {y:Nat} {E:TypeId} {l:List Value} (hy:S y):Tn B M S B (M.setCells y E l) S:=by unfold Mem.setCells;exact Tn.upd hy
theorem le_upd {y:Nat} {x:Obj} (h:B.le M) (hn:B y=none):B.le (M.upd y x):=fun z o ho=>by
 rw[Yh _ _ (fun e=>by simp_all)];exact h _ _ ho
structure zLU (B M:Mem) (S R:Nat→Prop):Prop where
 live:∀ y,R y→M y≠none
 off:∀ y,R y→B y=none
 dj:∀ y,R y→¬S y
theorem zgX {s n:Nat} {a:Option Addr} {vs:List Value} (h:SrcOk M s a n vs) (hs:∀ r,a=some r→M' r.block=M r.block):SrcOk M' s a n vs:=by
 unfold SrcOk at h ⊢;refine⟨h.1,h.2.imp id fun ⟨b,o,e,hr⟩=>⟨b,o,e,?_⟩⟩;subst e;unfold Mem.row at hr ⊢;rw[hs _ rfl];exact hr
theorem zKI {E:TypeId} {size bytes:Nat} {a:Option Addr} {n c m:Nat} {news:List Value} {k:Option Addr→Nat→Mem→Prop} (L:List Value) (hs:SrcOk M size a n L) (hc:c<n+m) (hn:n≤c) (h1:(n+m)*bytes≤140737488355328) (h2:n+m≤maxLen) (h3:∀ u∈news,u.oneCell'=true)
  (hk:∀ a' c' M',NewSl M E size a' (n+m) c' (L++news) M'→k a' c' M'):zZ E size bytes a n c m news M k:=by
 unfold zZ;exact⟨h1,h2,h3,.inr (.inl ⟨hc,hn,L,hs,fun a' c' M' _ ho=>hk a' c' M' ho.new⟩)⟩
theorem zyz {E:TypeId} {s n c:Nat} {a:Option Addr} {L:List Value} (h:NewSl M E s a n c L M') (hB:B.le M):∃ B':Mem,B.le B'∧B'.le M'∧SrcOk B' s a n L∧(∀ y,B' y≠none→B y≠none∨M y=none):=by
 refine⟨fun y=>open Classical in if blk a y then M' y else B y,fun y o ho=>?_,fun y o ho=>?_,zgX h.src fun r hr=>?_,fun y hy=>?_⟩
 ·by_cases hb:blk a y
  ·obtain⟨q,hq,rfl⟩:=hb;have:=(h.block hq).1
   rw[hB _ _ ho] at this;cases this
  ·simp_all
 ·by_cases hb:blk a y
  ·simp_all
  ·simp only[if_neg hb] at ho;exact h.le _ _ (hB _ _ ho)
 ·have:blk a r.block:=⟨r,hr,rfl⟩
  simp only[if_pos this]
 ·by_cases hb:blk a y
  ·obtain⟨q,hq,rfl⟩:=hb;exact .inr (h.block hq).1
  ·simp_all
theorem zIh {B':Mem} (hf:∀ y,B' y≠none→B y≠none∨M y=none) {y:Nat} (h1:M y≠none) (h2:B y=none):B' y=none:=by grind
theorem zvN (hle:M.le M') {y:Nat} (h:M' y=none):M y=none:=by
 cases ho:M y with
 | none=>rfl
 | some o=>rw[hle _ _ ho] at h;cases h
def Brows (B:Mem) (vs:List Value) (ls:List (List UInt8)):Prop:=vs.length=ls.length∧∀ (i:Nat) v l,vs[i]? = some v→ls[i]? = some l→∃ q c,v = .slice q l.length c∧l.length≤c∧Row B q l
theorem Brows.le {vs:List Value} {ls:List (List UInt8)} (h:Brows B vs ls) (hle:B.le B'):Brows B' vs ls:=
 ⟨h.1,fun i v l hv hl=>by
  obtain⟨q,c,h1,h2,h3⟩:=h.2 i v l hv hl
  exact⟨q,c,h1,h2,h3.le hle⟩⟩
theorem Brows.nil:Brows B [] []:=⟨rfl,fun _ _ _ h=>by simp at h⟩
theorem Brows.snoc {vs:List Value} {ls:List (List UInt8)} (h:Brows B vs ls) {q:Option Addr} {c:Nat} {l:List UInt8} (hc:l.length≤c) (hl:Row B q l):Brows B (vs++[.slice q l.length c]) (ls++[l]):=by
 have h0:=h.1;refine⟨by simp[h0],fun i v l' hv hl'=>?_⟩;rcases Ydo i ls.length with hi|hi
 ·rw[Yag oM] at hv hl';exact h.2 i v l' hv hl'
 ·grind
theorem Brows.drop {vs:List Value} {ls:List (List UInt8)} (h:Brows B vs ls) (n:Nat):Brows B (vs.drop n) (ls.drop n):=
 ⟨by simp[h.1],fun i v l hv hl=>by
  rw[Ybw] at hv hl
  exact h.2 _ v l hv hl⟩
structure Bl (B M:Mem) (ps:List (Nat→Prop)):Prop where
 live:∀ P∈ps,∀ y,P y→M y≠none
 off:∀ P∈ps,∀ y,P y→B y=none
 dj:ps.Pairwise fun P Q=>∀ y,P y→¬Q y
end
end Go.Vm
def Ydg := @Go.Vm.Row.nil
def Ydq := @Go.Vm.MapAt.new
def Ydr := @Go.Vm.Brows.nil
