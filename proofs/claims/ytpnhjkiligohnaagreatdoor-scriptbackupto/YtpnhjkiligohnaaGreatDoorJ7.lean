/- Part of this proof;laid by program. -/
import Derived.Test.YtpnhjkiligohnaaGreatDoorProg
import Derived.Test.YtpnhjkiligohnaaGreatDoorJ6
set_option linter.unusedVariables false
set_option linter.unusedSimpArgs false
namespace Go.Proofs.YtpnhjkiligohnaaGreatDoor
@[reducible] def F.zj6:Nat:=5
@[reducible] def F.z8:Nat:=7
@[reducible] def F.zee:Nat:=8
@[reducible] def F.zCY:Nat:=9
@[reducible] def F.zcv:Nat:=10
@[reducible] def F.zbO:Nat:=11
@[reducible] def F.zCZ:Nat:=12
@[reducible] def F.zC0:Nat:=13
@[reducible] def F.zfi:Nat:=14
@[reducible] def F.zrg:Nat:=15
@[reducible] def F.zxC:Nat:=16
@[reducible] def F.zcT:Nat:=17
@[reducible] def F.ztb:Nat:=18
@[reducible] def F.zxD:Nat:=19
@[reducible] def F.zvO:Nat:=20
@[reducible] def F.zbH:Nat:=21
@[reducible] def F.zb1:Nat:=22
@[reducible] def F.zfj:Nat:=23
@[reducible] def F.zdO:Nat:=24
@[reducible] def F.zef:Nat:=25
@[reducible] def F.zaq:Nat:=26
@[reducible] def F.zC1:Nat:=27
@[reducible] def F.zzJ:Nat:=28
@[reducible] def F.zuT:Nat:=29
@[reducible] def F.zvP:Nat:=30
@[reducible] def F.zl6:Nat:=31
@[reducible] def F.znI:Nat:=32
@[reducible] def F.zdP:Nat:=33
@[reducible] def F.zgk:Nat:=34
@[reducible] def F.zl7:Nat:=35
@[reducible] def F.zxE:Nat:=36
@[reducible] def F.zvQ:Nat:=37
@[reducible] def F.zt3:Nat:=38
@[reducible] def F.zmD:Nat:=39
@[reducible] def F.zC2:Nat:=40
@[reducible] def F.zxF:Nat:=41
@[reducible] def F.zbP:Nat:=42
@[reducible] def F.zb2:Nat:=43
@[reducible] def F.zcw:Nat:=44
@[reducible] def F.zEM:Nat:=45
@[reducible] def F.zvR:Nat:=46
@[reducible] def F.zGq:Nat:=47
@[reducible] def F.zaX:Nat:=48
@[reducible] def F.ziM:Nat:=49
@[reducible] def F.zaj:Nat:=50
@[reducible] def F.zjk:Nat:=51
@[reducible] def F.zeg:Nat:=52
@[reducible] def F.zW:Nat:=53
@[reducible] def F.znJ:Nat:=54
@[reducible] def F.zeh:Nat:=55
@[reducible] def F.zt4:Nat:=56
@[reducible] def F.zt5:Nat:=57
@[reducible] def F.zho:Nat:=58
@[reducible] def F.zj:Nat:=59
@[reducible] def F.zmE:Nat:=60
@[reducible] def F.zmF:Nat:=61
@[reducible] def F.zcC:Nat:=62
@[reducible] def F.zvS:Nat:=63
@[reducible] def F.zrG:Nat:=64
@[reducible] def F.zqa:Nat:=65
@[reducible] def F.zgX:Nat:=66
@[reducible] def F.zId:Nat:=67
@[reducible] def F.zlP:Nat:=68
@[reducible] def F.zft:Nat:=69
@[reducible] def F.zt6:Nat:=70
@[reducible] def F.zhp:Nat:=71
@[reducible] def F.za6:Nat:=72
@[reducible] def F.zmG:Nat:=73
@[reducible] def F.zmH:Nat:=74
@[reducible] def F.zi5:Nat:=75
@[reducible] def F.zk:Nat:=76
@[reducible] def F.zj7:Nat:=77
@[reducible] def F.zzK:Nat:=78
@[reducible] def F.zxG:Nat:=79
@[reducible] def F.zxH:Nat:=80
@[reducible] def F.zxI:Nat:=81
@[reducible] def F.zxJ:Nat:=82
@[reducible] def F.zuX:Nat:=83
@[reducible] def F.zBA:Nat:=84
@[reducible] def F.zey:Nat:=85
@[reducible] def F.za1:Nat:=87
@[reducible] def F.zdV:Nat:=88
@[reducible] def F.zqb:Nat:=89
@[reducible] def F.zrh:Nat:=90
@[reducible] def F.zoF:Nat:=91
@[reducible] def F.zvT:Nat:=92
@[reducible] def F.zt7:Nat:=93
@[reducible] def F.zt8:Nat:=94
@[reducible] def F.zbI:Nat:=95
@[reducible] def F.zgY:Nat:=96
@[reducible] def F.zmI:Nat:=97
@[reducible] def F.znK:Nat:=98
@[reducible] def F.zmJ:Nat:=99
@[reducible] def F.zbJ:Nat:=100
@[reducible] def F.zi6:Nat:=101
@[reducible] def F.zpM:Nat:=102
@[reducible] def F.zi7:Nat:=103
@[reducible] def F.zoG:Nat:=104
@[reducible] def F.zav:Nat:=105
@[reducible] def F.zmK:Nat:=106
@[reducible] def F.zi8:Nat:=107
@[reducible] def F.zcU:Nat:=108
@[reducible] def F.zmL:Nat:=109
@[reducible] def F.znL:Nat:=110
@[reducible] def F.zkD:Nat:=111
@[reducible] def F.zei:Nat:=112
@[reducible] def F.zgZ:Nat:=113
@[reducible] def F.zj8:Nat:=114
@[reducible] def F.zri:Nat:=115
@[reducible] def F.zzL:Nat:=116
@[reducible] def F.zvU:Nat:=117
@[reducible] def F.zBB:Nat:=118
@[reducible] def F.zxK:Nat:=119
@[reducible] def F.zuY:Nat:=120
@[reducible] def F.zct:Nat:=121
@[reducible] def F.zdi:Nat:=122
@[reducible] def F.zej:Nat:=123
@[reducible] def F.zfk:Nat:=128
@[reducible] def F.zfl:Nat:=129
@[reducible] def F.zcV:Nat:=130
@[reducible] def F.zfd:Nat:=131
@[reducible] def F.zf5:Nat:=132
@[reducible] def F.zek:Nat:=133
@[reducible] def F.zf6:Nat:=134
@[reducible] def F.zrj:Nat:=135
@[reducible] def F.zt9:Nat:=136
@[reducible] def F.zdQ:Nat:=137
@[reducible] def F.zfu:Nat:=138
@[reducible] def F.zmM:Nat:=139
@[reducible] def F.zln:Nat:=140
@[reducible] def F.znM:Nat:=141
@[reducible] def F.zpN:Nat:=142
@[reducible] def F.zpO:Nat:=143
@[reducible] def F.zi9:Nat:=144
@[reducible] def F.zoH:Nat:=145
@[reducible] def F.zce:Nat:=146
@[reducible] def F.zfv:Nat:=147
@[reducible] def F.zlo:Nat:=148
@[reducible] def F.zoI:Nat:=149
@[reducible] def F.zC3:Nat:=150
@[reducible] def F.zmN:Nat:=151
@[reducible] def F.zba:Nat:=152
@[reducible] def F.zvV:Nat:=153
@[reducible] def F.zja:Nat:=154
@[reducible] def F.zoJ:Nat:=155
@[reducible] def F.zdW:Nat:=156
@[reducible] def F.zxL:Nat:=157
@[reducible] def F.zjb:Nat:=158
@[reducible] def F.zhq:Nat:=159
@[reducible] def F.zdq:Nat:=160
@[reducible] def F.zbv:Nat:=161
@[reducible] def F.zrk:Nat:=162
@[reducible] def F.zm9:Nat:=163
@[reducible] def F.zel:Nat:=164
@[reducible] def F.zoz:Nat:=165
@[reducible] def F.zb3:Nat:=166
@[reducible] def F.zvW:Nat:=167
@[reducible] def F.zmO:Nat:=168
@[reducible] def F.zez:Nat:=169
@[reducible] def F.zeA:Nat:=170
@[reducible] def F.zeB:Nat:=171
@[reducible] def F.zem:Nat:=172
@[reducible] def F.zcu:Nat:=173
@[reducible] def F.zqc:Nat:=174
@[reducible] def F.zrl:Nat:=175
@[reducible] def F.za4:Nat:=176
@[reducible] def F.zua:Nat:=177
@[reducible] def F.zbE:Nat:=178
@[reducible] def F.zvX:Nat:=179
@[reducible] def F.zen:Nat:=180
@[reducible] def F.zlp:Nat:=182
@[reducible] def F.zdr:Nat:=186
@[reducible] def F.zdj:Nat:=187
@[reducible] def F.zfe:Nat:=188
@[reducible] def F.zeo:Nat:=189
@[reducible] def F.zg0:Nat:=190
@[reducible] def F.zJJ:Nat:=191
@[reducible] def F.zvY:Nat:=192
@[reducible] def F.zub:Nat:=193
@[reducible] def F.zEN:Nat:=194
@[reducible] def F.zcO:Nat:=195
@[reducible] def F.zaY:Nat:=196
@[reducible] def F.zds:Nat:=197
@[reducible] def F.zj9:Nat:=198
@[reducible] def F.zf7:Nat:=199
@[reducible] def F.znN:Nat:=200
@[reducible] def F.zBC:Nat:=201
@[reducible] def F.zfm:Nat:=202
@[reducible] def F.zcf:Nat:=203
@[reducible] def F.zpP:Nat:=204
@[reducible] def F.zvZ:Nat:=205
@[reducible] def F.zka:Nat:=206
@[reducible] def F.zkb:Nat:=207
@[reducible] def F.zlq:Nat:=208
@[reducible] def F.zdR:Nat:=209
@[reducible] def F.zgl:Nat:=210
@[reducible] def F.zlr:Nat:=211
@[reducible] def F.zxM:Nat:=212
@[reducible] def F.zls:Nat:=213
@[reducible] def F.zpp:Nat:=214
@[reducible] def F.zlQ:Nat:=215
@[reducible] def F.zo4:Nat:=216
@[reducible] def F.zf8:Nat:=217
@[reducible] def F.zdX:Nat:=218
@[reducible] def F.zlR:Nat:=219
@[reducible] def F.zsA:Nat:=220
@[reducible] def F.zuU:Nat:=221
@[reducible] def F.ziN:Nat:=222
@[reducible] def F.za7:Nat:=223
@[reducible] def F.zbQ:Nat:=224
@[reducible] def F.zdL:Nat:=225
@[reducible] def F.zo5:Nat:=226
@[reducible] def F.zep:Nat:=227
@[reducible] def F.zlS:Nat:=228
@[reducible] def F.zhr:Nat:=229
@[reducible] def F.zeq:Nat:=230
@[reducible] def F.zbm:Nat:=231
@[reducible] def F.zcP:Nat:=232
@[reducible] def F.zbF:Nat:=233
@[reducible] def F.zjc:Nat:=234
@[reducible] def F.zdk:Nat:=235
@[reducible] def F.zr1:Nat:=236
@[reducible] def F.zaN:Nat:=237
@[reducible] def F.ztc:Nat:=238
@[reducible] def F.zsB:Nat:=239
@[reducible] def F.zak:Nat:=240
@[reducible] def F.zaw:Nat:=241
@[reducible] def F.zxN:Nat:=242
@[reducible] def F.zpq:Nat:=243
@[reducible] def F.zpr:Nat:=244
@[reducible] def F.zbK:Nat:=245
@[reducible] def F.zbi:Nat:=246
@[reducible] def F.zbZ:Nat:=247
@[reducible] def F.zna:Nat:=248
@[reducible] def F.zGr:Nat:=249
@[reducible] def F.zv0:Nat:=250
@[reducible] def F.zEO:Nat:=251
@[reducible] def F.zIe:Nat:=252
@[reducible] def F.zoK:Nat:=253
@[reducible] def F.zgm:Nat:=254
@[reducible] def F.zoL:Nat:=255
@[reducible] def F.zpQ:Nat:=256
@[reducible] def F.zmP:Nat:=257
@[reducible] def F.zkE:Nat:=258
@[reducible] def F.zcb:Nat:=259
@[reducible] def F.zuc:Nat:=260
@[reducible] def F.zJK:Nat:=261
@[reducible] def F.zr2:Nat:=262
@[reducible] def F.znO:Nat:=263
@[reducible] def F.zsC:Nat:=264
@[reducible] def F.zg1:Nat:=265
@[reducible] def F.zjl:Nat:=266
@[reducible] def F.zsD:Nat:=267
@[reducible] def F.zhs:Nat:=268
@[reducible] def F.zfw:Nat:=269
@[reducible] def F.zeb:Nat:=270
@[reducible] def F.zud:Nat:=271
@[reducible] def F.zkc:Nat:=272
@[reducible] def F.zv1:Nat:=273
@[reducible] def F.zbW:Nat:=274
@[reducible] def F.zoM:Nat:=275
@[reducible] def F.zlT:Nat:=276
@[reducible] def F.znh:Nat:=277
@[reducible] def F.zmQ:Nat:=278
@[reducible] def F.zht:Nat:=279
@[reducible] def F.zah:Nat:=280
@[reducible] def F.zlt:Nat:=281
@[reducible] def F.zon:Nat:=282
@[reducible] def F.zxO:Nat:=283
@[reducible] def F.zjm:Nat:=284
@[reducible] def F.zaa:Nat:=285
@[reducible] def F.zhu:Nat:=286
@[reducible] def F.zf9:Nat:=287
@[reducible] def F.zaE:Nat:=288
@[reducible] def F.zer:Nat:=289
@[reducible] def F.zJL:Nat:=290
@[reducible] def F.zfx:Nat:=291
@[reducible] def F.zhv:Nat:=292
@[reducible] def F.zv2:Nat:=293
@[reducible] def F.zC4:Nat:=294
@[reducible] def F.za5:Nat:=295
@[reducible] def F.zkd:Nat:=296
@[reducible] def F.zhc:Nat:=297
@[reducible] def F.ziO:Nat:=298
@[reducible] def F.zhw:Nat:=299
@[reducible] def F.zes:Nat:=300
@[reducible] def F.zg2:Nat:=301
@[reducible] def F.zjM:Nat:=302
@[reducible] def F.zbj:Nat:=303
@[reducible] def F.zlU:Nat:=304
@[reducible] def F.zjd:Nat:=305
@[reducible] def F.zke:Nat:=306
@[reducible] def F.zjN:Nat:=307
@[reducible] def F.zfy:Nat:=308
@[reducible] def F.ziP:Nat:=309
@[reducible] def F.zlu:Nat:=310
@[reducible] def F.zjn:Nat:=311
@[reducible] def F.zqd:Nat:=312
@[reducible] def F.zGs:Nat:=313
@[reducible] def F.zr3:Nat:=314
@[reducible] def F.zet:Nat:=315
@[reducible] def F.zdl:Nat:=316
@[reducible] def F.zzM:Nat:=317
@[reducible] def F.zEP:Nat:=318
@[reducible] def F.zBD:Nat:=319
@[reducible] def F.zzN:Nat:=320
@[reducible] def F.zaZ:Nat:=321
@[reducible] def F.znP:Nat:=322
@[reducible] def F.zkF:Nat:=323
@[reducible] def F.ziQ:Nat:=324
@[reducible] def F.zcx:Nat:=325
@[reducible] def F.zll:Nat:=326
@[reducible] def F.zr4:Nat:=327
@[reducible] def F.zfz:Nat:=328
@[reducible] def F.zrm:Nat:=329
@[reducible] def F.zcW:Nat:=330
@[reducible] def F.zhx:Nat:=331
@[reducible] def F.zaF:Nat:=332
@[reducible] def F.zue:Nat:=333
@[reducible] def F.zje:Nat:=334
@[reducible] def F.zg3:Nat:=335
@[reducible] def F.zpR:Nat:=336
@[reducible] def F.zff:Nat:=337
@[reducible] def F.zkG:Nat:=338
@[reducible] def F.zg4:Nat:=339
@[reducible] def F.zbG:Nat:=340
@[reducible] def F.zbX:Nat:=341
@[reducible] def F.zbL:Nat:=342
@[reducible] def F.ziR:Nat:=343
@[reducible] def F.zbA:Nat:=344
@[reducible] def F.zni:Nat:=345
@[reducible] def F.zkf:Nat:=346
@[reducible] def F.zlv:Nat:=347
@[reducible] def F.zkH:Nat:=348
@[reducible] def F.zge:Nat:=349
@[reducible] def F.zU:Nat:=350
@[reducible] def F.zjO:Nat:=351
@[reducible] def F.zmR:Nat:=352
@[reducible] def F.zc2:Nat:=353
@[reducible] def F.zmS:Nat:=354
@[reducible] def F.zzO:Nat:=355
@[reducible] def F.zdm:Nat:=356
@[reducible] def F.za0:Nat:=357
@[reducible] def F.zdS:Nat:=358
@[reducible] def F.zea:Nat:=359
@[reducible] def F.zbe:Nat:=360
@[reducible] def F.zfa:Nat:=361
@[reducible] def F.zGt:Nat:=362
@[reducible] def F.zEQ:Nat:=363
@[reducible] def F.zps:Nat:=364
@[reducible] def F.zbB:Nat:=367
@[reducible] def F.znj:Nat:=368
@[reducible] def F.zkg:Nat:=369
@[reducible] def F.zlw:Nat:=370
@[reducible] def F.zkI:Nat:=371
@[reducible] def F.zgf:Nat:=372
@[reducible] def F.zjP:Nat:=373
@[reducible] def F.zmT:Nat:=374
@[reducible] def F.zhy:Nat:=375
@[reducible] def F.zzP:Nat:=376
@[reducible] def F.zdM:Nat:=377
@[reducible] def F.zfb:Nat:=378
@[reducible] def F.zbs:Nat:=379
@[reducible] def F.zgc:Nat:=380
@[reducible] def F.zpt:Nat:=381
@[reducible] def F.zbM:Nat:=382
@[reducible] def F.zcc:Nat:=383
@[reducible] def F.zBE:Nat:=384
@[reducible] def F.zC5:Nat:=385
@[reducible] def F.zrH:Nat:=386
@[reducible] def F.zfc:Nat:=387
@[reducible] def F.zbt:Nat:=388
@[reducible] def F.zgd:Nat:=389
@[reducible] def F.zl8:Nat:=390
@[reducible] def F.zdn:Nat:=391
@[reducible] def F.zcy:Nat:=392
@[reducible] def F.zcz:Nat:=393
@[reducible] def T.int:TypeId:=3
@[reducible] def T.zar:TypeId:=4
@[reducible] def T.zM:TypeId:=5
@[reducible] def T.zUo:TypeId:=9
@[reducible] def T.zY:TypeId:=22
@[reducible] def T.zGu:TypeId:=23
@[reducible] def T.zIf:TypeId:=25
@[reducible] def T.zC6:TypeId:=27
@[reducible] def T.zGv:TypeId:=28
@[reducible] def T.zch:TypeId:=30
@[reducible] def T.zci:TypeId:=58
@[reducible] def T.zG:TypeId:=61
@[reducible] def T.zcX:TypeId:=99
@[reducible] def T.zIg:TypeId:=137
@[reducible] def T.zzQ:TypeId:=201
@[reducible] def T.zIh:TypeId:=258
@[reducible] def T.zrn:TypeId:=274
@[reducible] def T.znQ:TypeId:=292
@[reducible] def T.zc3:TypeId:=433
end Go.Proofs.YtpnhjkiligohnaaGreatDoor
namespace Go.Vm
theorem brn {x:Bool} {A B:Prop} (h:x=true→A) (h':x=false→B):Brn x A B:=⟨h,h'⟩
theorem brn_t {x:Bool} {A B:Prop} (hx:x=true) (h:A):Brn x A B:=⟨fun _=>h,fun e=>absurd (hx.symm.trans e) (by simp)⟩
theorem brn_f {x:Bool} {A B:Prop} (hx:x=false) (h:B):Brn x A B:=⟨fun e=>absurd (hx.symm.trans e) (by simp),fun _=>h⟩
theorem ob {p A:Prop} (h:p) (h':A):Ob p A:=⟨h,h'⟩
theorem obr {k:IntKind} {r:Int} {K:SV→Prop} (h:inR k r) (h':K (.int k r)):ObR k r K:=⟨by rw[show k.wrap r=r from h];exact h'⟩
theorem grow_same {X M:Mem} {A:Mem→Prop} (h:X.le M) (h':A X):Grow X M A:=⟨X,fun _ _ h=>h,h,h'⟩
theorem on {α:Type} {x:Option α} {l:α} {k:α→Prop} (h:x=some l) (h':k l):onO x k:=by subst h;exact h'
theorem atp {a:Option Addr} {b o:Nat} {k:Nat→Nat→Prop} (h:a=some ⟨b,o,none⟩) (h':k b o):atO a k:=by subst h;exact h'
theorem CallsM.mono {P:Program} {f:Nat} {args:List Value} {M:Mem} {R R':Value→Mem→Prop} (h:CallsM P f args M R) (hr:∀ v M',R v M'→R' v M'):CallsM P f args M R':=
 ⟨h.1,fun F w h1 h2 h3=>(h.2 F w h1 h2 h3).mono fun _ _ ⟨v,M',he,hk,hx⟩=>⟨v,M',he,hr v M' hk,hx⟩⟩
theorem zTJ {σ:Type} {body:(Exit→St→Prop)→St→Prop} {Q:Exit→St→Prop} {s:St} (st:σ→St) (inv:σ→Prop) (μ:σ→Nat) (x0:σ) (h0:inv x0) (hs:(st x0).sub s)
  (h:∀ x,inv x→body (zxl Q fun s'=>∃ y,inv y∧μ y<μ x∧(st y).sub s') (st x)):za9 body Q s:=
 ⟨fun m t=>∃ x,inv x∧μ x=m∧t=st x,⟨_,_,⟨x0,h0,rfl,rfl⟩,hs⟩,fun m t ⟨x,hx,hm,ht⟩=>by
  subst hm;subst ht
  have e:(fun s'=>∃ m' t',m'<μ x∧(∃ y,inv y∧μ y=m'∧t'=st y)∧t'.sub s')=fun s'=>∃ y,inv y∧μ y<μ x∧(st y).sub s':=by
   funext s';apply propext;constructor
   ·rintro ⟨m',t',h1,⟨y,h2,rfl,rfl⟩,h3⟩;exact⟨y,h2,h1,h3⟩
   ·rintro ⟨y,h1,h2,h3⟩;exact⟨_,_,h2,⟨y,h1,rfl,rfl⟩,h3⟩
  rw[e]
  exact h x hx⟩
theorem loop {σ:Type} {body:(Exit→St→Prop)→St→Prop} {Q:Exit→St→Prop} {s:St} (st:σ→St) (inv:σ→Prop) (μ:σ→Nat) (x0:σ) (h0:inv x0) (hs:(st x0).sub s)
  (h:∀ x,inv x→body (zxl Q fun s'=>∃ y,inv y∧μ y<μ x∧(st y).sub s') (st x)):zbd body Q s := .inl (zTJ st inv μ x0 h0 hs h)
theorem zcD {σ:Type} {body:(Exit→St→Prop)→St→Prop} {Q:Exit→St→Prop} {fr0:List (Nat×SV)} {bx0:List BE} {M0:Mem} (keys:List Nat) (fr:σ→List (Nat×SV)) (bx:σ→List BE) (mem:σ→Mem) (inv:σ→Prop) (μ:σ→Nat) (x0:σ) (h0:inv x0)
  (hs:St.sub ⟨fr x0++zky keys fr0,bx x0,mem x0⟩ ⟨fr0,bx0,M0⟩)
  (h:∀ x,inv x→body (zxl Q fun s'=>∃ y,inv y∧μ y<μ x∧St.sub ⟨fr y++zky keys fr0,bx y,mem y⟩ s') ⟨fr x++zky keys fr0,bx x,mem x⟩):zbd body Q ⟨fr0,bx0,M0⟩:=
 loop (fun x=>⟨fr x++zky keys fr0,bx x,mem x⟩) inv μ x0 h0 hs h
theorem zTK {σ:Type} {body:(Exit→St→Prop)→St→Prop} {Q:Exit→St→Prop} {fr0:List (Nat×SV)} {bx0:List BE} {M0:Mem} (keys:List Nat) (fr:σ→List (Nat×SV)) (inv:σ→Prop) (μ:σ→Nat) (x0:σ) (h0:inv x0)
  (hs:St.sub ⟨fr x0++zky keys fr0,bx0,M0⟩ ⟨fr0,bx0,M0⟩)
  (h:∀ x,inv x→body (zxl Q fun s'=>∃ y,inv y∧μ y<μ x∧St.sub ⟨fr y++zky keys fr0,bx0,M0⟩ s') ⟨fr x++zky keys fr0,bx0,M0⟩):zbd body Q ⟨fr0,bx0,M0⟩:=
 loop (fun x=>⟨fr x++zky keys fr0,bx0,M0⟩) inv μ x0 h0 hs h
theorem app {E:TypeId} {size bytes:Nat} {a:Option Addr} {n c m:Nat} {news:List Value} {M:Mem} {k:Option Addr→Nat→Mem→Prop} (M0:Mem) (L:List Value) (hown:Own M0 E size a n c L M)
  (h1:(n+m)*bytes≤140737488355328) (h2:n+m≤maxLen) (h3:∀ u∈news,u.oneCell'=true) (hk:∀ a' c' M',Own M0 E size a' (n+m) c' (L++news) M'→k a' c' M'):zbN E size bytes a n c m news M k:=
 ⟨h1,h2,h3,.inl ⟨M0,L,hown,fun a' c' M' _ ho=>hk a' c' M' ho⟩⟩
theorem zUp {M:Mem} {size:Nat} {a:Option Addr} {n:Nat} {k:List Value→Prop} {vs:List Value} (h:SrcOk M size a n vs) (hk:k vs):zcZ M size a n k:=⟨vs,h,hk⟩
theorem zSA {M:Mem} {a:Option Addr} {n:Nat} {k:SV→Prop} {bs:List UInt8} (h:SrcOk M 1 a n (bs.map zy)) (hk:k (.c (.v (.string ⟨bs.toArray⟩)))):zcB M a n k:=⟨bs,h,hk⟩
theorem new {M:Mem} {k:Nat→Prop} (h:∀ b,M b=none→k b):New M k:=h
theorem Mem.le_setCells {M:Mem} {b:Nat} {E:TypeId} {l:List Value} (h:M b=none):M.le (M.setCells b E l):=fun c o hc=>by
 have hne:c≠b:=fun e=>by subst e;rw[h] at hc;cases hc
 simpa[Mem.setCells,Mem.upd_ne _ _ hne] using hc
theorem Own.none (M:Mem) (E:TypeId) (size:Nat):Own M E size none 0 0 [] M:=⟨by simp,Nat.le_refl _,.inl ⟨rfl,rfl,rfl⟩⟩
theorem Own.lit {M:Mem} {b:Nat} (h:M b=Option.none) (E:TypeId) (size n:Nat) (L:List Value) (hl:L.length=n*size):Own M E size (some ⟨b,0,Option.none⟩) n n L (M.setCells b E L):=
 ⟨hl,Nat.le_refl _,.inr ⟨b,L,rfl,h,rfl,hl,by rw[List.take_of_length_le (by omega)]⟩⟩
theorem Own.base {M0:Mem} {E:TypeId} {size:Nat} {a:Option Addr} {n c:Nat} {L:List Value} {M:Mem} (h:Own M0 E size a n c L M):M0.le M:=by
 obtain⟨_,_,⟨_,_,rfl⟩|⟨b,cs,_,hb,rfl,_,_⟩⟩:=h
 ·exact Mem.le_refl _
 ·exact Mem.le_setCells hb
theorem Own.src {M0:Mem} {E:TypeId} {size:Nat} {a:Option Addr} {n c:Nat} {L:List Value} {M:Mem} (h:Own M0 E size a n c L M):SrcOk M size a n L:=by
 obtain⟨hl,hc,⟨rfl,rfl,rfl⟩|⟨b,cs,rfl,hb,rfl,hcl,ht⟩⟩:=h
 ·refine⟨hl,.inl ?_⟩;have:n=0:=by omega
  subst this;simpa using hl
 ·refine⟨hl,.inr ⟨b,0,rfl,?_⟩⟩;have:n*size≤c*size:=Nat.mul_le_mul_right _ hc
  simp only[Mem.row,Mem.setCells,Mem.upd_same];rw[if_pos (by simp;omega)];simp[ht]
theorem Mem.row_le {A M:Mem} (h:A.le M) {b o n:Nat} {vs:List Value} (hr:A.row b o n=some vs):M.row b o n=some vs:=by
 unfold Mem.row at hr ⊢;cases hA:A b with
 | none=>rw[hA] at hr;cases hr
 | some x=>rw[hA] at hr;rw[h b x hA];exact hr
theorem SrcOk.le {A M:Mem} (h:A.le M) {size:Nat} {a:Option Addr} {n:Nat} {vs:List Value} (hs:SrcOk A size a n vs):SrcOk M size a n vs:=by
 obtain⟨hl,h1|⟨b,o,ha,h2⟩⟩:=hs
 ·exact⟨hl,.inl h1⟩
 ·exact⟨hl,.inr ⟨b,o,ha,Mem.row_le h h2⟩⟩
theorem SrcOk.elem {M:Mem} {s:Nat} {a:Option Addr} {n:Nat} {vs:List Value} (h:SrcOk M s a n vs) {j:Nat} (hj:j<n) (hs:0<s) :
  ∃ b o,a=some ⟨b,o,Option.none⟩∧∀ p m,p+m≤s→M.row b (o+j*s+p) m=some ((vs.drop (j*s+p)).take m):=by
 obtain⟨hl,h⟩:=h;have hle:(j+1)*s≤n*s:=Nat.mul_le_mul_right _ hj
 rw[Nat.succ_mul] at hle;rcases h with rfl|⟨b,o,rfl,hr⟩
 ·simp at hl;omega
 ·refine⟨b,o,rfl,fun p m hpm=>?_⟩;unfold Mem.row at hr ⊢;split at hr
  ·rename_i c e fz hM;split at hr
   ·simp only[Option.some.injEq] at hr;rw[if_pos (by omega),←hr];congr 1;rw[List.drop_take,List.drop_drop,List.take_take];rw[Nat.min_eq_left (by omega)];congr 2;omega
   ·cases hr
  ·cases hr
theorem SrcOk.get {M:Mem} {a:Option Addr} {n:Nat} {vs:List Value} (h:SrcOk M 1 a n vs) {j:Nat} {v:Value} (hv:vs[j]? = some v):∃ b o,a=some ⟨b,o,Option.none⟩∧M.row b (o+j*1) 1=some [v]:=by
 have hl:=h.1;have hj:=(List.getElem?_eq_some_iff.1 hv).1
 obtain⟨b,o,h1,h2⟩:=h.elem (j:=j) (by omega) (by omega);refine⟨b,o,h1,?_⟩;have:=h2 0 1 (by omega)
 simp only[Nat.add_zero] at this;rw[List.getElem?_eq_getElem hj] at hv;have hv:=Option.some.inj hv
 rw[this,Nat.mul_one,List.drop_eq_getElem_cons hj,hv];simp
theorem zs {n:Int} (h : -9223372036854775808≤n∧n≤9223372036854775807):inR .i64 n:=by
 unfold inR;rw[IntKind.wrap_i64];omega
end Go.Vm
namespace Go.Vm
theorem Mem.le_upd {M:Mem} {b:Nat} {x:Obj} (h:M b=none):M.le (M.upd b x):=fun c o hc=>by
 have hne:c≠b:=fun e=>by subst e;rw[h] at hc;cases hc
 simpa[Mem.upd,hne] using hc
def Mem.has (M:Mem) (b:Nat) (E:TypeId) (l:List Value):Prop:=M b=some (.cells l.toArray E (0,0))
theorem Mem.has.cells {M:Mem} {b:Nat} {E:TypeId} {l:List Value} (h:M.has b E l):M.cells b=some (E,l):=by unfold Mem.has at h;simp[Mem.cells,h]
theorem Mem.has.row {M:Mem} {b:Nat} {E:TypeId} {l:List Value} (h:M.has b E l) {o n:Nat} (hn:o+n≤l.length):M.row b o n=some ((l.drop o).take n):=by unfold Mem.has at h;simp[Mem.row,h,hn]
theorem Mem.has.le {A M:Mem} (hle:A.le M) {b:Nat} {E:TypeId} {l:List Value} (h:A.has b E l):M.has b E l:=hle _ _ h
theorem Mem.has_setCells {M:Mem} {b:Nat} {E:TypeId} {l:List Value}:(M.setCells b E l).has b E l:=by simp[Mem.has,Mem.setCells,Mem.upd]
def NewSl (M:Mem) (E:TypeId) (size:Nat) (a:Option Addr) (n c:Nat) (L:List Value) (M':Mem):Prop:=∃ M0,M.le M0∧Own M0 E size a n c L M'
theorem Own.new {M:Mem} {E:TypeId} {size:Nat} {a:Option Addr} {n c:Nat} {L:List Value} {M':Mem} (h:Own M E size a n c L M'):NewSl M E size a n c L M':=⟨M,Mem.le_refl _,h⟩
theorem NewSl.none (M:Mem) (E:TypeId) (size:Nat):NewSl M E size none 0 0 [] M:=(Own.none M E size).new
theorem NewSl.lit {M:Mem} {b:Nat} (h:M b=Option.none) (E:TypeId) (size n:Nat) (L:List Value) (hl:L.length=n*size):NewSl M E size (some ⟨b,0,Option.none⟩) n n L (M.setCells b E L):=(Own.lit h E size n L hl).new
theorem NewSl.le {M:Mem} {E:TypeId} {size:Nat} {a:Option Addr} {n c:Nat} {L:List Value} {M':Mem} (h:NewSl M E size a n c L M'):M.le M':=by
 obtain⟨M0,h0,h1⟩:=h;exact Mem.le_trans h0 h1.base
theorem NewSl.src {M:Mem} {E:TypeId} {size:Nat} {a:Option Addr} {n c:Nat} {L:List Value} {M':Mem} (h:NewSl M E size a n c L M'):SrcOk M' size a n L:=by
 obtain⟨M0,h0,h1⟩:=h;exact h1.src
theorem NewSl.mono {A M:Mem} {E:TypeId} {size:Nat} {a:Option Addr} {n c:Nat} {L:List Value} {M':Mem} (h:NewSl M E size a n c L M') (hA:A.le M):NewSl A E size a n c L M':=by
 obtain⟨M0,h0,h1⟩:=h;exact⟨M0,Mem.le_trans hA h0,h1⟩
theorem SrcOk.nil (M:Mem) (size:Nat):SrcOk M size none 0 []:=⟨by simp,.inl rfl⟩
theorem SrcOk.len {M:Mem} {size:Nat} {a:Option Addr} {n:Nat} {l:List Value} (h:SrcOk M size a n l):l.length=n*size:=h.1
def Mem.keep (S:Nat→Prop) (M M':Mem):Prop:=∀ b o,¬S b→M b=some o→M' b=some o
theorem Mem.keep_refl (S:Nat→Prop) (M:Mem):Mem.keep S M M:=fun _ _ _ h=>h
theorem Mem.keep_of_le {S:Nat→Prop} {M M':Mem} (h:M.le M'):Mem.keep S M M':=fun b o _ hb=>h b o hb
theorem Mem.keep_trans {S:Nat→Prop} {A B C:Mem} (h:Mem.keep S A B) (h':Mem.keep S B C):Mem.keep S A C:=fun b o hn hb=>h' b o hn (h b o hn hb)
theorem Mem.keep_upd {S:Nat→Prop} (M:Mem) {b:Nat} (x:Obj) (hb:S b):Mem.keep S M (M.upd b x):=fun c o hn hc=>by
 have hne:c≠b:=fun e=>by subst e;exact hn hb
 simpa[Mem.upd,hne] using hc
theorem Mem.keep.le {S:Nat→Prop} {M0 M M':Mem} (h:Mem.keep S M M') (h0:M0.le M) (hS:∀ b,S b→M0 b=none):M0.le M':=fun b o hb=>h b o (fun hs=>by rw[hS b hs] at hb;cases hb) (h0 b o hb)
end Go.Vm
namespace Go.Vm
theorem SrcOk.at {α:Type} {M:Mem} {a:Option Addr} {n:Nat} {l:List α} {f:α→Value} (h:SrcOk M 1 a n (l.map f)) {i:Nat} (hi:i<n) :
  ∃ (hl:i<l.length) (b o:Nat),a=some ⟨b,o,Option.none⟩∧M.row b (o+i*1) 1=some [f l[i]]:=by
 have hl:l.length=n:=by simpa using h.1
 obtain⟨b,o,h1,h2⟩:=h.get (j:=i) (v:=f (l[i]'(by omega))) (by simp[List.getElem?_eq_getElem (show i<l.length by omega)]);exact⟨by omega,b,o,h1,h2⟩
theorem SrcOk.maplen {α:Type} {M:Mem} {a:Option Addr} {n:Nat} {l:List α} {f:α→Value} (h:SrcOk M 1 a n (l.map f)):l.length=n:=by simpa using h.1
end Go.Vm
namespace Go.Vm
theorem newSl_iff {M:Mem} {E:TypeId} {s:Nat} {a:Option Addr} {n c:Nat} {L:List Value} {M':Mem} :
  NewSl M E s a n c L M'↔M.le M'∧L.length=n*s∧n≤c∧((a=Option.none∧c=0)∨∃ b cs,a=some ⟨b,0,Option.none⟩∧M b=Option.none∧M'.has b E cs∧cs.length=c*s∧cs.take (n*s)=L):=by
 constructor
 ·intro h;refine⟨h.le,?_⟩;obtain⟨M0,h0,h1,h2,h3⟩:=h;refine⟨h1,h2,?_⟩;rcases h3 with ⟨ha,hc,_⟩|⟨b,cs,ha,hb,rfl,hl,ht⟩
  ·exact .inl ⟨ha,hc⟩
  ·refine .inr ⟨b,cs,ha,?_,Mem.has_setCells,hl,ht⟩;cases hx:M b with
   | none=>rfl
   | some x=>rw[h0 b x hx] at hb;cases hb
 ·rintro ⟨hle,h1,h2,⟨ha,hc⟩|⟨b,cs,ha,hb,hh,hl,ht⟩⟩
  ·exact⟨M',hle,h1,h2,.inl ⟨ha,hc,rfl⟩⟩
  ·refine⟨fun x=>if x=b then none else M' x,fun x o hx=>?_,h1,h2,.inr ⟨b,cs,ha,by simp,?_,hl,ht⟩⟩
   ·have hne:x≠b:=fun e=>by subst e;rw[hb] at hx;cases hx
    simp only[if_neg hne];exact hle x o hx
   ·funext x;simp only[Mem.setCells,Mem.upd];split
    ·rename_i e;subst e;exact hh
    ·rfl
theorem NewSl.up {M:Mem} {E:TypeId} {s:Nat} {a:Option Addr} {n c:Nat} {L:List Value} {M1 M2:Mem} (h:NewSl M E s a n c L M1) (hle:M1.le M2):NewSl M E s a n c L M2:=by
 rw[newSl_iff] at h ⊢;obtain⟨h0,h1,h2,h3⟩:=h;exact⟨Mem.le_trans h0 hle,h1,h2,h3.imp id fun ⟨b,cs,ha,hb,hh,hr⟩=>⟨b,cs,ha,hb,hle _ _ hh,hr⟩⟩
theorem NewSl.keep {M:Mem} {E:TypeId} {s:Nat} {a:Option Addr} {n c:Nat} {L:List Value} {M1 M2:Mem} {S:Nat→Prop} (h:NewSl M E s a n c L M1) (hk:Mem.keep S M1 M2) (hS:∀ b,S b→M b=Option.none) (ha:∀ p,a=some p→¬S p.block):NewSl M E s a n c L M2:=by
 rw[newSl_iff] at h ⊢;obtain⟨h0,h1,h2,h3⟩:=h;exact⟨hk.le h0 hS,h1,h2,h3.imp id fun ⟨b,cs,hab,hb,hh,hr⟩=>⟨b,cs,hab,hb,hk _ _ (ha _ hab) hh,hr⟩⟩
end Go.Vm
namespace Go.Vm
def Mem.empty:Mem:=fun _=>none
theorem Mem.empty_le (M:Mem):Mem.empty.le M:=fun _ _ h=>by cases h
end Go.Vm
namespace Go.Vm
theorem Mem.has.c1 {M:Mem} {b:Nat} {E:TypeId} {l:List Value} (h:M.has b E l) {o:Nat} {v:Value} (hv:l[o]? = some v):M.row b o 1=some [v]:=by
 have hl:=(List.getElem?_eq_some_iff.1 hv).1;rw[h.row (by omega),List.drop_eq_getElem_cons hl];have:=(List.getElem?_eq_some_iff.1 hv).2
 simp[this]
end Go.Vm
namespace Go.Vm
theorem NewSl.block {M:Mem} {E:TypeId} {s:Nat} {a:Option Addr} {n c:Nat} {L:List Value} {M':Mem} (h:NewSl M E s a n c L M') {q:Addr} (ha:a=some q):M q.block=Option.none∧∃ cs,M'.has q.block E cs:=by
 rw[newSl_iff] at h;obtain⟨_,_,_,⟨h3,_⟩|⟨b,cs,hab,hb,hh,_⟩⟩:=h
 ·rw[h3] at ha;cases ha
 ·rw[hab] at ha;cases ha;exact⟨hb,cs,hh⟩
theorem Mem.has.inj {M:Mem} {b:Nat} {E E':TypeId} {l l':List Value} (h:M.has b E l) (h':M.has b E' l'):E=E'∧l=l':=by
 unfold Mem.has at h h';rw[h] at h';simp at h';exact⟨h'.2,h'.1⟩
def Wr (M:Mem) (E:TypeId) (s:Nat) (a:Option Addr) (n c:Nat) (L:List Value):Prop:=
 L.length=n*s∧n≤c∧((a=Option.none∧c=0)∨∃ b cs,a=some ⟨b,0,Option.none⟩∧M.has b E cs∧cs.length=c*s∧cs.take (n*s)=L)
theorem NewSl.wr {M:Mem} {E:TypeId} {s:Nat} {a:Option Addr} {n c:Nat} {L:List Value} {M':Mem} (h:NewSl M E s a n c L M'):Wr M' E s a n c L:=by
 rw[newSl_iff] at h;obtain⟨_,h1,h2,h3⟩:=h;exact⟨h1,h2,h3.imp id fun ⟨b,cs,ha,_,hr⟩=>⟨b,cs,ha,hr⟩⟩
theorem Wr.mono {M M':Mem} {E:TypeId} {s:Nat} {a:Option Addr} {n c:Nat} {L:List Value} (h:Wr M E s a n c L) (hk:∀ p o,a=some p→M p.block=some o→M' p.block=some o):Wr M' E s a n c L:=by
 obtain⟨h1,h2,h3⟩:=h;exact⟨h1,h2,h3.imp id fun ⟨b,cs,ha,hh,hr⟩=>⟨b,cs,ha,hk _ _ ha hh,hr⟩⟩
theorem Wr.le {M M':Mem} {E:TypeId} {s:Nat} {a:Option Addr} {n c:Nat} {L:List Value} (h:Wr M E s a n c L) (hle:M.le M'):Wr M' E s a n c L:=h.mono fun _ _ _=>hle _ _
def Elems {α:Type} (M:Mem) (s:Nat) (a:Option Addr) (n:Nat) (R:List Value→α→Prop) (l:List α):Prop:=
 ∃ css:List (List Value),SrcOk M s a n css.flatten∧css.length=n∧l.length=n∧(∀ cs∈css,cs.length=s)∧∀ (i:Nat) cs x,css[i]? = some cs→l[i]? = some x→R cs x
theorem Elems.len {α:Type} {M:Mem} {s:Nat} {a:Option Addr} {n:Nat} {R:List Value→α→Prop} {l:List α} (h:Elems M s a n R l):l.length=n:=by
 obtain⟨_,_,_,h,_⟩:=h;exact h
theorem Elems.imp {α:Type} {M M':Mem} {s:Nat} {a:Option Addr} {n:Nat} {R R':List Value→α→Prop} {l:List α} (h:Elems M s a n R l) (hle:M.le M') (hR:∀ cs x,x∈l→R cs x→R' cs x):Elems M' s a n R' l:=by
 obtain⟨css,h1,h2,h3,h4,h5⟩:=h;exact⟨css,h1.le hle,h2,h3,h4,fun i cs x hi hx=>hR _ _ (List.mem_of_getElem? hx) (h5 i cs x hi hx)⟩
theorem zpS {α:Type} {s:Nat}:∀ {css:List (List α)} (_:∀ cs∈css,cs.length=s) {i:Nat} {cs:List α} (_:css[i]? = some cs),(css.flatten.drop (i*s)).take s=cs
 | [],_,i,cs,hi=>by simp at hi
 | c::r,h,0,cs,hi=>by
  simp at hi;subst hi;have:c.length=s:=h c (by simp)
  simp[←this]
 | c::r,h,i+1,cs,hi=>by
  have hc:c.length=s:=h c (by simp);simp only[List.flatten_cons];rw[Nat.succ_mul,Nat.add_comm,←List.drop_drop,show (c++r.flatten).drop s=r.flatten by rw[←hc];simp];exact zpS (fun cs hcs=>h cs (List.mem_cons_of_mem _ hcs)) (by simpa using hi)
theorem Elems.at {α:Type} {M:Mem} {s:Nat} {a:Option Addr} {n:Nat} {R:List Value→α→Prop} {l:List α} (h:Elems M s a n R l) (hs:0<s) {i:Nat} (hi:i<n) :
  ∃ (hl:i<l.length) (b o:Nat) (cs:List Value),a=some ⟨b,o,Option.none⟩∧(∀ p m,p+m≤s→M.row b (o+i*s+p) m=some ((cs.drop p).take m))∧M.row b (o+i*s) s=some cs∧cs.length=s∧R cs l[i]:=by
 obtain⟨css,h1,h2,h3,h4,h5⟩:=h;obtain⟨b,o,ha,hr⟩:=h1.elem hi hs;have hcs:css[i]? = some (css[i]'(by omega)):=List.getElem?_eq_getElem (by omega)
 have hlen:(css[i]'(by omega)).length=s:=h4 _ (List.getElem_mem _)
 have key:∀ p m,p+m≤s→M.row b (o+i*s+p) m=some (((css[i]'(by omega)).drop p).take m):=by
  intro p m hpm;rw[hr p m hpm,←zpS h4 hcs,List.drop_take,List.drop_drop,List.take_take];congr 2;omega
 refine⟨by omega,b,o,css[i]'(by omega),ha,key,?_,hlen,h5 i _ _ hcs (List.getElem?_eq_getElem (by omega))⟩;have:=key 0 s (by omega)
 rw[Nat.add_zero] at this;rw[this,List.drop_zero,List.take_of_length_le (by omega)]
theorem Elems.nil {α:Type} (M:Mem) (s:Nat) (R:List Value→α→Prop):Elems M s Option.none 0 R []:=⟨[],SrcOk.nil M s,rfl,rfl,by simp,by simp⟩
def NewEls {α:Type} (M:Mem) (E:TypeId) (s:Nat) (a:Option Addr) (n c:Nat) (R:List Value→α→Prop) (l:List α) (M':Mem):Prop:=
 ∃ css:List (List Value),NewSl M E s a n c css.flatten M'∧css.length=n∧l.length=n∧(∀ cs∈css,cs.length=s)∧∀ (i:Nat) cs x,css[i]? = some cs→l[i]? = some x→R cs x
theorem NewEls.le {α:Type} {M:Mem} {E:TypeId} {s:Nat} {a:Option Addr} {n c:Nat} {R:List Value→α→Prop} {l:List α} {M':Mem} (h:NewEls M E s a n c R l M'):M.le M':=by
 obtain⟨css,h1,hr⟩:=h;exact h1.le
theorem NewEls.block {α:Type} {M:Mem} {E:TypeId} {s:Nat} {a:Option Addr} {n c:Nat} {R:List Value→α→Prop} {l:List α} {M':Mem} (h:NewEls M E s a n c R l M') {q:Addr} (ha:a=some q):M q.block=Option.none∧∃ cs,M'.has q.block E cs:=by
 obtain⟨css,h1,_⟩:=h;exact h1.block ha
theorem NewEls.nil {α:Type} (M:Mem) (E:TypeId) (s:Nat) (R:List Value→α→Prop):NewEls M E s Option.none 0 0 R [] M:=⟨[],NewSl.none M E s,rfl,rfl,by simp,by simp⟩
theorem NewEls.imp {α:Type} {M:Mem} {E:TypeId} {s:Nat} {a:Option Addr} {n c:Nat} {R R':List Value→α→Prop} {l:List α} {M':Mem} (h:NewEls M E s a n c R l M') (hR:∀ cs x,x∈l→R cs x→R' cs x):NewEls M E s a n c R' l M':=by
 obtain⟨css,h1,h2,h3,h4,h5⟩:=h;exact⟨css,h1,h2,h3,h4,fun i cs x hi hx=>hR _ _ (List.mem_of_getElem? hx) (h5 i cs x hi hx)⟩
theorem NewEls.up {α:Type} {M:Mem} {E:TypeId} {s:Nat} {a:Option Addr} {n c:Nat} {R:List Value→α→Prop} {l:List α} {M1 M2:Mem} (h:NewEls M E s a n c R l M1) (hle:M1.le M2):NewEls M E s a n c R l M2:=by
 obtain⟨css,h1,hr⟩:=h;exact⟨css,h1.up hle,hr⟩
theorem NewEls.keep {α:Type} {M:Mem} {E:TypeId} {s:Nat} {a:Option Addr} {n c:Nat} {R:List Value→α→Prop} {l:List α} {M1 M2:Mem} {S:Nat→Prop} (h:NewEls M E s a n c R l M1) (hk:Mem.keep S M1 M2) (hS:∀ b,S b→M b=Option.none) (ha:∀ p,a=some p→¬S p.block):NewEls M E s a n c R l M2:=by
 obtain⟨css,h1,hr⟩:=h;exact⟨css,h1.keep hk hS ha,hr⟩
theorem NewEls.mono {α:Type} {A M:Mem} {E:TypeId} {s:Nat} {a:Option Addr} {n c:Nat} {R:List Value→α→Prop} {l:List α} {M':Mem} (h:NewEls M E s a n c R l M') (hA:A.le M):NewEls A E s a n c R l M':=by
 obtain⟨css,h1,hr⟩:=h;exact⟨css,h1.mono hA,hr⟩
def blk (a:Option Addr):Nat→Prop:=fun x=>∃ q,a=some q∧q.block=x
theorem appK {E:TypeId} {size bytes:Nat} {a:Option Addr} {n c m:Nat} {news:List Value} {M:Mem} {k:Option Addr→Nat→Mem→Prop} (M0:Mem) (L:List Value) (hown:NewSl M0 E size a n c L M)
  (h1:(n+m)*bytes≤140737488355328) (h2:n+m≤maxLen) (h3:∀ u∈news,u.oneCell'=true) (hk:∀ a' c' M',NewSl M0 E size a' (n+m) c' (L++news) M'→Mem.keep (blk a) M M'→k a' c' M'):zbN E size bytes a n c m news M k:=by
 rw[newSl_iff] at hown;obtain⟨h0,h4,h5,⟨ha,hc⟩|⟨b,cs,ha,hb,hh,hl,ht⟩⟩:=hown
 ·refine app M L ⟨h4,h5,.inl ⟨ha,hc,rfl⟩⟩ h1 h2 h3 fun a' c' M' ho=>hk a' c' M' ⟨M,h0,ho⟩ (Mem.keep_of_le ho.base)
 ·refine app (fun x=>if x=b then Option.none else M x) L ⟨h4,h5,.inr ⟨b,cs,ha,by simp,?_,hl,ht⟩⟩ h1 h2 h3 fun a' c' M' ho=>hk a' c' M' ⟨_,?_,ho⟩ ?_
  ·funext x;simp only[Mem.setCells,Mem.upd];split
   ·rename_i e;subst e;exact hh
   ·rfl
  ·intro x o hx;have hne:x≠b:=fun e=>by subst e;rw[hb] at hx;cases hx
   simp only[if_neg hne];exact h0 x o hx
  ·intro x o hn hx;have hne:x≠b:=fun e=>hn ⟨_,ha,e.symm⟩
   exact ho.base x o (by simp only[if_neg hne];exact hx)
theorem zUq {α:Type} {E:TypeId} {s bytes:Nat} {a:Option Addr} {n c:Nat} {news:List Value} {M:Mem} {k:Option Addr→Nat→Mem→Prop} {R:List Value→α→Prop} {l:List α} (M0:Mem) (hown:NewEls M0 E s a n c R l M) (x:α) (hx:R news x)
  (hl:news.length=s) (h1:(n+1)*bytes≤140737488355328) (h2:n+1≤maxLen) (h3:∀ u∈news,u.oneCell'=true) (hk:∀ a' c' M',NewEls M0 E s a' (n+1) c' R (l++[x]) M'→Mem.keep (blk a) M M'→k a' c' M'):zbN E s bytes a n c 1 news M k:=by
 obtain⟨css,h0,h4,h5,h6,h7⟩:=hown;refine appK M0 _ h0 h1 h2 h3 fun a' c' M' hn hkp=>hk a' c' M' ⟨css++[news],by simpa using hn,by simp[h4],by simp[h5],?_,?_⟩ hkp
 ·intro cs hcs;rcases List.mem_append.1 hcs with h|h
  ·exact h6 cs h
  ·simp at h;rw[h,hl]
 ·intro i cs y hi hy;by_cases hlt:i<css.length
  ·rw[List.getElem?_append_left hlt] at hi;rw[List.getElem?_append_left (by omega)] at hy;exact h7 i cs y hi hy
  ·rw[List.getElem?_append_right (by omega)] at hi;rw[List.getElem?_append_right (by omega)] at hy
   have e:i - css.length=0:=by
    have:=(List.getElem?_eq_some_iff.1 hi).1;simp at this;omega
   rw[e] at hi;rw[show i - l.length=0 by omega] at hy;simp at hi hy;rw[←hi,←hy];exact hx
end Go.Vm
namespace Go.Vm
open Classical in
noncomputable def Mem.minus (M:Mem) (S:Nat→Prop):Mem:=fun x=>if S x then none else M x
theorem Mem.minus_le (M:Mem) (S:Nat→Prop):(M.minus S).le M:=fun b o h=>by unfold Mem.minus at h;split at h;cases h;exact h
theorem Mem.keep_minus {M M':Mem} {S:Nat→Prop}:Mem.keep S M M'↔(M.minus S).le M':=by
 constructor
 ·intro h b o hb;unfold Mem.minus at hb;split at hb
  ·cases hb
  ·exact h b o ‹_› hb
 ·intro h b o hn hb;exact h b o (by unfold Mem.minus;rw[if_neg hn];exact hb)
theorem Mem.le_minus {M0 M:Mem} {S:Nat→Prop} (h:M0.le M) (hS:∀ b,S b→M0 b=none):M0.le (M.minus S):=fun b o hb=>by
 unfold Mem.minus;rw[if_neg (fun hs=>by rw[hS b hs] at hb;cases hb)];exact h b o hb
theorem Mem.minus_in {M:Mem} {S:Nat→Prop} {b:Nat} (h:S b):M.minus S b=none:=by unfold Mem.minus;rw[if_pos h]
end Go.Vm
namespace Go.Vm
theorem Wr.block {M:Mem} {E:TypeId} {s:Nat} {a:Option Addr} {n c:Nat} {L:List Value} (h:Wr M E s a n c L) {q:Addr} (ha:a=some q):∃ cs,M.has q.block E cs:=by
 obtain⟨_,_,⟨h3,_⟩|⟨b,cs,hab,hh,_⟩⟩:=h
 ·rw[h3] at ha;cases ha
 ·rw[hab] at ha;cases ha;exact⟨cs,hh⟩
end Go.Vm
namespace Go.Vm
theorem Mem.row_minus {M:Mem} {S:Nat→Prop} {b o n:Nat} {vs:List Value} (h:M.row b o n=some vs) (hb:¬S b):(M.minus S).row b o n=some vs:=by
 unfold Mem.row at h ⊢;have:M.minus S b=M b:=by unfold Mem.minus;rw[if_neg hb]
 rw[this];exact h
theorem SrcOk.minus {M:Mem} {S:Nat→Prop} {size:Nat} {a:Option Addr} {n:Nat} {l:List Value} (h:SrcOk M size a n l) (hb:∀ q,a=some q→¬S q.block):SrcOk (M.minus S) size a n l:=by
 obtain⟨hl,h1|⟨c,o,ha,h2⟩⟩:=h
 ·exact⟨hl,.inl h1⟩
 ·exact⟨hl,.inr ⟨c,o,ha,Mem.row_minus h2 (hb _ ha)⟩⟩
end Go.Vm
namespace Go.Vm
theorem Mem.row_obj {M:Mem} {b:Nat} {E:TypeId} {l:List Value} {fz:Nat×Nat} {o n:Nat} (hb:M b=some (.cells l.toArray E fz)) (h:o+n≤l.length):M.row b o n=some ((l.drop o).take n):=by
 simp[Mem.row,hb,h]
end Go.Vm
namespace Go.Vm
theorem Mem.has.minus {M:Mem} {S:Nat→Prop} {b:Nat} {E:TypeId} {l:List Value} (h:M.has b E l) (hb:¬S b):(M.minus S).has b E l:=by
 unfold Mem.has Mem.minus at *; rw[if_neg hb];exact h
end Go.Vm
namespace Go.Vm
end Go.Vm
namespace Go.Vm
end Go.Vm
namespace Go.Vm
end Go.Vm
namespace Go.Vm
theorem zMt (l:List UInt8):∀ u∈l.map zy,u.oneCell'=true:=fun u hu=>by
 obtain⟨b,_,rfl⟩:=List.mem_map.1 hu;rfl
theorem zR {A B:Prop} (a:A) (k:A→B:=by intro a;(repeat' ((conv=>whnf);first|refine⟨?_,True.intro⟩|refine Go.Vm.brn_t rfl ?_|refine Go.Vm.brn_f rfl ?_|refine Go.Vm.ob rfl ?_|refine Go.Vm.ob (by decide) ?_|refine Go.Vm.obr rfl ?_|refine Go.Vm.grow_same (Go.Vm.Mem.le_refl _) ?_|refine Go.Vm.ob (Go.Vm.Mem.le_refl _) ?_|refine⟨_,Go.Vm.Mem.le_refl _,?_⟩|fail));exact a):B:=k a
theorem zX {A B:Prop} (a:A) (k:A→B:=by intro a;(repeat' ((conv=>whnf);first|refine⟨?_,True.intro⟩|refine Go.Vm.brn_t rfl ?_|refine Go.Vm.brn_f rfl ?_|refine Go.Vm.ob rfl ?_|refine Go.Vm.ob (by decide) ?_|refine Go.Vm.obr rfl ?_|refine Go.Vm.grow_same (Go.Vm.Mem.le_refl _) ?_|refine Go.Vm.ob (Go.Vm.Mem.le_refl _) ?_|fail));exact a):B:=k a
theorem zT {p A B:Prop} (h:p) (a:A) (k:p→A→B:=by intro h a;(repeat' ((conv=>whnf);first|refine Go.Vm.ob rfl ?_|refine Go.Vm.grow_same h ?_|refine Go.Vm.ob h ?_|refine⟨?_,True.intro⟩|fail));exact a):B:=k h a
theorem zS {t s:St} (h1:zBj s.fr t.fr:=by repeat' first|exact True.intro|refine⟨rfl,?_⟩) (h2:zBk s.bx t.bx:=by repeat' first|exact True.intro|refine⟨rfl,?_⟩) (h3:t.M.le s.M:=by exact Go.Vm.Mem.le_refl _) (h4:t.wf=true:=by rfl):t.sub s:=⟨h1,h2,h3,h4⟩
end Go.Vm
