/- Part of this proof;laid by program. -/
import Derived.Test.YtdgikhhkgnjalaaGreatProg
import Derived.Test.YtdgikhhkgnjalaaGreatJ6
set_option linter.unusedVariables false
set_option linter.unusedSimpArgs false
namespace Go.Proofs.YtdgikhhkgnjalaaGreat
@[reducible] def F.zl1:Nat:=3
@[reducible] def F.zaJ:Nat:=4
@[reducible] def F.za5:Nat:=5
@[reducible] def F.ze0:Nat:=6
@[reducible] def F.zbN:Nat:=7
@[reducible] def F.za6:Nat:=8
@[reducible] def F.zaQ:Nat:=9
@[reducible] def F.ze1:Nat:=10
@[reducible] def F.zf5:Nat:=11
@[reducible] def F.zdj:Nat:=12
@[reducible] def F.zf6:Nat:=13
@[reducible] def F.zd2:Nat:=14
@[reducible] def F.zh:Nat:=15
@[reducible] def F.zf7:Nat:=16
@[reducible] def F.zf8:Nat:=17
@[reducible] def F.zcZ:Nat:=18
@[reducible] def F.zl2:Nat:=19
@[reducible] def F.zjO:Nat:=20
@[reducible] def F.zn2:Nat:=21
@[reducible] def F.zpb:Nat:=22
@[reducible] def F.zjP:Nat:=23
@[reducible] def F.zjQ:Nat:=24
@[reducible] def F.zfF:Nat:=25
@[reducible] def F.zal:Nat:=26
@[reducible] def F.zn3:Nat:=27
@[reducible] def F.zpc:Nat:=28
@[reducible] def F.znM:Nat:=29
@[reducible] def F.zrM:Nat:=30
@[reducible] def F.zc3:Nat:=31
@[reducible] def F.zk2:Nat:=32
@[reducible] def F.zk3:Nat:=33
@[reducible] def F.zhI:Nat:=34
@[reducible] def F.zaj:Nat:=35
@[reducible] def F.zi:Nat:=36
@[reducible] def F.ziF:Nat:=37
@[reducible] def F.zwN:Nat:=38
@[reducible] def F.zuS:Nat:=39
@[reducible] def F.zuT:Nat:=40
@[reducible] def F.zuU:Nat:=41
@[reducible] def F.zsB:Nat:=42
@[reducible] def F.zyJ:Nat:=43
@[reducible] def F.zpd:Nat:=44
@[reducible] def F.zbu:Nat:=45
@[reducible] def F.zkk:Nat:=46
@[reducible] def F.zbO:Nat:=47
@[reducible] def F.zdX:Nat:=48
@[reducible] def F.zeL:Nat:=49
@[reducible] def F.zc4:Nat:=50
@[reducible] def F.zeM:Nat:=51
@[reducible] def F.zdk:Nat:=52
@[reducible] def F.zbK:Nat:=53
@[reducible] def F.zl3:Nat:=54
@[reducible] def F.zrN:Nat:=55
@[reducible] def F.zrO:Nat:=56
@[reducible] def F.zf9:Nat:=57
@[reducible] def F.zaR:Nat:=58
@[reducible] def F.zhJ:Nat:=59
@[reducible] def F.znN:Nat:=60
@[reducible] def F.zhK:Nat:=61
@[reducible] def F.zmQ:Nat:=62
@[reducible] def F.zM:Nat:=63
@[reducible] def F.zk4:Nat:=64
@[reducible] def F.zaS:Nat:=65
@[reducible] def F.zfG:Nat:=66
@[reducible] def F.zk5:Nat:=67
@[reducible] def F.zga:Nat:=68
@[reducible] def F.zl4:Nat:=69
@[reducible] def F.zk6:Nat:=70
@[reducible] def F.zhL:Nat:=71
@[reducible] def F.zbP:Nat:=72
@[reducible] def F.zk7:Nat:=73
@[reducible] def F.zl5:Nat:=74
@[reducible] def F.zi8:Nat:=75
@[reducible] def F.zc5:Nat:=76
@[reducible] def F.zfH:Nat:=77
@[reducible] def F.ziG:Nat:=78
@[reducible] def F.zpe:Nat:=79
@[reducible] def F.zwO:Nat:=80
@[reducible] def F.ztv:Nat:=81
@[reducible] def F.zyK:Nat:=82
@[reducible] def F.zsC:Nat:=83
@[reducible] def F.zbv:Nat:=84
@[reducible] def F.zca:Nat:=85
@[reducible] def F.zcJ:Nat:=86
@[reducible] def F.zod:Nat:=87
@[reducible] def F.zch:Nat:=88
@[reducible] def F.zcb:Nat:=89
@[reducible] def F.zdY:Nat:=90
@[reducible] def F.zc6:Nat:=91
@[reducible] def F.zfI:Nat:=92
@[reducible] def F.zEG:Nat:=93
@[reducible] def F.ztw:Nat:=94
@[reducible] def F.zrP:Nat:=95
@[reducible] def F.zA9:Nat:=96
@[reducible] def F.zbL:Nat:=97
@[reducible] def F.zab:Nat:=98
@[reducible] def F.zcc:Nat:=99
@[reducible] def F.zc7:Nat:=100
@[reducible] def F.zd3:Nat:=101
@[reducible] def F.zbM:Nat:=102
@[reducible] def F.zea:Nat:=103
@[reducible] def F.zrQ:Nat:=104
@[reducible] def F.zhM:Nat:=105
@[reducible] def F.zmR:Nat:=106
@[reducible] def F.zbj:Nat:=107
@[reducible] def F.zeb:Nat:=108
@[reducible] def F.zjR:Nat:=109
@[reducible] def F.zmS:Nat:=110
@[reducible] def F.zzS:Nat:=111
@[reducible] def F.zk8:Nat:=112
@[reducible] def F.zam:Nat:=113
@[reducible] def F.ztx:Nat:=114
@[reducible] def F.zhN:Nat:=115
@[reducible] def F.zmT:Nat:=116
@[reducible] def F.zcK:Nat:=117
@[reducible] def F.zuV:Nat:=118
@[reducible] def F.zhO:Nat:=119
@[reducible] def F.zec:Nat:=120
@[reducible] def F.zk9:Nat:=121
@[reducible] def F.zjS:Nat:=122
@[reducible] def F.zl6:Nat:=123
@[reducible] def F.znO:Nat:=124
@[reducible] def F.znP:Nat:=125
@[reducible] def F.zgb:Nat:=126
@[reducible] def F.zci:Nat:=127
@[reducible] def F.zaE:Nat:=128
@[reducible] def F.zcE:Nat:=129
@[reducible] def F.zpf:Nat:=130
@[reducible] def F.zlq:Nat:=131
@[reducible] def F.zc8:Nat:=132
@[reducible] def F.zmL:Nat:=133
@[reducible] def F.za7:Nat:=134
@[reducible] def F.zty:Nat:=135
@[reducible] def F.zla:Nat:=136
@[reducible] def F.zdl:Nat:=137
@[reducible] def F.zdm:Nat:=138
@[reducible] def F.zc9:Nat:=139
@[reducible] def F.zoe:Nat:=140
@[reducible] def F.zpg:Nat:=141
@[reducible] def F.zU:Nat:=142
@[reducible] def F.zaW:Nat:=143
@[reducible] def F.zaT:Nat:=144
@[reducible] def F.zat:Nat:=145
@[reducible] def F.za4:Nat:=146
@[reducible] def F.zlr:Nat:=147
@[reducible] def F.zCm:Nat:=148
@[reducible] def F.znx:Nat:=149
@[reducible] def F.ztz:Nat:=150
@[reducible] def F.zBa:Nat:=151
@[reducible] def F.zDt:Nat:=152
@[reducible] def F.zmU:Nat:=153
@[reducible] def F.zkl:Nat:=154
@[reducible] def F.ze2:Nat:=155
@[reducible] def F.zmV:Nat:=156
@[reducible] def F.zaO:Nat:=157
@[reducible] def F.znQ:Nat:=158
@[reducible] def F.z2:Nat:=159
@[reducible] def F.zlb:Nat:=160
@[reducible] def F.zi9:Nat:=161
@[reducible] def F.zah:Nat:=162
@[reducible] def F.zrR:Nat:=163
@[reducible] def F.zaN:Nat:=164
@[reducible] def F.ztA:Nat:=165
@[reducible] def F.zda:Nat:=166
@[reducible] def F.zph:Nat:=167
@[reducible] def F.ztB:Nat:=168
@[reducible] def F.zrS:Nat:=169
@[reducible] def F.zrT:Nat:=170
@[reducible] def F.ziH:Nat:=171
@[reducible] def F.ziI:Nat:=172
@[reducible] def F.zjT:Nat:=173
@[reducible] def F.zcF:Nat:=174
@[reducible] def F.ze3:Nat:=175
@[reducible] def F.zjU:Nat:=176
@[reducible] def F.zuW:Nat:=177
@[reducible] def F.zjV:Nat:=178
@[reducible] def F.znc:Nat:=179
@[reducible] def F.zeN:Nat:=180
@[reducible] def F.zcL:Nat:=181
@[reducible] def F.zkm:Nat:=182
@[reducible] def F.zqt:Nat:=183
@[reducible] def F.zsx:Nat:=184
@[reducible] def F.zhr:Nat:=185
@[reducible] def F.ziJ:Nat:=186
@[reducible] def F.zeO:Nat:=187
@[reducible] def F.zl7:Nat:=188
@[reducible] def F.zyL:Nat:=189
@[reducible] def F.zd4:Nat:=190
@[reducible] def F.zbk:Nat:=191
@[reducible] def F.znR:Nat:=192
@[reducible] def F.ztC:Nat:=193
@[reducible] def F.zak:Nat:=194
@[reducible] def F.zcC:Nat:=195
@[reducible] def F.znd:Nat:=196
@[reducible] def F.zdb:Nat:=197
@[reducible] def F.zkn:Nat:=198
@[reducible] def F.zgc:Nat:=199
@[reducible] def F.zdc:Nat:=200
@[reducible] def F.zav:Nat:=201
@[reducible] def F.zhP:Nat:=202
@[reducible] def F.zpX:Nat:=203
@[reducible] def F.zq3:Nat:=204
@[reducible] def F.zqu:Nat:=205
@[reducible] def F.zaK:Nat:=206
@[reducible] def F.zlz:Nat:=207
@[reducible] def F.ziK:Nat:=208
@[reducible] def F.zjW:Nat:=209
@[reducible] def F.zja:Nat:=210
@[reducible] def F.zeU:Nat:=211
@[reducible] def F.zx:Nat:=212
@[reducible] def F.zik:Nat:=213
@[reducible] def F.zlc:Nat:=214
@[reducible] def F.zuX:Nat:=215
@[reducible] def F.zjX:Nat:=216
@[reducible] def F.zof:Nat:=217
@[reducible] def F.zc0:Nat:=218
@[reducible] def F.zCn:Nat:=219
@[reducible] def F.zpY:Nat:=220
@[reducible] def F.zdd:Nat:=221
@[reducible] def F.zcd:Nat:=222
@[reducible] def F.zwP:Nat:=223
@[reducible] def F.zBb:Nat:=224
@[reducible] def F.zyM:Nat:=225
@[reducible] def F.zwQ:Nat:=226
@[reducible] def F.zac:Nat:=227
@[reducible] def F.zbh:Nat:=228
@[reducible] def F.zl8:Nat:=229
@[reducible] def F.zjb:Nat:=230
@[reducible] def F.zhs:Nat:=231
@[reducible] def F.zbw:Nat:=232
@[reducible] def F.zjM:Nat:=233
@[reducible] def F.zpZ:Nat:=234
@[reducible] def F.zed:Nat:=235
@[reducible] def F.zpi:Nat:=236
@[reducible] def F.zbQ:Nat:=237
@[reducible] def F.zde:Nat:=238
@[reducible] def F.zee:Nat:=239
@[reducible] def F.zgd:Nat:=240
@[reducible] def F.zge:Nat:=241
@[reducible] def F.zH:Nat:=242
@[reducible] def F.zN:Nat:=243
@[reducible] def F.zuY:Nat:=244
@[reducible] def F.zpj:Nat:=245
@[reducible] def F.zrU:Nat:=246
@[reducible] def F.zl9:Nat:=247
@[reducible] def F.zqv:Nat:=248
@[reducible] def F.zfJ:Nat:=249
@[reducible] def F.zcj:Nat:=250
@[reducible] def F.zhX:Nat:=251
@[reducible] def F.zqw:Nat:=252
@[reducible] def F.zgf:Nat:=253
@[reducible] def F.zef:Nat:=254
@[reducible] def F.zrV:Nat:=255
@[reducible] def F.ziL:Nat:=256
@[reducible] def F.ztD:Nat:=257
@[reducible] def F.zbf:Nat:=258
@[reducible] def F.zrW:Nat:=259
@[reducible] def F.zEH:Nat:=260
@[reducible] def F.zp0:Nat:=261
@[reducible] def F.za1:Nat:=262
@[reducible] def F.zmW:Nat:=263
@[reducible] def F.zko:Nat:=264
@[reducible] def F.zlA:Nat:=265
@[reducible] def F.zld:Nat:=266
@[reducible] def F.zgg:Nat:=267
@[reducible] def F.zF:Nat:=268
@[reducible] def F.zjY:Nat:=269
@[reducible] def F.zmz:Nat:=270
@[reducible] def F.zhY:Nat:=271
@[reducible] def F.zC:Nat:=272
@[reducible] def F.zgh:Nat:=273
@[reducible] def F.zeP:Nat:=274
@[reducible] def F.zEI:Nat:=275
@[reducible] def F.ztE:Nat:=276
@[reducible] def F.zzT:Nat:=277
@[reducible] def F.zdU:Nat:=278
@[reducible] def F.zaP:Nat:=279
@[reducible] def F.za2:Nat:=280
@[reducible] def F.zaA:Nat:=281
@[reducible] def F.zeS:Nat:=282
@[reducible] def F.zny:Nat:=283
@[reducible] def F.zCo:Nat:=284
@[reducible] def F.zBc:Nat:=285
@[reducible] def F.znS:Nat:=286
@[reducible] def F.zjc:Nat:=287
@[reducible] def F.znz:Nat:=288
@[reducible] def F.zle:Nat:=291
@[reducible] def F.zai:Nat:=292
@[reducible] def F.ziM:Nat:=293
@[reducible] def F.zfT:Nat:=294
@[reducible] def F.zht:Nat:=295
@[reducible] def F.zgi:Nat:=296
@[reducible] def F.zdf:Nat:=297
@[reducible] def F.zfK:Nat:=298
@[reducible] def F.zil:Nat:=299
@[reducible] def F.zau:Nat:=300
@[reducible] def F.zkp:Nat:=301
@[reducible] def F.zhQ:Nat:=302
@[reducible] def F.ziN:Nat:=303
@[reducible] def F.zim:Nat:=304
@[reducible] def F.zeg:Nat:=305
@[reducible] def F.zhu:Nat:=306
@[reducible] def F.zjZ:Nat:=307
@[reducible] def F.zhZ:Nat:=308
@[reducible] def F.zhR:Nat:=309
@[reducible] def F.zfL:Nat:=310
@[reducible] def F.znT:Nat:=311
@[reducible] def F.zdZ:Nat:=312
@[reducible] def F.zV:Nat:=313
@[reducible] def F.zrX:Nat:=314
@[reducible] def F.zfM:Nat:=315
@[reducible] def F.zaU:Nat:=316
@[reducible] def F.zhv:Nat:=317
@[reducible] def F.zbU:Nat:=318
@[reducible] def F.zwR:Nat:=319
@[reducible] def F.zbx:Nat:=320
@[reducible] def F.zyN:Nat:=321
@[reducible] def F.zzU:Nat:=322
@[reducible] def F.zpC:Nat:=323
@[reducible] def F.zce:Nat:=324
@[reducible] def F.zad:Nat:=325
@[reducible] def F.zcG:Nat:=326
@[reducible] def F.zcY:Nat:=327
@[reducible] def F.zaq:Nat:=328
@[reducible] def F.zdV:Nat:=329
@[reducible] def F.zgj:Nat:=330
@[reducible] def F.zwS:Nat:=331
@[reducible] def F.zaL:Nat:=332
@[reducible] def F.zlB:Nat:=333
@[reducible] def F.ziO:Nat:=334
@[reducible] def F.zj0:Nat:=335
@[reducible] def F.zjd:Nat:=336
@[reducible] def F.zeV:Nat:=337
@[reducible] def F.zin:Nat:=338
@[reducible] def F.zlf:Nat:=339
@[reducible] def F.zcD:Nat:=340
@[reducible] def F.zaV:Nat:=341
@[reducible] def F.zbg:Nat:=342
@[reducible] def F.zkB:Nat:=343
@[reducible] def F.zcf:Nat:=344
@[reducible] def F.zdW:Nat:=345
@[reducible] def F.zaB:Nat:=346
@[reducible] def F.zeT:Nat:=347
@[reducible] def F.zby:Nat:=348
@[reducible] def T.int:TypeId:=3
@[reducible] def T.zCp:TypeId:=4
@[reducible] def T.zzV:TypeId:=5
@[reducible] def T.zNZ:TypeId:=9
@[reducible] def T.zA5:TypeId:=22
@[reducible] def T.zEJ:TypeId:=24
@[reducible] def T.zbR:TypeId:=87
@[reducible] def T.zDu:TypeId:=97
@[reducible] def T.zDv:TypeId:=100
@[reducible] def T.zma:TypeId:=282
@[reducible] def T.zbV:TypeId:=388
end Go.Proofs.YtdgikhhkgnjalaaGreat
namespace Go.Vm
theorem brn {x:Bool} {A B:Prop} (h:x=true→A) (h':x=false→B):Brn x A B:=⟨h,h'⟩
theorem brn_t {x:Bool} {A B:Prop} (hx:x=true) (h:A):Brn x A B:=⟨fun _=>h,fun e=>absurd (hx.symm.trans e) (by simp)⟩
theorem brn_f {x:Bool} {A B:Prop} (hx:x=false) (h:B):Brn x A B:=⟨fun e=>absurd (hx.symm.trans e) (by simp),fun _=>h⟩
theorem ob {p A:Prop} (h:p) (h':A):Ob p A:=⟨h,h'⟩
theorem on {α:Type} {x:Option α} {l:α} {k:α→Prop} (h:x=some l) (h':k l):onO x k:=by subst h;exact h'
theorem CallsM.mono {P:Program} {f:Nat} {args:List Value} {M:Mem} {R R':Value→Mem→Prop} (h:CallsM P f args M R) (hr:∀ v M',R v M'→R' v M'):CallsM P f args M R':=
 ⟨h.1,fun F w h1 h2 h3=>(h.2 F w h1 h2 h3).mono fun _ _ ⟨v,M',he,hk,hx⟩=>⟨v,M',he,hr v M' hk,hx⟩⟩
theorem app {E:TypeId} {size bytes:Nat} {a:Option Addr} {n c m:Nat} {news:List Value} {M:Mem} {k:Option Addr→Nat→Mem→Prop} (M0:Mem) (L:List Value) (hown:Own M0 E size a n c L M)
  (h1:(n+m)*bytes≤140737488355328) (h2:n+m≤maxLen) (h3:∀ u∈news,u.oneCell'=true) (hk:∀ a' c' M',Own M0 E size a' (n+m) c' (L++news) M'→k a' c' M'):zi5 E size bytes a n c m news M k:=
 ⟨h1,h2,h3,.inl ⟨M0,L,hown,fun a' c' M' _ ho=>hk a' c' M' ho⟩⟩
theorem new {M:Mem} {k:Nat→Prop} (h:∀ b,M b=none→k b):New M k:=h
theorem Mem.le_setCells {M:Mem} {b:Nat} {E:TypeId} {l:List Value} (h:M b=none):M.le (M.setCells b E l):=fun c o hc=>by
 have hne:c≠b:=fun e=>by subst e;rw[h] at hc;cases hc
 simpa[Mem.setCells,Mem.upd_ne _ _ hne] using hc
theorem Own.base {M0:Mem} {E:TypeId} {size:Nat} {a:Option Addr} {n c:Nat} {L:List Value} {M:Mem} (h:Own M0 E size a n c L M):M0.le M:=by
 obtain⟨_,_,⟨_,_,rfl⟩|⟨b,cs,_,hb,rfl,_,_⟩⟩:=h
 ·exact Mem.le_refl _
 ·exact Mem.le_setCells hb
end Go.Vm
namespace Go.Vm
def Mem.has (M:Mem) (b:Nat) (E:TypeId) (l:List Value):Prop:=M b=some (.cells l.toArray E (0,0))
theorem Mem.has.cells {M:Mem} {b:Nat} {E:TypeId} {l:List Value} (h:M.has b E l):M.cells b=some (E,l):=by unfold Mem.has at h;simp[Mem.cells,h]
theorem Mem.has.row {M:Mem} {b:Nat} {E:TypeId} {l:List Value} (h:M.has b E l) {o n:Nat} (hn:o+n≤l.length):M.row b o n=some ((l.drop o).take n):=by unfold Mem.has at h;simp[Mem.row,h,hn]
theorem Mem.has.le {A M:Mem} (hle:A.le M) {b:Nat} {E:TypeId} {l:List Value} (h:A.has b E l):M.has b E l:=hle _ _ h
theorem Mem.has_setCells {M:Mem} {b:Nat} {E:TypeId} {l:List Value}:(M.setCells b E l).has b E l:=by simp[Mem.has,Mem.setCells,Mem.upd]
def NewSl (M:Mem) (E:TypeId) (size:Nat) (a:Option Addr) (n c:Nat) (L:List Value) (M':Mem):Prop:=∃ M0,M.le M0∧Own M0 E size a n c L M'
theorem NewSl.le {M:Mem} {E:TypeId} {size:Nat} {a:Option Addr} {n c:Nat} {L:List Value} {M':Mem} (h:NewSl M E size a n c L M'):M.le M':=by
 obtain⟨M0,h0,h1⟩:=h;exact Mem.le_trans h0 h1.base
theorem SrcOk.nil (M:Mem) (size:Nat):SrcOk M size none 0 []:=⟨by simp,.inl rfl⟩
def Mem.keep (S:Nat→Prop) (M M':Mem):Prop:=∀ b o,¬S b→M b=some o→M' b=some o
theorem Mem.keep_of_le {S:Nat→Prop} {M M':Mem} (h:M.le M'):Mem.keep S M M':=fun b o _ hb=>h b o hb
end Go.Vm
namespace Go.Vm
end Go.Vm
namespace Go.Vm
theorem newSl_iff {M:Mem} {E:TypeId} {s:Nat} {a:Option Addr} {n c:Nat} {L:List Value} {M':Mem} :
  NewSl M E s a n c L M'↔M.le M'∧L.length=n*s∧n≤c∧((a=Option.none∧c=0)∨∃ b cs,a=some ⟨b,0,Option.none⟩∧M b=Option.none∧M'.has b E cs∧cs.length=c*s∧cs.take (n*s)=L):=by
 constructor
 ·intro h
  refine⟨h.le,?_⟩
  obtain⟨M0,h0,h1,h2,h3⟩:=h
  refine⟨h1,h2,?_⟩
  rcases h3 with ⟨ha,hc,_⟩|⟨b,cs,ha,hb,rfl,hl,ht⟩
  ·exact .inl ⟨ha,hc⟩
  ·refine .inr ⟨b,cs,ha,?_,Mem.has_setCells,hl,ht⟩
   cases hx:M b with
   | none=>rfl
   | some x=>rw[h0 b x hx] at hb;cases hb
 ·rintro ⟨hle,h1,h2,⟨ha,hc⟩|⟨b,cs,ha,hb,hh,hl,ht⟩⟩
  ·exact⟨M',hle,h1,h2,.inl ⟨ha,hc,rfl⟩⟩
  ·refine⟨fun x=>if x=b then none else M' x,fun x o hx=>?_,h1,h2,.inr ⟨b,cs,ha,by simp,?_,hl,ht⟩⟩
   ·have hne:x≠b:=fun e=>by subst e;rw[hb] at hx;cases hx
    simp only[if_neg hne]
    exact hle x o hx
   ·funext x
    simp only[Mem.setCells,Mem.upd]
    split
    ·rename_i e;subst e;exact hh
    ·rfl
end Go.Vm
namespace Go.Vm
def Mem.empty:Mem:=fun _=>none
theorem Mem.empty_le (M:Mem):Mem.empty.le M:=fun _ _ h=>by cases h
end Go.Vm
namespace Go.Vm
theorem Mem.has.c1 {M:Mem} {b:Nat} {E:TypeId} {l:List Value} (h:M.has b E l) {o:Nat} {v:Value} (hv:l[o]? = some v):M.row b o 1=some [v]:=by
 have hl:=(List.getElem?_eq_some_iff.1 hv).1
 rw[h.row (by omega),List.drop_eq_getElem_cons hl]
 have:=(List.getElem?_eq_some_iff.1 hv).2
 simp[this]
end Go.Vm
namespace Go.Vm
theorem Mem.has.inj {M:Mem} {b:Nat} {E E':TypeId} {l l':List Value} (h:M.has b E l) (h':M.has b E' l'):E=E'∧l=l':=by
 unfold Mem.has at h h';rw[h] at h';simp at h';exact⟨h'.2,h'.1⟩
def Wr (M:Mem) (E:TypeId) (s:Nat) (a:Option Addr) (n c:Nat) (L:List Value):Prop:=
 L.length=n*s∧n≤c∧((a=Option.none∧c=0)∨∃ b cs,a=some ⟨b,0,Option.none⟩∧M.has b E cs∧cs.length=c*s∧cs.take (n*s)=L)
theorem NewSl.wr {M:Mem} {E:TypeId} {s:Nat} {a:Option Addr} {n c:Nat} {L:List Value} {M':Mem} (h:NewSl M E s a n c L M'):Wr M' E s a n c L:=by
 rw[newSl_iff] at h
 obtain⟨_,h1,h2,h3⟩:=h
 exact⟨h1,h2,h3.imp id fun ⟨b,cs,ha,_,hr⟩=>⟨b,cs,ha,hr⟩⟩
theorem Wr.mono {M M':Mem} {E:TypeId} {s:Nat} {a:Option Addr} {n c:Nat} {L:List Value} (h:Wr M E s a n c L) (hk:∀ p o,a=some p→M p.block=some o→M' p.block=some o):Wr M' E s a n c L:=by
 obtain⟨h1,h2,h3⟩:=h
 exact⟨h1,h2,h3.imp id fun ⟨b,cs,ha,hh,hr⟩=>⟨b,cs,ha,hk _ _ ha hh,hr⟩⟩
theorem Wr.le {M M':Mem} {E:TypeId} {s:Nat} {a:Option Addr} {n c:Nat} {L:List Value} (h:Wr M E s a n c L) (hle:M.le M'):Wr M' E s a n c L:=h.mono fun _ _ _=>hle _ _
def Elems {α:Type} (M:Mem) (s:Nat) (a:Option Addr) (n:Nat) (R:List Value→α→Prop) (l:List α):Prop:=
 ∃ css:List (List Value),SrcOk M s a n css.flatten∧css.length=n∧l.length=n∧(∀ cs∈css,cs.length=s)∧∀ (i:Nat) cs x,css[i]? = some cs→l[i]? = some x→R cs x
theorem zsy {α:Type} {s:Nat}:∀ {css:List (List α)} (_:∀ cs∈css,cs.length=s) {i:Nat} {cs:List α} (_:css[i]? = some cs),(css.flatten.drop (i*s)).take s=cs
 | [],_,i,cs,hi=>by simp at hi
 | c::r,h,0,cs,hi=>by
  simp at hi;subst hi
  have:c.length=s:=h c (by simp)
  simp[←this]
 | c::r,h,i+1,cs,hi=>by
  have hc:c.length=s:=h c (by simp)
  simp only[List.flatten_cons]
  rw[Nat.succ_mul,Nat.add_comm,←List.drop_drop,show (c++r.flatten).drop s=r.flatten by rw[←hc];simp]
  exact zsy (fun cs hcs=>h cs (List.mem_cons_of_mem _ hcs)) (by simpa using hi)
theorem Elems.nil {α:Type} (M:Mem) (s:Nat) (R:List Value→α→Prop):Elems M s Option.none 0 R []:=⟨[],SrcOk.nil M s,rfl,rfl,by simp,by simp⟩
def znA {α:Type} (M:Mem) (E:TypeId) (s:Nat) (a:Option Addr) (n c:Nat) (R:List Value→α→Prop) (l:List α) (M':Mem):Prop:=
 ∃ css:List (List Value),NewSl M E s a n c css.flatten M'∧css.length=n∧l.length=n∧(∀ cs∈css,cs.length=s)∧∀ (i:Nat) cs x,css[i]? = some cs→l[i]? = some x→R cs x
def blk (a:Option Addr):Nat→Prop:=fun x=>∃ q,a=some q∧q.block=x
theorem appK {E:TypeId} {size bytes:Nat} {a:Option Addr} {n c m:Nat} {news:List Value} {M:Mem} {k:Option Addr→Nat→Mem→Prop} (M0:Mem) (L:List Value) (hown:NewSl M0 E size a n c L M)
  (h1:(n+m)*bytes≤140737488355328) (h2:n+m≤maxLen) (h3:∀ u∈news,u.oneCell'=true) (hk:∀ a' c' M',NewSl M0 E size a' (n+m) c' (L++news) M'→Mem.keep (blk a) M M'→k a' c' M'):zi5 E size bytes a n c m news M k:=by
 rw[newSl_iff] at hown
 obtain⟨h0,h4,h5,⟨ha,hc⟩|⟨b,cs,ha,hb,hh,hl,ht⟩⟩:=hown
 ·refine app M L ⟨h4,h5,.inl ⟨ha,hc,rfl⟩⟩ h1 h2 h3 fun a' c' M' ho=>hk a' c' M' ⟨M,h0,ho⟩ (Mem.keep_of_le ho.base)
 ·refine app (fun x=>if x=b then Option.none else M x) L ⟨h4,h5,.inr ⟨b,cs,ha,by simp,?_,hl,ht⟩⟩ h1 h2 h3 fun a' c' M' ho=>hk a' c' M' ⟨_,?_,ho⟩ ?_
  ·funext x
   simp only[Mem.setCells,Mem.upd]
   split
   ·rename_i e;subst e;exact hh
   ·rfl
  ·intro x o hx
   have hne:x≠b:=fun e=>by subst e;rw[hb] at hx;cases hx
   simp only[if_neg hne]
   exact h0 x o hx
  ·intro x o hn hx
   have hne:x≠b:=fun e=>hn ⟨_,ha,e.symm⟩
   exact ho.base x o (by simp only[if_neg hne];exact hx)
end Go.Vm
namespace Go.Vm
open Classical in
noncomputable def Mem.minus (M:Mem) (S:Nat→Prop):Mem:=fun x=>if S x then none else M x
theorem Mem.minus_le (M:Mem) (S:Nat→Prop):(M.minus S).le M:=fun b o h=>by unfold Mem.minus at h;split at h;cases h;exact h
theorem Mem.minus_in {M:Mem} {S:Nat→Prop} {b:Nat} (h:S b):M.minus S b=none:=by unfold Mem.minus;rw[if_pos h]
end Go.Vm
namespace Go.Vm
theorem Wr.block {M:Mem} {E:TypeId} {s:Nat} {a:Option Addr} {n c:Nat} {L:List Value} (h:Wr M E s a n c L) {q:Addr} (ha:a=some q):∃ cs,M.has q.block E cs:=by
 obtain⟨_,_,⟨h3,_⟩|⟨b,cs,hab,hh,_⟩⟩:=h
 ·rw[h3] at ha;cases ha
 ·rw[hab] at ha;cases ha;exact⟨cs,hh⟩
end Go.Vm
namespace Go.Vm
end Go.Vm
namespace Go.Vm
end Go.Vm
namespace Go.Vm
end Go.Vm
namespace Go.Vm
end Go.Vm
namespace Go.Vm
end Go.Vm
namespace Go.Vm
end Go.Vm
namespace Go.Vm
theorem zR {A B:Prop} (a:A) (k:A→B:=by intro a;(repeat' ((conv=>whnf);first|refine⟨?_,True.intro⟩|refine Go.Vm.brn_t rfl ?_|refine Go.Vm.brn_f rfl ?_|refine Go.Vm.ob rfl ?_|refine Go.Vm.ob (by decide) ?_|refine Go.Vm.grow_same (Go.Vm.Mem.le_refl _) ?_|refine Go.Vm.ob (Go.Vm.Mem.le_refl _) ?_|refine⟨_,Go.Vm.Mem.le_refl _,?_⟩|fail));exact a):B:=k a
end Go.Vm
namespace Go.Proofs.YtdgikhhkgnjalaaGreat
open Go.Vm Go.Vm.S
section
def zyO (i:Nat):List Nat:=match i with|0=>[0,2]|2=>[1,3,4,5,6,7,8,9,10,11,12,13,14,15,16,17,18,19,20,21,22,23,24,25,26,27,28,29,30,31,32,33,34,35,36,37,38,39,40,41,42,43,44,45,46,47,48,49,50,51,52,53,54,55,56,57,58,59,60,61,62,63,64,65,66,67,68]|_=>[]
def zyP:RCode := .seq (.ops [o 1 (.box 24 (t 0)),mv 2 (kb false)] [0,2]) (.seq (.ops [mv 3 (.const (.pointer none))] []) (.seq (.ops [mv 4 (t 3),la 5 5 (t 1),ca 6 F.zaJ [(t 4),(t 5)],o 7 (.ibin .eql (t 6) (k 7)),os 8 (.mov (t 7)),gt 8 9 (.mov (t 3)),gt 8 10 (.call (fn F.za5) [(t 9)]),gt 8 11 (.len (t 10)),gt 8 12 (.ibin .eql (t 11) (k 0)),o 13 (.pick (t 8) (t 12) (kb false)),os 14 (.mov (t 13)),gt 14 15 (.mov (t 3)),gt 14 16 (.call (fn F.ze0) [(t 15)]),gt 14 17 (.ibin .eql (t 16) (k 0)),o 18 (.pick (t 14) (t 17) (kb false)),os 19 (.mov (t 18)),gt 19 20 (.mov (t 3)),gt 19 21 (.call (fn F.zbN) [(t 20)]),gt 19 22 (.ibin .eql (t 21) (k 0)),o 23 (.pick (t 19) (t 22) (kb false)),os 24 (.mov (t 23)),gt 24 25 (.mov (t 3)),gt 24 26 (.faddr 1 (t 1)),gt 24 27 (.load false 1 (t 26)),gt 24 28 (.call (fn F.za6) [(t 25),(t 27)]),gt 24 29 (.not (t 28)),o 30 (.pick (t 24) (t 29) (kb false)),os 31 (.mov (t 30)),gt 31 32 (.mov (t 3)),gt 31 33 (.faddr 1 (t 1)),gt 31 34 (.load false 1 (t 33)),gt 31 35 (.call (fn F.ze1) [(t 32),(t 34)]),gt 31 36 (.build [(i 0),(i 0),sn,sn,sn] []),gt 31 37 (.call (fn F.zaQ) [(t 35),(t 36)]),o 38 (.pick (t 31) (t 37) (kb false)),os 39 (.mov (t 38)),gt 39 40 (.mov (t 3)),gt 39 41 (.faddr 1 (t 1)),gt 39 42 (.load false 1 (t 41)),gt 39 43 (.call (fn F.zf5) [(t 40),(t 42)]),gt 39 44 (.build [(i 0),(i 0),sn,sn,sn] []),gt 39 45 (.call (fn F.zaQ) [(t 43),(t 44)]),o 46 (.pick (t 39) (t 45) (kb false)),os 47 (.mov (t 46)),gt 47 48 (.mov (t 3)),gt 47 49 (.faddr 1 (t 1)),gt 47 50 (.load false 1 (t 49)),gt 47 51 (.faddr 2 (t 1)),gt 47 52 (.load false 1 (t 51)),gt 47 53 (.call (fn F.zdj) [(t 48),(t 50),(t 52)]),gt 47 54 (.len (t 53)),gt 47 55 (.ibin .eql (t 54) (k 0)),o 56 (.pick (t 47) (t 55) (kb false)),os 57 (.mov (t 56)),gt 57 58 (.mov (t 3)),gt 57 59 (.faddr 1 (t 1)),gt 57 60 (.load false 1 (t 59)),gt 57 61 (.faddr 2 (t 1)),gt 57 62 (.load false 1 (t 61)),gt 57 63 (.call (fn F.zf6) [(t 58),(t 60),(t 62)]),gt 57 64 (.ibin .eql (t 63) (k 16)),o 65 (.pick (t 57) (t 64) (kb false)),os 66 (.mov (t 65)),gt 66 67 (.call (fn F.zd2) []),o 68 (.pick (t 66) (t 67) (kb false)),mv 2 (t 68)] [1,3,4,5,6,7,8,9,10,11,12,13,14,15,16,17,18,19,20,21,22,23,24,25,26,27,28,29,30,31,32,33,34,35,36,37,38,39,40,41,42,43,44,45,46,47,48,49,50,51,52,53,54,55,56,57,58,59,60,61,62,63,64,65,66,67,68]) (.ret)))
def zyQ:List zd:=[.tmp 2]
theorem zwT {args:List Value} {M:Mem} {R:Value→Mem→Prop} (hn:args.length≤69) (h:zj Tryz.prog zyP zyQ args M R):CallsM Tryz.prog F.zl1 args M R:=zf (kf:=zyO) Tryz.func3 (by kernel_rfl) (by kernel_rfl) hn (by kernel_rfl) h
def zwU (i:Nat):List Nat:=match i with|0=>[1,4]|1=>[6]|4=>[9,10,11]|5=>[12,13]|7=>[15,16,17]|8=>[3,18,19,20]|9=>[22,23,24,25,26,27,28,29,30,31,32,33,34]|10=>[3,35,36,37]|11=>[0,38,39,40,41,42,43,44]|12=>[5,45]|_=>[]
def zwV:RCode := .seq (.ops [o 3 (.box 24 (t 1)),mv 4 (k 0)] [1,4]) (.seq (.seq (.ops [mv 6 (t 0),o 7 (.pnil .eql (t 6) (.const (.pointer none)))] [6]) (.cond (t 7) (.seq (.ops [mv 4 (k 7)] []) (.ret)) (.skip))) (.seq (.ops [mv 5 (k 1)] []) (.seq (.block 0 (.seq (.ops [fa 9 0 (t 3),l1 10 (t 9),o 11 (.ibin .eql (t 10) (k 3)),mv 8 (t 11)] [9,10,11]) (.cond (t 8) (.seq (.ops [mv 12 (t 0),ca 13 F.zh [(t 12)]] [12,13]) (.ops [mv 5 (k 0)] [])) (.seq (.ops [fa 15 0 (t 3),l1 16 (t 15),o 17 (.ibin .eql (t 16) (k 12)),mv 14 (t 17)] [15,16,17]) (.cond (t 14) (.ops [mv 18 (t 0),la 19 5 (t 3),ca 20 F.zf7 [(t 18),(t 19)],mv 5 (t 20)] [3,18,19,20]) (.seq (.draw (.take (fa 22 1 (t 3)) (.take (l1 23 (t 22)) (.take (o 24 (.ibin .geq (t 23) (k 0))) (.take (os 25 (.mov (t 24))) (.take (gt 25 26 (.faddr 1 (t 3))) (.take (gt 25 27 (.load false 1 (t 26))) (.take (gt 25 28 (.mov (t 0))) (.take (gt 25 29 (.nilck (t 28))) (.take (gt 25 30 (.faddr 12 (t 29))) (.take (gt 25 31 (.load false 1 (t 30))) (.take (gt 25 32 (.len (t 31))) (.take (gt 25 33 (.ibin .lss (t 27) (t 32))) (.take (o 34 (.pick (t 25) (t 33) (kb false))) (.take (mv 21 (t 34)) (.done))))))))))))))) [22,23,24,25,26,27,28,29,30,31,32,33,34]) (.cond (t 21) (.ops [mv 35 (t 0),la 36 5 (t 3),ca 37 F.zf8 [(t 35),(t 36)],mv 5 (t 37)] [3,35,36,37]) (.skip)))))))) (.seq (.ops [mv 38 (t 0),o 39 (.nilck (t 38)),fa 40 15 (t 39),l1 41 (t 40),ad 42 (t 41) (k 1),o 43 (.nilck (t 38)),fa 44 15 (t 43),st 1 (t 44) (t 42)] [0,38,39,40,41,42,43,44]) (.seq (.ops [mv 45 (t 5),mv 4 (t 45)] [5,45]) (.ret))))))
def zwW:List zd:=[.tmp 4]
theorem zuZ {args:List Value} {M:Mem} {R:Value→Mem→Prop} (hn:args.length≤46) (h:zj Tryz.prog zwV zwW args M R):CallsM Tryz.prog F.zaJ args M R:=zf (kf:=zwU) Tryz.func4 (by kernel_rfl) (by kernel_rfl) hn (by kernel_rfl) h
def zwX (i:Nat):List Nat:=match i with|0=>[2]|1=>[6]|4=>[0,8,9,10]|6=>[15,16]|7=>[17,18,19,20,21]|8=>[5,22,23,24,25]|9=>[26]|10=>[3,27]|_=>[]
def zwY:RCode := .seq (.ops [mv 2 (.const sn)] [2]) (.seq (.seq (.ops [mv 6 (t 0),o 7 (.pnil .eql (t 6) (.const (.pointer none)))] [6]) (.cond (t 7) (.seq (.ops [mv 2 (.const sn)] []) (.ret)) (.skip))) (.seq (.ops [mv 3 (.const sn)] []) (.seq (.seq (.ops [mv 8 (t 0),o 9 (.nilck (t 8)),fa 10 14 (t 9),l1 11 (t 10),o 12 (.len (t 11)),mv 13 (k 0)] [0,8,9,10]) (.block 0 (.loop (.seq (.ops [o 14 (.ibin .lss (t 13) (t 12))] []) (.seq (.cond (t 14) (.skip) (.exit 0)) (.seq (.block 1 (.seq (.ops [o 15 (.iaddr 9 (t 11) (t 13)),la 16 9 (t 15),o 5 (.alloc 56 [(i 0),(i 0),(i 0),(i 0),(i 0),(i 0),(i 0),sn,(.bool false)]),st 9 (t 5) (t 16)] [15,16]) (.seq (.ops [o 17 (.mkSl false 5 0 [] []),fa 18 7 (t 5),l1 19 (t 18),o 20 (.app 5 1 1 [(u 0)] (t 17) (t 19)),fa 21 7 (t 5),st 1 (t 21) (t 20)] [17,18,19,20,21]) (.ops [mv 22 (t 3),la 23 9 (t 5),o 24 (.mkSl true 56 1 [(i 0),(i 0),(i 0),(i 0),(i 0),(i 0),(i 0),sn,(.bool false)] [(0,9,(t 23))]),o 25 (.app 56 9 88 [(i 0),(i 0),(i 0),(i 0),(i 0),(i 0),(i 0),sn,(.bool false)] (t 22) (t 24)),mv 3 (t 25)] [5,22,23,24,25])))) (.ops [ad 26 (t 13) (k 1),mv 13 (t 26)] [26]))))))) (.seq (.ops [mv 27 (t 3),mv 2 (t 27)] [3,27]) (.ret)))))
def zwZ:List zd:=[.tmp 2]
theorem zu0 {args:List Value} {M:Mem} {R:Value→Mem→Prop} (hn:args.length≤28) (h:zj Tryz.prog zwY zwZ args M R):CallsM Tryz.prog F.za5 args M R:=zf (kf:=zwX) Tryz.func5 (by kernel_rfl) (by kernel_rfl) hn (by kernel_rfl) h
def zu1 (i:Nat):List Nat:=match i with|0=>[2]|1=>[3]|3=>[0,5,6,7,8]|_=>[]
def zu2:RCode := .seq (.ops [mv 2 (k 0)] [2]) (.seq (.seq (.ops [mv 3 (t 0),o 4 (.pnil .eql (t 3) (.const (.pointer none)))] [3]) (.cond (t 4) (.seq (.ops [mv 2 (k 0)] []) (.ret)) (.skip))) (.seq (.ops [mv 5 (t 0),o 6 (.nilck (t 5)),fa 7 15 (t 6),l1 8 (t 7),mv 2 (t 8)] [0,5,6,7,8]) (.ret)))
def zu3:List zd:=[.tmp 2]
theorem ztF {args:List Value} {M:Mem} {R:Value→Mem→Prop} (hn:args.length≤9) (h:zj Tryz.prog zu2 zu3 args M R):CallsM Tryz.prog F.ze0 args M R:=zf (kf:=zu1) Tryz.func6 (by kernel_rfl) (by kernel_rfl) hn (by kernel_rfl) h
def zw0 (i:Nat):List Nat:=match i with|0=>[2]|1=>[3]|3=>[0,5,6,7,8,9]|_=>[]
def zw1:RCode := .seq (.ops [mv 2 (k 0)] [2]) (.seq (.seq (.ops [mv 3 (t 0),o 4 (.pnil .eql (t 3) (.const (.pointer none)))] [3]) (.cond (t 4) (.seq (.ops [mv 2 (k 0)] []) (.ret)) (.skip))) (.seq (.ops [mv 5 (t 0),o 6 (.nilck (t 5)),fa 7 12 (t 6),l1 8 (t 7),o 9 (.len (t 8)),mv 2 (t 9)] [0,5,6,7,8,9]) (.ret)))
def zw2:List zd:=[.tmp 2]
theorem zu4 {args:List Value} {M:Mem} {R:Value→Mem→Prop} (hn:args.length≤10) (h:zj Tryz.prog zw1 zw2 args M R):CallsM Tryz.prog F.zbN args M R:=zf (kf:=zw0) Tryz.func7 (by kernel_rfl) (by kernel_rfl) hn (by kernel_rfl) h
def zzW (i:Nat):List Nat:=match i with|0=>[4]|1=>[0,1,5,6,7,8,9,10,11,12,13,14,15,16,17]|_=>[]
def zzX:RCode := .seq (.ops [mv 4 (kb false)] [4]) (.seq (.ops [mv 5 (t 0),mv 6 (t 1),ca 7 F.zcZ [(t 5),(t 6)],os 8 (.mov (t 7)),gt 8 9 (.mov (t 0)),gt 8 10 (.nilck (t 9)),gt 8 11 (.faddr 12 (t 10)),gt 8 12 (.load false 1 (t 11)),gt 8 13 (.mov (t 1)),gt 8 14 (.iaddr 1 (t 12) (t 13)),gt 8 15 (.load false 1 (t 14)),gt 8 16 (.pnil .neq (t 15) (.const (.pointer none))),o 17 (.pick (t 8) (t 16) (kb false)),mv 4 (t 17)] [0,1,5,6,7,8,9,10,11,12,13,14,15,16,17]) (.ret))
def zzY:List zd:=[.tmp 4]
theorem zyR {args:List Value} {M:Mem} {R:Value→Mem→Prop} (hn:args.length≤18) (h:zj Tryz.prog zzX zzY args M R):CallsM Tryz.prog F.za6 args M R:=zf (kf:=zzW) Tryz.func8 (by kernel_rfl) (by kernel_rfl) hn (by kernel_rfl) h
def zu5 (i:Nat):List Nat:=match i with|1=>[5,6,7]|2=>[9]|3=>[0,1,10,11,12,13,14,15,16,17]|_=>[]
def zu6:RCode := .seq (.ops [o 4 (.alloc 37 [(i 0),(i 0),sn,sn,sn])] []) (.seq (.seq (.ops [mv 5 (t 0),mv 6 (t 1),ca 7 F.za6 [(t 5),(t 6)],o 8 (.not (t 7))] [5,6,7]) (.cond (t 8) (.seq (.ops [o 9 (.build [(i 0),(i 0),sn,sn,sn] []),st 5 (t 4) (t 9)] [9]) (.ret)) (.skip))) (.seq (.ops [mv 10 (t 0),o 11 (.nilck (t 10)),fa 12 12 (t 11),l1 13 (t 12),mv 14 (t 1),o 15 (.iaddr 1 (t 13) (t 14)),l1 16 (t 15),ca 17 F.zn2 [(t 16)],st 5 (t 4) (t 17)] [0,1,10,11,12,13,14,15,16,17]) (.ret)))
def zu7:List zd:=[.cell true 5 4]
theorem ztG {args:List Value} {M:Mem} {R:Value→Mem→Prop} (hn:args.length≤18) (h:zj Tryz.prog zu6 zu7 args M R):CallsM Tryz.prog F.ze1 args M R:=zf (kf:=zu5) Tryz.func10 (by kernel_rfl) (by kernel_rfl) hn (by kernel_rfl) h
def zw3 (i:Nat):List Nat:=match i with|1=>[9,10,11]|2=>[13]|3=>[14,15,16,17,18,19,20,21]|4=>[22,23]|5=>[24,25]|6=>[0,1,5,26,27,28,29,30,31,32,33,34,35,36,37,38,39,40,41]|7=>[7,42]|8=>[44]|9=>[6,45,46]|10=>[47,48,49,50]|11=>[8,51]|_=>[]
def zw4:RCode := .seq (.ops [o 4 (.alloc 37 [(i 0),(i 0),sn,sn,sn])] []) (.seq (.seq (.ops [mv 9 (t 0),mv 10 (t 1),ca 11 F.zcZ [(t 9),(t 10)],o 12 (.not (t 11))] [9,10,11]) (.cond (t 12) (.seq (.ops [o 13 (.build [(i 0),(i 0),sn,sn,sn] []),st 5 (t 4) (t 13)] [13]) (.ret)) (.skip))) (.seq (.ops [mv 14 (t 0),o 15 (.nilck (t 14)),fa 16 11 (t 15),l1 17 (t 16),mv 18 (t 1),o 19 (.iaddr 1 (t 17) (t 18)),l1 20 (t 19),ca 21 F.zpb [(t 20)],mv 5 (t 21)] [14,15,16,17,18,19,20,21]) (.seq (.ops [mv 22 (t 5),ca 23 F.zjP [(t 22),(.const sn)]] [22,23]) (.seq (.ops [mv 24 (t 5),ca 25 F.zjQ [(t 24),(k 1048576)]] [24,25]) (.seq (.draw (.take (mv 27 (t 5)) (.take (mv 28 (t 1)) (.take (mv 29 (t 0)) (.take (o 30 (.nilck (t 29))) (.take (fa 31 0 (t 30)) (.take (fa 32 0 (t 31)) (.take (la 33 3 (t 32)) (.take (mv 34 (t 0)) (.take (o 35 (.nilck (t 34))) (.take (fa 36 0 (t 35)) (.take (fa 37 4 (t 36)) (.take (l1 38 (t 37)) (.alt (ca 39 F.zfF [(t 27),(t 28),(t 33),(t 38)]) false (.take (mv 26 (t 39)) (.take (ex 40 (t 26) 0) (.take (ex 41 (t 26) 1) (.take (mv 6 (t 40)) (.take (mv 7 (t 41)) (.done)))))) (.none)))))))))))))) [0,1,5,26,27,28,29,30,31,32,33,34,35,36,37,38,39,40,41]) (.seq (.seq (.ops [mv 42 (t 7),o 43 (.ibin .neq (t 42) (k 0))] [7,42]) (.cond (t 43) (.seq (.ops [o 44 (.build [(i 0),(i 0),sn,sn,sn] []),st 5 (t 4) (t 44)] [44]) (.ret)) (.skip))) (.seq (.ops [mv 45 (t 6),ca 46 F.zal [(t 45)],o 8 (.alloc 37 [(i 0),(i 0),sn,sn,sn]),st 5 (t 8) (t 46)] [6,45,46]) (.seq (.ops [fa 47 1 (t 8),l1 48 (t 47),o 49 (.ibin .sub (t 48) (k 1)),fa 50 1 (t 8),st 1 (t 50) (t 49)] [47,48,49,50]) (.seq (.ops [la 51 5 (t 8),st 5 (t 4) (t 51)] [8,51]) (.ret))))))))))
def zw5:List zd:=[.cell true 5 4]
theorem zu8 {args:List Value} {M:Mem} {R:Value→Mem→Prop} (hn:args.length≤52) (h:zj Tryz.prog zw4 zw5 args M R):CallsM Tryz.prog F.zf5 args M R:=zf (kf:=zw3) Tryz.func11 (by kernel_rfl) (by kernel_rfl) hn (by kernel_rfl) h
def zsD (i:Nat):List Nat:=match i with|0=>[6]|1=>[7]|3=>[0,1,2,9,10,11,12,13,14,15,16,17]|_=>[]
def zsE:RCode := .seq (.ops [mv 6 (.const sn)] [6]) (.seq (.seq (.ops [mv 7 (t 0),o 8 (.pnil .eql (t 7) (.const (.pointer none)))] [7]) (.cond (t 8) (.seq (.ops [mv 6 (.const sn)] []) (.ret)) (.skip))) (.seq (.ops [mv 9 (t 0),o 10 (.nilck (t 9)),fa 11 13 (t 10),l1 12 (t 11),mv 13 (t 1),mv 14 (t 2),o 15 (.build [(i 0),(i 0)] [(0,1,(t 13)),(1,1,(t 14))]),o 16 (.mget (.agg 2) false (.pointer none) (t 12) (t 15)),ca 17 F.zn3 [(t 16)],mv 6 (t 17)] [0,1,2,9,10,11,12,13,14,15,16,17]) (.ret)))
def zsF:List zd:=[.tmp 6]
theorem zrY {args:List Value} {M:Mem} {R:Value→Mem→Prop} (hn:args.length≤18) (h:zj Tryz.prog zsE zsF args M R):CallsM Tryz.prog F.zdj args M R:=zf (kf:=zsD) Tryz.func12 (by kernel_rfl) (by kernel_rfl) hn (by kernel_rfl) h
def zw6 (i:Nat):List Nat:=match i with|0=>[6]|1=>[7,8,9]|3=>[0,1,2,11,12,13,14,15,16,17,18,19]|_=>[]
def zw7:RCode := .seq (.ops [mv 6 (k 0)] [6]) (.seq (.seq (.ops [mv 7 (t 0),mv 8 (t 1),ca 9 F.za6 [(t 7),(t 8)],o 10 (.not (t 9))] [7,8,9]) (.cond (t 10) (.seq (.ops [mv 6 (k 16)] []) (.ret)) (.skip))) (.seq (.ops [mv 11 (t 0),o 12 (.nilck (t 11)),fa 13 12 (t 12),l1 14 (t 13),mv 15 (t 1),o 16 (.iaddr 1 (t 14) (t 15)),l1 17 (t 16),mv 18 (t 2),ca 19 F.zpc [(t 17),(t 18)],mv 6 (t 19)] [0,1,2,11,12,13,14,15,16,17,18,19]) (.ret)))
def zw8:List zd:=[.tmp 6]
theorem zu9 {args:List Value} {M:Mem} {R:Value→Mem→Prop} (hn:args.length≤20) (h:zj Tryz.prog zw7 zw8 args M R):CallsM Tryz.prog F.zf6 args M R:=zf (kf:=zw6) Tryz.func13 (by kernel_rfl) (by kernel_rfl) hn (by kernel_rfl) h
def zzZ (i:Nat):List Nat:=match i with|0=>[4]|1=>[0,1,5,6,7,8,9,10,11,12]|_=>[]
def zz0:RCode := .seq (.ops [mv 4 (kb false)] [4]) (.seq (.ops [mv 5 (t 1),o 6 (.ibin .geq (t 5) (k 0)),os 7 (.mov (t 6)),gt 7 8 (.mov (t 1)),gt 7 9 (.mov (t 0)),gt 7 10 (.call (fn F.zbN) [(t 9)]),gt 7 11 (.ibin .lss (t 8) (t 10)),o 12 (.pick (t 7) (t 11) (kb false)),mv 4 (t 12)] [0,1,5,6,7,8,9,10,11,12]) (.ret))
def zz1:List zd:=[.tmp 4]
theorem zyS {args:List Value} {M:Mem} {R:Value→Mem→Prop} (hn:args.length≤13) (h:zj Tryz.prog zz0 zz1 args M R):CallsM Tryz.prog F.zcZ args M R:=zf (kf:=zzZ) Tryz.func18 (by kernel_rfl) (by kernel_rfl) hn (by kernel_rfl) h
end
section
def zB0 (i:Nat):List Nat:=match i with|0=>[1,4]|1=>[0,3,5,6,7,8,9]|_=>[]
def zIl (i:Nat):List Nat:=match i with|0=>[4]|1=>[1,8,9,10]|4=>[15,16]|5=>[7,17,18,19,20,21]|6=>[22]|7=>[5,23,24]|_=>[]
def zq4 (i:Nat):List Nat:=match i with|0=>[2]|1=>[5]|4=>[0,7,8,9,10,11,12,13,14]|5=>[16]|6=>[4,17,18,19,20]|7=>[3,21]|_=>[]
def zq5:RCode := .seq (.ops [mv 2 (.const sn)] [2]) (.seq (.seq (.ops [mv 5 (t 0),o 6 (.pnil .eql (t 5) (.const (.pointer none)))] [5]) (.cond (t 6) (.seq (.ops [mv 2 (.const sn)] []) (.ret)) (.skip))) (.seq (.ops [o 3 (.alloc 87 [sn])] []) (.seq (.seq (.draw (.take (mv 7 (t 0)) (.take (o 8 (.nilck (t 7))) (.take (fa 9 1 (t 8)) (.take (l1 10 (t 9)) (.take (mv 11 (t 0)) (.take (o 12 (.nilck (t 11))) (.take (fa 13 3 (t 12)) (.take (l1 14 (t 13)) (.alt (ca 15 F.zcC [(t 10),(t 14)]) false (.done) (.none)))))))))) [0,7,8,9,10,11,12,13,14]) (.block 0 (.rfun ((t 15)) [16] (.ops [mv 4 (t 16)] [16]) (.block 1 (.ops [l1 17 (t 3),mv 18 (t 4),o 19 (.mkSl true 3 1 [(i 0)] [(0,1,(t 18))]),o 20 (.app 3 1 8 [(i 0)] (t 17) (t 19)),st 1 (t 3) (t 20)] [4,17,18,19,20]))))) (.seq (.ops [l1 21 (t 3),mv 2 (t 21)] [3,21]) (.ret)))))
def zq6:List zd:=[.tmp 2]
theorem zkq {args:List Value} {M:Mem} {R:Value→Mem→Prop} (hn:args.length≤22) (h:zj Tryz.prog zq5 zq6 args M R):CallsM Tryz.prog F.zaE args M R:=zf (kf:=zq4) Tryz.func128 (by kernel_rfl) (by kernel_rfl) hn (by kernel_rfl) h
def zBd (i:Nat):List Nat:=match i with|0=>[0,1,4]|1=>[2,3,5]|_=>[]
def zBe:RCode := .seq (.ops [o 2 (.box 3 (t 0)),o 3 (.box 3 (t 1)),mv 4 (.const .nilFunc)] [0,1,4]) (.seq (.ops [o 5 (.mkfn F.zhY [(t 3),(t 2)]),mv 4 (t 5)] [2,3,5]) (.ret))
def zBf:List zd:=[.tmp 4]
theorem zz2 {args:List Value} {M:Mem} {R:Value→Mem→Prop} (hn:args.length≤6) (h:zj Tryz.prog zBe zBf args M R):CallsM Tryz.prog F.zcC args M R:=zf (kf:=zBd) Tryz.func195 (by kernel_rfl) (by kernel_rfl) hn (by kernel_rfl) h
end
section
def zD3 (i:Nat):List Nat:=match i with|0=>[2]|1=>[0,4,5,6,7,8,9,10,11,12,13,14]|_=>[]
def zyT (i:Nat):List Nat:=match i with|0=>[2]|1=>[0,3,4]|_=>[]
def zyU:RCode := .seq (.ops [mv 2 (k 0)] [2]) (.seq (.ops [mv 3 (t 0),o 4 (.ibin .and (t 3) (k 127)),mv 2 (t 4)] [0,3,4]) (.ret))
def zyV:List zd:=[.tmp 2]
theorem zw9 {args:List Value} {M:Mem} {R:Value→Mem→Prop} (hn:args.length≤5) (h:zj Tryz.prog zyU zyV args M R):CallsM Tryz.prog F.zC args M R:=zf (kf:=zyT) Tryz.func272 (by kernel_rfl) (by kernel_rfl) hn (by kernel_rfl) h
def zIm (i:Nat):List Nat:=match i with|0=>[6]|1=>[2,10,11]|3=>[0,1,12,13,14,15]|4=>[17]|5=>[7,18,19,20]|6=>[9,22,23,24,25]|7=>[8,26]|_=>[]
def zBg (i:Nat):List Nat:=match i with|0=>[4]|1=>[1,8,9]|3=>[0,10]|4=>[12]|5=>[5,13,14]|6=>[7,16,17,18,19]|7=>[6,20]|_=>[]
def zBh:RCode := .seq (.ops [mv 4 (.const sn)] [4]) (.seq (.ops [mv 8 (t 1),ca 9 F.zcf [(t 8)],o 5 (.alloc 388 [(.bool false),(.bool false),(.bool false),(.bool false),(.bool false),(.bool false),(.bool false),(.bool false),(.bool false),(.bool false),(.bool false),(.bool false),(.bool false),(.bool false),(.bool false),(.bool false),(.bool false),(.bool false),(.bool false),(.bool false),(.bool false),(.bool false),(.bool false),(.bool false),(.bool false),(.bool false),(.bool false),(.bool false),(.bool false),(.bool false),(.bool false),(.bool false),(.bool false),(.bool false),(.bool false),(.bool false),(.bool false),(.bool false),(.bool false),(.bool false),(.bool false),(.bool false),(.bool false),(.bool false),(.bool false),(.bool false),(.bool false),(.bool false),(.bool false),(.bool false),(.bool false),(.bool false),(.bool false),(.bool false),(.bool false),(.bool false),(.bool false),(.bool false),(.bool false),(.bool false),(.bool false),(.bool false),(.bool false),(.bool false),(.bool false),(.bool false),(.bool false),(.bool false),(.bool false),(.bool false),(.bool false),(.bool false),(.bool false),(.bool false),(.bool false),(.bool false),(.bool false),(.bool false),(.bool false),(.bool false),(.bool false),(.bool false),(.bool false),(.bool false),(.bool false),(.bool false),(.bool false),(.bool false),(.bool false),(.bool false),(.bool false),(.bool false),(.bool false),(.bool false),(.bool false),(.bool false),(.bool false),(.bool false),(.bool false),(.bool false),(.bool false),(.bool false),(.bool false),(.bool false),(.bool false),(.bool false),(.bool false),(.bool false),(.bool false),(.bool false),(.bool false),(.bool false),(.bool false),(.bool false),(.bool false),(.bool false),(.bool false),(.bool false),(.bool false),(.bool false),(.bool false),(.bool false),(.bool false),(.bool false),(.bool false),(.bool false),(.bool false),(.bool false)]),st 128 (t 5) (t 9)] [1,8,9]) (.seq (.ops [o 6 (.alloc 87 [sn])] []) (.seq (.seq (.ops [mv 10 (t 0),ca 11 F.zcC [(t 10),(k 128)]] [0,10]) (.block 0 (.rfun ((t 11)) [12] (.ops [mv 7 (t 12)] [12]) (.block 1 (.seq (.ops [mv 13 (t 7),o 14 (.iaddrA 128 1 (t 5) (t 13)),l1 15 (t 14)] [5,13,14]) (.cond (t 15) (.ops [l1 16 (t 6),mv 17 (t 7),o 18 (.mkSl true 3 1 [(i 0)] [(0,1,(t 17))]),o 19 (.app 3 1 8 [(i 0)] (t 16) (t 18)),st 1 (t 6) (t 19)] [7,16,17,18,19]) (.skip))))))) (.seq (.ops [l1 20 (t 6),mv 4 (t 20)] [6,20]) (.ret)))))
def zBi:List zd:=[.tmp 4]
theorem zz3 {args:List Value} {M:Mem} {R:Value→Mem→Prop} (hn:args.length≤21) (h:zj Tryz.prog zBh zBi args M R):CallsM Tryz.prog F.zkB args M R:=zf (kf:=zBg) Tryz.func343 (by kernel_rfl) (by kernel_rfl) hn (by kernel_rfl) h
end
end Go.Proofs.YtdgikhhkgnjalaaGreat
namespace Go.Proofs.YtdgikhhkgnjalaaGreat
open Go Go.Vm
@[reducible] def ptr (p:Nat):Value := .pointer (some ⟨p,0,none⟩)
end Go.Proofs.YtdgikhhkgnjalaaGreat
namespace Go.Vm
set_option linter.unusedSectionVars false
set_option linter.unusedSimpArgs false
section
variable {κ α:Type} [DecidableEq κ]
def zNr (kv:κ→Value) (vv:α→Value) (p:Nat×κ×α):MapEntry:={ key:=kv p.2.1,val:=vv p.2.2,born:=p.1 }
def zMq (kv:κ→Value) (vv:α→Value) (l:List (Nat×κ×α)) (clock:Nat):Obj := .map (l.map (zNr kv vv)).toArray clock
structure zNs (l:List (Nat×κ×α)) (clock:Nat):Prop where
 keys:(l.map (·.2.1)).Nodup
 old:∀ p∈l,p.1<clock
 apart:(l.map (·.1)).Nodup
def zMr:List (κ×α)→κ→Option α
 | [],_=>none
 | (k,x)::r,i=>if k=i then some x else zMr r i
def bset:List (Nat×κ×α)→κ→α→List (Nat×κ×α)
 | [],_,_=>[]
 | (b,k,y)::r,i,x=>if k=i then (b,i,x)::r else (b,k,y)::bset r i x
variable {kv:κ→Value} {vv:α→Value}
def zNt (kv:κ→Value) (vv:α→Value) (M:Mem) (b:Nat) (m:List (κ×α)):Prop:=∃ l clock,M b=some (zMq kv vv l clock)∧zNs l clock∧l.map (·.2)=m
end
end Go.Vm
namespace Go.Vm
end Go.Vm
namespace Go.Vm
section
variable {κ α:Type} {kv:κ→Value} {vv:α→Value}
end
end Go.Vm
namespace Go.Vm
end Go.Vm
namespace Go.Vm
theorem CallsM.frame {P:Program} {f:Nat} {args:List Value} {A M:Mem} {R:Value→Mem→Prop} (h:CallsM P f args A R) (hA:A.le M) :
  CallsM P f args M fun v M'=>∃ A',R v A'∧A'.le M'∧∀ x o,A x=none→M x=some o→M' x=some o∧A' x=none:=by
 refine⟨h.1,fun F w hM hF hdj=>?_⟩
 obtain⟨F',hF'⟩:∃ F':Mem,F'=fun x=>if A x=none then (if M x=none then F x else M x) else none:=⟨_,rfl⟩
 have hFF:F.le F':=fun x o hx=>by
  have hMx:M x=none:=(hdj x).resolve_right (by rw[hx];simp)
  have hAx:A x=none:=by
   cases e:A x with
   | none=>rfl
   | some y=>rw[hA x y e] at hMx;cases hMx
  rw[hF'];dsimp only;rw[if_pos hAx,if_pos hMx];exact hx
 have hF'w:F'.le (zk w):=fun x o hx=>by
  rw[hF'] at hx;dsimp only at hx
  split at hx
  ·split at hx
   ·exact hF x o hx
   ·exact hM x o hx
  ·cases hx
 have hdj':A.disj F':=fun x=>by
  by_cases e:A x=none
  ·exact .inl e
  ·right;rw[hF'];dsimp only;rw[if_neg e]
 refine(h.2 F' w (fun x o hx=>hM x o (hA x o hx)) hF'w hdj').mono ?_
 rintro e w' ⟨v,A',he,hR,hA',hFw',hdA,hrest⟩
 have hin:∀ x o,A x=none→M x=some o→F' x=some o:=fun x o h1 h2=>by
  rw[hF'];dsimp only;rw[if_pos h1,if_neg (by rw[h2];simp)];exact h2
 obtain⟨M',hM'⟩:∃ M':Mem,M'=fun x=>if A' x=none then (if A x=none then M x else none) else A' x:=⟨_,rfl⟩
 refine⟨v,M',he,⟨A',hR,fun x o hx=>by rw[hM'];dsimp only;rw[if_neg (by rw[hx];simp)];exact hx,fun x o h1 h2=>?_⟩,fun x o hx=>?_,fun x o hx=>hFw' x o (hFF x o hx),fun x=>?_,hrest⟩
 ·have:=hin x o h1 h2
  have hn:A' x=none:=(hdA x).resolve_right (by rw[this];simp)
  exact⟨by rw[hM'];dsimp only;rw[if_pos hn,if_pos h1];exact h2,hn⟩
 ·rw[hM'] at hx;dsimp only at hx
  split at hx
  ·split at hx
   ·exact hFw' x o (hin x o ‹_› hx)
   ·cases hx
  ·exact hA' x o hx
 ·cases e:F x with
  | none=>exact .inr rfl
  | some o=>
   left
   have hFx:=hFF x o e
   have hn:A' x=none:=(hdA x).resolve_right (by rw[hFx];simp)
   have hMx:M x=none:=(hdj x).resolve_right (by rw[e];simp)
   rw[hM'];dsimp only;rw[if_pos hn];split
   ·exact hMx
   ·rfl
end Go.Vm
namespace Go.Vm
end Go.Vm
namespace Go.Vm
open Go.RowKit
theorem WLe.refl (W:World):WLe W W:=⟨rfl,rfl,rfl,Nat.le_refl _,Nat.le_refl _,fun _ _ h=>h⟩
theorem CallsM.world {P:Program} {f:Nat} {args:List Value} {M:Mem} {R:Value→Mem→Prop} (h:CallsM P f args M R) {w:World} (hM:M.le (zk w)) (hR:∀ v M',R v M'→M.le M') :
  Calls P f args.toArray w fun e w'=>∃ v M',e = .returned v∧R v M'∧M'.le (zk w')∧WLe w w'∧∀ b,M b=none→M' b≠none→w.heap.size≤b:=by
 obtain⟨F,hF⟩:∃ F:Mem,F=fun b=>if M b=none then zk w b else none:=⟨_,rfl⟩
 refine(h.2 F w hM (fun b o hb=>?_) (fun b=>?_)).mono ?_
 ·rw[hF] at hb;dsimp only at hb
  split at hb
  ·exact hb
  ·cases hb
 ·by_cases e:M b=none
  ·exact .inl e
  ·right;rw[hF];dsimp only;rw[if_neg e]
 ·rintro e w' ⟨v,M',he,hr,hM',hF',hdj,h1,h2,h3,h4,h5⟩
  refine⟨v,M',he,hr,hM',⟨h1,h2,h3,h5,h4,fun k o hk=>?_⟩,fun b hb hb'=>?_⟩
  ·by_cases e:M k=none
   ·exact hF' k o (by rw[hF];dsimp only;rw[if_pos e];exact hk)
   ·obtain⟨z,hz⟩:=Option.ne_none_iff_exists'.1 e
    have h6:=hM k z hz
    have:o=z:=Option.some.inj (hk.symm.trans h6)
    subst this
    exact hM' k o (hR v M' hr k o hz)
  ·have h6:=(hdj b).resolve_left hb'
   rw[hF] at h6
   dsimp only at h6
   rw[if_pos hb] at h6
   apply Classical.byContradiction
   intro hlt
   have:w.heap[b]? = none:=h6
   rw[Array.getElem?_eq_none_iff] at this
   exact hlt this
theorem zHb {P:Program} {asg body:(Exit→St→Prop)→St→Prop} {ps:List Nat} {gf:Nat} {lb:List Value} {Q:Exit→St→Prop} {fr:List (Nat×SV)} {bx:List BE} {M:Mem} {α:Type} {encs:α→List Value} {A:Mem} {N:Nat} {PM:α→Mem→Prop} {D:List α→Prop}
  (hit:zEt P gf lb encs A N PM D) (hen:zns P gf=true) (hbx:bx.all zJ8=true) (hA:A.le M) (hlen:∀ x,(encs x).length=ps.length) (I:List α→Mem→Prop) (M0:Mem) (hM0:M0.le M) (hAM:∀ b,A b≠none→M0 b=none) (hI:I [] M0)
  (hround:∀ pre x M Mx M1,I pre M→pre.length<N→PM x Mx→(∀ b,Mx b≠none→M b=none∧A b=none)→M.le M1→Mx.le M1 →
   asg (fun e t=>e = .normal∧body (fun e t'=>e = .normal∧∃ M2,I (pre++[x]) M2∧M2.le t'.M) t) ⟨zEu ps (encs x) fr,bx,M1⟩)
  (hdone:∀ xs M M1,D xs→I xs M→(∀ b,A b≠none→M b=none)→M.le M1→A.le M1→Q .normal ⟨fr,bx,M1⟩):zDX P asg body ps gf lb Q ⟨fr,bx,M⟩:=
 ⟨hen,hbx,α,encs,A,N,PM,D,I,hit,hA,hlen,⟨M0,hM0,hAM,hI⟩,hround,hdone⟩
end Go.Vm
