/- Part of this proof;laid by program. -/
import Derived.Test.YtdogcflaekkdkaaGreatJ17
import Derived.Test.YtdogcflaekkdkaaGreatJ22
import Derived.Test.YtdogcflaekkdkaaGreatJ8
set_option linter.unusedVariables false
set_option linter.unusedSimpArgs false
namespace Go.Proofs.YtdogcflaekkdkaaGreat
open Go.Vm Go.Vm.Rn Go.Vm.Rn.Q
set_option maxRecDepth 100000
section
noncomputable def zOl:List W:=[(.ag [i 50,i 2000,i 50,i 100000,i 200,i 4,i 3,i 3,i 3,i 0])]
noncomputable def znn:List W:=[(.c (.p 70 0))]
noncomputable def zxw:List W:=[(.c (.p 170 0))]
noncomputable def zho:List W:=[(.c (.p 70 0)),(.c (.p 170 0))]
noncomputable def zPl:List W:=[(.c (.p 70 0)),(.c (i 1)),(.c (.l 2978 0 1 1))]
noncomputable def zOm:List W:=[(.c (.p 70 0)),(.c (i 1))]
noncomputable def zPm:List W:=[(.ag [i 0,i 1,.g 3121 0 0 1,.g 3119 0 0 1,.nl]),(.ag [i 0,i 1,.g 3102 0 0 1,.g 3100 0 0 1,.nl])]
noncomputable def zGl:T O := .ofs .e [(0,some (.mp [⟨.c (.s [119,48,48,48,48,49]),.c (.p 49 0),0⟩] 1)),(1,some (.row 126 [i 100000,.m 0,.n .i64 (-1),.t false])),(2,some (.mp [⟨.c (.s [119,48,48,48,48,49]),.c (.p 149 0),0⟩] 1)),(3,some (.row 126 [i 100000,.m 2,.n .i64 (-1),.t false])),(6,some (.gr 3 1 [i 1])),(7,some (.mp [] 0)),(8,some (.mp [] 0)),(9,some (.row 182 [i 0,i 64,.g 6 0 0 1,.m 7,.m 8])),(14,some (.mp [] 0)),(15,some (.row 201 [i 50,.m 14])),(16,some (.mp [] 0)),(17,some (.row 123 [i 0,i 50,i 2000,i 50,i 1,i 0,i 0,i 0,i 0,i 0,i 0,i 0,i 0,i 0,i 0,i 0,i 0,i 0,i 0,i 0,i 0,i 0,i 0,i 0,i 0,i 0,i 0,i 0,i 0,i 0,i 0,i 0,i 0,i 0,i 0,i 0,i 0,i 0,i 0,i 0,i 0,i 0,i 0,i 0,i 0,i 0,i 0,i 0,i 0,i 0,i 0,i 0,i 0,i 0,i 0,i 0,i 0,i 0,i 0,i 0,i 0,i 0,i 0,i 0,i 0,i 0,i 0,i 0,i 0,.m 16,i 0,i 0,.p 15 0])),(18,some (.row 141 [.p 17 0,.p 1 0,.p 21 0,i 0,.t false,.t false])),(21,some (.row 244 [.p 1 0,i 1,i 1,i 200,.t false])),(49,some (.row 303 [.g 50 0 0 9,i 9])),(50,some (.gr 5 1 [u 0,u 0,u 0,u 1,u 168,u 62,u 246,u 202,u 1])),(57,some (.mp [] 0)),(58,some (.row 188 [i 3,i 0,.m 57])),(59,some (.mp [⟨.c (i 1),.c (.p 69 0),0⟩] 1)),(62,some (.row 237 [i 4,i 0,.nl,i 0])),(63,some (.row 240 [i 4,i 0,.m 64,.m 65])),(64,some (.mp [] 0)),(65,some (.mp [] 0)),(66,some (.row 167 [i 512,.n .i64 (-1),.t false,i 4,i 3,i 3,i 3,i 0,i 0,.t false,.t false,.p 62 0,.p 63 0,.nl,.nl])),(68,some (.row 156 [.t true,.nl,i 0,i 0,i 0,i 0,i 0,.nl])),(69,some (.row 96 [.p 66 0,.p 68 0,i 0,.g 103 0 0 10])),(70,some (.row 91 [i 0,i 50,i 2000,i 50,i 100000,i 200,i 4,i 3,i 3,i 3,i 0,.p 18 0,.m 59,.p 9 0,.p 58 0,.nl,i 0,i 0])),(103,some (.gr 5 1 [u 126,u 3,u 111,u 2,u 0,u 0,u 0,u 203,u 9,u 126])),(106,some (.gr 3 1 [i 0])),(107,some (.mp [] 0)),(108,some (.mp [] 0)),(109,some (.row 182 [i 1,i 64,.g 106 0 0 1,.m 107,.m 108])),(114,some (.mp [] 0)),(115,some (.row 201 [i 50,.m 114])),(116,some (.mp [] 0)),(117,some (.row 123 [i 1,i 50,i 2000,i 50,i 1,i 0,i 0,i 0,i 0,i 0,i 0,i 0,i 0,i 0,i 0,i 0,i 0,i 0,i 0,i 0,i 0,i 0,i 0,i 0,i 0,i 0,i 0,i 0,i 0,i 0,i 0,i 0,i 0,i 0,i 0,i 0,i 0,i 0,i 0,i 0,i 0,i 0,i 0,i 0,i 0,i 0,i 0,i 0,i 0,i 0,i 0,i 0,i 0,i 0,i 0,i 0,i 0,i 0,i 0,i 0,i 0,i 0,i 0,i 0,i 0,i 0,i 0,i 0,i 0,.m 116,i 0,i 0,.p 115 0])),(118,some (.row 141 [.p 117 0,.p 3 0,.p 121 0,i 0,.t false,.t false])),(121,some (.row 244 [.p 3 0,i 1,i 1,i 200,.t false])),(149,some (.row 303 [.g 150 0 0 9,i 9])),(150,some (.gr 5 1 [u 0,u 0,u 0,u 1,u 168,u 62,u 246,u 202,u 1])),(157,some (.mp [] 0)),(158,some (.row 188 [i 3,i 0,.m 157])),(159,some (.mp [⟨.c (i 0),.c (.p 169 0),0⟩] 1)),(162,some (.row 237 [i 4,i 0,.nl,i 0])),(163,some (.row 240 [i 4,i 0,.m 164,.m 165])),(164,some (.mp [] 0)),(165,some (.mp [] 0)),(166,some (.row 167 [i 512,.n .i64 (-1),.t false,i 4,i 3,i 3,i 3,i 0,i 0,.t false,.t false,.p 162 0,.p 163 0,.nl,.nl])),(168,some (.row 156 [.t true,.nl,i 0,i 0,i 0,i 0,i 0,.nl])),(169,some (.row 96 [.p 166 0,.p 168 0,i 0,.g 203 0 0 10])),(170,some (.row 91 [i 1,i 50,i 2000,i 50,i 100000,i 200,i 4,i 3,i 3,i 3,i 0,.p 118 0,.m 159,.p 109 0,.p 158 0,.nl,i 0,i 0])),(203,some (.gr 5 1 [u 126,u 3,u 111,u 2,u 0,u 0,u 0,u 203,u 9,u 126]))]
noncomputable def jsg0:Stg:=⟨0,.e,(.tp [.c (.p 70 0),.c (.p 170 0),.c (.t true)]),204,zGl⟩
noncomputable def zJT:T O := .ofs zGl [(66,some (.row 167 [i 512,.n .i64 (-1),.t false,i 4,i 3,i 3,i 2,i 0,i 0,.t false,.t false,.p 62 0,.p 63 0,.nl,.nl])),(70,some (.row 91 [i 0,i 50,i 2000,i 50,i 100000,i 200,i 4,i 3,i 3,i 3,i 0,.p 18 0,.m 59,.p 9 0,.p 58 0,.nl,i 1,i 0]))]
noncomputable def jsg1:Stg:=⟨204,zGl,(.c (i 0)),213,zJT⟩
noncomputable def zJU:T O := .ofs zJT [(166,some (.row 167 [i 512,.n .i64 (-1),.t false,i 4,i 3,i 3,i 2,i 0,i 0,.t false,.t false,.p 162 0,.p 163 0,.nl,.nl])),(170,some (.row 91 [i 1,i 50,i 2000,i 50,i 100000,i 200,i 4,i 3,i 3,i 3,i 0,.p 118 0,.m 159,.p 109 0,.p 158 0,.nl,i 1,i 0]))]
noncomputable def jsg2:Stg:=⟨213,zJT,(.c (i 0)),222,zJU⟩
noncomputable def zJV:T O := .ofs zJU [(64,none),(65,none),(103,none),(164,none),(165,none),(203,none),(63,some (.row 240 [i 4,i 0,.m 303,.m 304])),(66,some (.row 167 [i 512,i 512,.t false,i 4,i 3,i 3,i 2,i 0,i 1,.t false,.t false,.p 62 0,.p 63 0,.nl,.nl])),(68,some (.row 156 [.t false,.nl,i 1,i 0,i 0,i 0,i 0,.nl])),(69,some (.row 96 [.p 66 0,.p 68 0,i 1,.g 339 0 0 10])),(163,some (.row 240 [i 4,i 0,.m 244,.m 245])),(166,some (.row 167 [i 512,i 512,.t false,i 4,i 3,i 3,i 2,i 0,i 1,.t false,.t false,.p 162 0,.p 163 0,.nl,.nl])),(168,some (.row 156 [.t false,.nl,i 1,i 0,i 0,i 0,i 0,.nl])),(169,some (.row 96 [.p 166 0,.p 168 0,i 1,.g 280 0 0 10])),(244,some (.mp [] 0)),(245,some (.mp [] 0)),(280,some (.gr 5 1 [u 126,u 3,u 99,u 2,u 0,u 2,u 0,u 75,u 77,u 126])),(303,some (.mp [] 0)),(304,some (.mp [] 0)),(339,some (.gr 5 1 [u 126,u 3,u 99,u 2,u 0,u 2,u 0,u 75,u 77,u 126]))]
noncomputable def jsg3:Stg:=⟨222,zJU,(.tp []),340,zJV⟩
noncomputable def zJW:T O := .ofs zJV [(280,none),(339,none),(66,some (.row 167 [i 512,i 512,.t true,i 4,i 3,i 3,i 0,i 0,i 1,.t false,.t false,.p 62 0,.p 63 0,.nl,.nl])),(68,some (.row 156 [.t false,.nl,i 2,i 0,i 0,i 0,i 0,.nl])),(69,some (.row 96 [.p 66 0,.p 68 0,i 1,.nl])),(166,some (.row 167 [i 512,i 512,.t true,i 4,i 3,i 3,i 0,i 0,i 1,.t false,.t false,.p 162 0,.p 163 0,.nl,.nl])),(168,some (.row 156 [.t false,.nl,i 2,i 0,i 0,i 0,i 0,.nl])),(169,some (.row 96 [.p 166 0,.p 168 0,i 1,.nl]))]
noncomputable def jsg4:Stg:=⟨340,zJV,(.tp []),396,zJW⟩
noncomputable def zJX:T O := .ofs zJW []
noncomputable def jsg5:Stg:=⟨396,zJW,(.tp []),408,zJX⟩
noncomputable def zJY:T O := .ofs zJX [(70,some (.row 91 [i 0,i 50,i 2000,i 50,i 100000,i 200,i 4,i 3,i 3,i 3,i 0,.p 18 0,.m 59,.p 9 0,.p 58 0,.nl,i 2,i 0]))]
noncomputable def jsg6:Stg:=⟨408,zJX,(.c (i 0)),418,zJY⟩
noncomputable def zJZ:T O := .ofs zJY [(170,some (.row 91 [i 1,i 50,i 2000,i 50,i 100000,i 200,i 4,i 3,i 3,i 3,i 0,.p 118 0,.m 159,.p 109 0,.p 158 0,.nl,i 2,i 0]))]
noncomputable def jsg7:Stg:=⟨418,zJY,(.c (i 0)),428,zJZ⟩
noncomputable def zJ0:T O := .ofs zJZ []
noncomputable def jsg8:Stg:=⟨428,zJZ,(.tp []),440,zJ0⟩
noncomputable def zJ1:T O := .ofs zJ0 []
noncomputable def jsg9:Stg:=⟨440,zJ0,(.tp []),452,zJ1⟩
noncomputable def zGm:T O := .ofs zJ1 []
noncomputable def jsg10:Stg:=⟨452,zJ1,(.tp []),464,zGm⟩
noncomputable def zGn:T O := .ofs zGm [(62,some (.row 237 [i 4,i 0,.g 664 0 0 1,i 1])),(66,some (.row 167 [i 512,i 512,.t true,i 4,i 3,i 3,i 3,i 0,i 1,.t false,.t false,.p 62 0,.p 63 0,.nl,.nl])),(69,some (.row 96 [.p 66 0,.p 68 0,i 1,.g 767 0 0 76])),(70,some (.row 91 [i 0,i 50,i 2000,i 50,i 100000,i 200,i 4,i 3,i 3,i 3,i 0,.p 18 0,.m 59,.p 9 0,.p 58 0,.nl,i 3,i 0])),(663,some (.gr 5 1 [u 4,u 0,u 16,u 16,u 16,u 16,u 16,u 16,u 16,u 16,u 16,u 16,u 16,u 16,u 16,u 16,u 16,u 16,u 16,u 16,u 16,u 16,u 16,u 16,u 16,u 16,u 16,u 16,u 16,u 16,u 16,u 16,u 16,u 16,u 16,u 16,u 16,u 16,u 16,u 16,u 16,u 16,u 16,u 16,u 16,u 16,u 16,u 16,u 16,u 16,u 16,u 16,u 16,u 16,u 16,u 16,u 16,u 16,u 16,u 16,u 16,u 16,u 16,u 16,u 16])),(664,some (.gr 30 1 [.g 663 0 0 65])),(767,some (.gr 5 1 [u 126,u 3,u 0,u 0,u 2,u 0,u 2,u 0,u 4,u 0,u 16,u 16,u 16,u 16,u 16,u 16,u 16,u 16,u 16,u 16,u 16,u 16,u 16,u 16,u 16,u 16,u 16,u 16,u 16,u 16,u 16,u 16,u 16,u 16,u 16,u 16,u 16,u 16,u 16,u 16,u 16,u 16,u 16,u 16,u 16,u 16,u 16,u 16,u 16,u 16,u 16,u 16,u 16,u 16,u 16,u 16,u 16,u 16,u 16,u 16,u 16,u 16,u 16,u 16,u 16,u 16,u 16,u 16,u 16,u 16,u 16,u 16,u 16,u 6,u 20,u 126]))]
noncomputable def jsg11:Stg:=⟨464,zGm,(.c (i 0)),768,zGn⟩
noncomputable def zGo:T O := .ofs zGn [(162,some (.row 237 [i 4,i 0,.g 968 0 0 1,i 1])),(166,some (.row 167 [i 512,i 512,.t true,i 4,i 3,i 3,i 3,i 0,i 1,.t false,.t false,.p 162 0,.p 163 0,.nl,.nl])),(169,some (.row 96 [.p 166 0,.p 168 0,i 1,.g 1071 0 0 76])),(170,some (.row 91 [i 1,i 50,i 2000,i 50,i 100000,i 200,i 4,i 3,i 3,i 3,i 0,.p 118 0,.m 159,.p 109 0,.p 158 0,.nl,i 3,i 0])),(967,some (.gr 5 1 [u 4,u 16,u 0,u 16,u 16,u 16,u 16,u 16,u 16,u 16,u 16,u 16,u 16,u 16,u 16,u 16,u 16,u 16,u 16,u 16,u 16,u 16,u 16,u 16,u 16,u 16,u 16,u 16,u 16,u 16,u 16,u 16,u 16,u 16,u 16,u 16,u 16,u 16,u 16,u 16,u 16,u 16,u 16,u 16,u 16,u 16,u 16,u 16,u 16,u 16,u 16,u 16,u 16,u 16,u 16,u 16,u 16,u 16,u 16,u 16,u 16,u 16,u 16,u 16,u 16])),(968,some (.gr 30 1 [.g 967 0 0 65])),(1071,some (.gr 5 1 [u 126,u 3,u 0,u 0,u 2,u 0,u 2,u 0,u 4,u 16,u 0,u 16,u 16,u 16,u 16,u 16,u 16,u 16,u 16,u 16,u 16,u 16,u 16,u 16,u 16,u 16,u 16,u 16,u 16,u 16,u 16,u 16,u 16,u 16,u 16,u 16,u 16,u 16,u 16,u 16,u 16,u 16,u 16,u 16,u 16,u 16,u 16,u 16,u 16,u 16,u 16,u 16,u 16,u 16,u 16,u 16,u 16,u 16,u 16,u 16,u 16,u 16,u 16,u 16,u 16,u 16,u 16,u 16,u 16,u 16,u 16,u 16,u 16,u 182,u 121,u 126]))]
noncomputable def jsg12:Stg:=⟨768,zGn,(.c (i 0)),1072,zGo⟩
noncomputable def zGp:T O := .ofs zGo [(767,none),(1071,none),(8,some (.mp [⟨.c (i 1),.ag [i 16,i 0,i 16,i 16,i 16,i 16,i 16,i 16,i 16,i 16,i 16,i 16,i 16,i 16,i 16,i 16,i 16,i 16,i 16,i 16,i 16,i 16,i 16,i 16,i 16,i 16,i 16,i 16,i 16,i 16,i 16,i 16,i 16,i 16,i 16,i 16,i 16,i 16,i 16,i 16,i 16,i 16,i 16,i 16,i 16,i 16,i 16,i 16,i 16,i 16,i 16,i 16,i 16,i 16,i 16,i 16,i 16,i 16,i 16,i 16,i 16,i 16,i 16,i 16,i 64],0⟩] 1)),(63,some (.row 240 [i 4,i 1,.m 303,.m 304])),(68,some (.row 156 [.t false,.nl,i 3,i 0,i 0,i 0,i 0,.nl])),(69,some (.row 96 [.p 66 0,.p 68 0,i 1,.g 1589 0 0 11])),(108,some (.mp [⟨.c (i 0),.ag [i 0,i 16,i 16,i 16,i 16,i 16,i 16,i 16,i 16,i 16,i 16,i 16,i 16,i 16,i 16,i 16,i 16,i 16,i 16,i 16,i 16,i 16,i 16,i 16,i 16,i 16,i 16,i 16,i 16,i 16,i 16,i 16,i 16,i 16,i 16,i 16,i 16,i 16,i 16,i 16,i 16,i 16,i 16,i 16,i 16,i 16,i 16,i 16,i 16,i 16,i 16,i 16,i 16,i 16,i 16,i 16,i 16,i 16,i 16,i 16,i 16,i 16,i 16,i 16,i 64],0⟩] 1)),(163,some (.row 240 [i 4,i 1,.m 244,.m 245])),(168,some (.row 156 [.t false,.nl,i 3,i 0,i 0,i 0,i 0,.nl])),(169,some (.row 96 [.p 166 0,.p 168 0,i 1,.g 1330 0 0 11])),(244,some (.mp [] 1)),(303,some (.mp [] 1)),(1330,some (.gr 5 1 [u 126,u 3,u 1,u 2,u 2,u 0,u 2,u 0,u 123,u 60,u 126])),(1589,some (.gr 5 1 [u 126,u 3,u 1,u 2,u 2,u 0,u 2,u 0,u 123,u 60,u 126]))]
noncomputable def jsg13:Stg:=⟨1072,zGo,(.tp []),1590,zGp⟩
noncomputable def zGq:T O := .ofs zGp [(663,none),(967,none),(1330,none),(1589,none),(62,some (.row 237 [i 4,i 1,.h 664 0 0 1 1 false,i 0])),(66,some (.row 167 [i 512,i 512,.t true,i 4,i 3,i 3,i 0,i 0,i 1,.t false,.t false,.p 62 0,.p 63 0,.nl,.nl])),(68,some (.row 156 [.t false,.nl,i 4,i 0,i 0,i 0,i 0,.nl])),(69,some (.row 96 [.p 66 0,.p 68 0,i 1,.nl])),(162,some (.row 237 [i 4,i 1,.h 968 0 0 1 1 false,i 0])),(166,some (.row 167 [i 512,i 512,.t true,i 4,i 3,i 3,i 0,i 0,i 1,.t false,.t false,.p 162 0,.p 163 0,.nl,.nl])),(168,some (.row 156 [.t false,.nl,i 4,i 0,i 0,i 0,i 0,.nl])),(169,some (.row 96 [.p 166 0,.p 168 0,i 1,.nl])),(664,some (.gr 30 1 [.nl])),(968,some (.gr 30 1 [.nl]))]
noncomputable def jsg14:Stg:=⟨1590,zGp,(.tp []),1650,zGq⟩
noncomputable def zGr:T O := .ofs zGq []
noncomputable def jsg15:Stg:=⟨1650,zGq,(.tp []),1662,zGr⟩
noncomputable def zGs:T O := .ofs zGr [(8,some (.mp [⟨.c (i 1),.ag [i 16,i 0,i 16,i 16,i 16,i 16,i 16,i 16,i 16,i 16,i 16,i 16,i 16,i 16,i 16,i 16,i 16,i 16,i 16,i 16,i 16,i 16,i 16,i 16,i 16,i 16,i 16,i 16,i 16,i 16,i 16,i 16,i 16,i 16,i 16,i 16,i 16,i 16,i 16,i 16,i 16,i 16,i 16,i 16,i 16,i 16,i 16,i 16,i 16,i 16,i 16,i 16,i 16,i 16,i 16,i 16,i 16,i 16,i 16,i 16,i 16,i 16,i 16,i 16,i 63],0⟩] 1)),(70,some (.row 91 [i 0,i 50,i 2000,i 50,i 100000,i 200,i 4,i 3,i 3,i 3,i 0,.p 18 0,.m 59,.p 9 0,.p 58 0,.nl,i 4,i 0]))]
noncomputable def jsg16:Stg:=⟨1662,zGr,(.c (i 0)),1673,zGs⟩
noncomputable def zGt:T O := .ofs zGs [(108,some (.mp [⟨.c (i 0),.ag [i 0,i 16,i 16,i 16,i 16,i 16,i 16,i 16,i 16,i 16,i 16,i 16,i 16,i 16,i 16,i 16,i 16,i 16,i 16,i 16,i 16,i 16,i 16,i 16,i 16,i 16,i 16,i 16,i 16,i 16,i 16,i 16,i 16,i 16,i 16,i 16,i 16,i 16,i 16,i 16,i 16,i 16,i 16,i 16,i 16,i 16,i 16,i 16,i 16,i 16,i 16,i 16,i 16,i 16,i 16,i 16,i 16,i 16,i 16,i 16,i 16,i 16,i 16,i 16,i 63],0⟩] 1)),(170,some (.row 91 [i 1,i 50,i 2000,i 50,i 100000,i 200,i 4,i 3,i 3,i 3,i 0,.p 118 0,.m 159,.p 109 0,.p 158 0,.nl,i 4,i 0]))]
noncomputable def jsg17:Stg:=⟨1673,zGs,(.c (i 0)),1684,zGt⟩
noncomputable def zGu:T O := .ofs zGt []
noncomputable def jsg18:Stg:=⟨1684,zGt,(.tp []),1696,zGu⟩
noncomputable def zGv:T O := .ofs zGu []
noncomputable def jsg19:Stg:=⟨1696,zGu,(.tp []),1708,zGv⟩
noncomputable def zGw:T O := .ofs zGv []
noncomputable def jsg20:Stg:=⟨1708,zGv,(.tp []),1720,zGw⟩
noncomputable def zGx:T O := .ofs zGw [(8,some (.mp [⟨.c (i 1),.ag [i 16,i 0,i 16,i 16,i 16,i 16,i 16,i 16,i 16,i 16,i 16,i 16,i 16,i 16,i 16,i 16,i 16,i 16,i 16,i 16,i 16,i 16,i 16,i 16,i 16,i 16,i 16,i 16,i 16,i 16,i 16,i 16,i 16,i 16,i 16,i 16,i 16,i 16,i 16,i 16,i 16,i 16,i 16,i 16,i 16,i 16,i 16,i 16,i 16,i 16,i 16,i 16,i 16,i 16,i 16,i 16,i 16,i 16,i 16,i 16,i 16,i 16,i 16,i 16,i 62],0⟩] 1)),(70,some (.row 91 [i 0,i 50,i 2000,i 50,i 100000,i 200,i 4,i 3,i 3,i 3,i 0,.p 18 0,.m 59,.p 9 0,.p 58 0,.nl,i 5,i 0]))]
noncomputable def jsg21:Stg:=⟨1720,zGw,(.c (i 0)),1731,zGx⟩
noncomputable def zGy:T O := .ofs zGx [(108,some (.mp [⟨.c (i 0),.ag [i 0,i 16,i 16,i 16,i 16,i 16,i 16,i 16,i 16,i 16,i 16,i 16,i 16,i 16,i 16,i 16,i 16,i 16,i 16,i 16,i 16,i 16,i 16,i 16,i 16,i 16,i 16,i 16,i 16,i 16,i 16,i 16,i 16,i 16,i 16,i 16,i 16,i 16,i 16,i 16,i 16,i 16,i 16,i 16,i 16,i 16,i 16,i 16,i 16,i 16,i 16,i 16,i 16,i 16,i 16,i 16,i 16,i 16,i 16,i 16,i 16,i 16,i 16,i 16,i 62],0⟩] 1)),(170,some (.row 91 [i 1,i 50,i 2000,i 50,i 100000,i 200,i 4,i 3,i 3,i 3,i 0,.p 118 0,.m 159,.p 109 0,.p 158 0,.nl,i 5,i 0]))]
noncomputable def jsg22:Stg:=⟨1731,zGx,(.c (i 0)),1742,zGy⟩
noncomputable def zGz:T O := .ofs zGy []
noncomputable def jsg23:Stg:=⟨1742,zGy,(.tp []),1754,zGz⟩
noncomputable def zGA:T O := .ofs zGz []
noncomputable def jsg24:Stg:=⟨1754,zGz,(.tp []),1766,zGA⟩
noncomputable def zGB:T O := .ofs zGA []
noncomputable def jsg25:Stg:=⟨1766,zGA,(.tp []),1778,zGB⟩
noncomputable def zGC:T O := .ofs zGB [(664,none),(8,some (.mp [⟨.c (i 1),.ag [i 16,i 0,i 16,i 16,i 16,i 16,i 16,i 16,i 16,i 16,i 16,i 16,i 16,i 16,i 16,i 16,i 16,i 16,i 16,i 16,i 16,i 16,i 16,i 16,i 16,i 16,i 16,i 16,i 16,i 16,i 16,i 16,i 16,i 16,i 16,i 16,i 16,i 16,i 16,i 16,i 16,i 16,i 16,i 16,i 16,i 16,i 16,i 16,i 16,i 16,i 16,i 16,i 16,i 16,i 16,i 16,i 16,i 16,i 16,i 16,i 16,i 16,i 16,i 16,i 61],0⟩] 1)),(62,some (.row 237 [i 4,i 1,.g 1979 0 0 1,i 1])),(66,some (.row 167 [i 512,i 512,.t true,i 4,i 3,i 3,i 3,i 0,i 1,.t false,.t false,.p 62 0,.p 63 0,.nl,.nl])),(69,some (.row 96 [.p 66 0,.p 68 0,i 1,.g 2082 0 0 76])),(70,some (.row 91 [i 0,i 50,i 2000,i 50,i 100000,i 200,i 4,i 3,i 3,i 3,i 0,.p 18 0,.m 59,.p 9 0,.p 58 0,.nl,i 6,i 0])),(1978,some (.gr 5 1 [u 4,u 0,u 16,u 16,u 16,u 16,u 16,u 16,u 16,u 16,u 16,u 16,u 16,u 16,u 16,u 16,u 16,u 16,u 16,u 16,u 16,u 16,u 16,u 16,u 16,u 16,u 16,u 16,u 16,u 16,u 16,u 16,u 16,u 16,u 16,u 16,u 16,u 16,u 16,u 16,u 16,u 16,u 16,u 16,u 16,u 16,u 16,u 16,u 16,u 16,u 16,u 16,u 16,u 16,u 16,u 16,u 16,u 16,u 16,u 16,u 16,u 16,u 16,u 16,u 16])),(1979,some (.gr 30 1 [.g 1978 0 0 65])),(2082,some (.gr 5 1 [u 126,u 3,u 2,u 2,u 2,u 0,u 2,u 0,u 4,u 0,u 16,u 16,u 16,u 16,u 16,u 16,u 16,u 16,u 16,u 16,u 16,u 16,u 16,u 16,u 16,u 16,u 16,u 16,u 16,u 16,u 16,u 16,u 16,u 16,u 16,u 16,u 16,u 16,u 16,u 16,u 16,u 16,u 16,u 16,u 16,u 16,u 16,u 16,u 16,u 16,u 16,u 16,u 16,u 16,u 16,u 16,u 16,u 16,u 16,u 16,u 16,u 16,u 16,u 16,u 16,u 16,u 16,u 16,u 16,u 16,u 16,u 16,u 16,u 67,u 41,u 126]))]
noncomputable def jsg26:Stg:=⟨1778,zGB,(.c (i 0)),2083,zGC⟩
noncomputable def zGD:T O := .ofs zGC [(968,none),(108,some (.mp [⟨.c (i 0),.ag [i 0,i 16,i 16,i 16,i 16,i 16,i 16,i 16,i 16,i 16,i 16,i 16,i 16,i 16,i 16,i 16,i 16,i 16,i 16,i 16,i 16,i 16,i 16,i 16,i 16,i 16,i 16,i 16,i 16,i 16,i 16,i 16,i 16,i 16,i 16,i 16,i 16,i 16,i 16,i 16,i 16,i 16,i 16,i 16,i 16,i 16,i 16,i 16,i 16,i 16,i 16,i 16,i 16,i 16,i 16,i 16,i 16,i 16,i 16,i 16,i 16,i 16,i 16,i 16,i 61],0⟩] 1)),(162,some (.row 237 [i 4,i 1,.g 2284 0 0 1,i 1])),(166,some (.row 167 [i 512,i 512,.t true,i 4,i 3,i 3,i 3,i 0,i 1,.t false,.t false,.p 162 0,.p 163 0,.nl,.nl])),(169,some (.row 96 [.p 166 0,.p 168 0,i 1,.g 2387 0 0 76])),(170,some (.row 91 [i 1,i 50,i 2000,i 50,i 100000,i 200,i 4,i 3,i 3,i 3,i 0,.p 118 0,.m 159,.p 109 0,.p 158 0,.nl,i 6,i 0])),(2283,some (.gr 5 1 [u 4,u 16,u 0,u 16,u 16,u 16,u 16,u 16,u 16,u 16,u 16,u 16,u 16,u 16,u 16,u 16,u 16,u 16,u 16,u 16,u 16,u 16,u 16,u 16,u 16,u 16,u 16,u 16,u 16,u 16,u 16,u 16,u 16,u 16,u 16,u 16,u 16,u 16,u 16,u 16,u 16,u 16,u 16,u 16,u 16,u 16,u 16,u 16,u 16,u 16,u 16,u 16,u 16,u 16,u 16,u 16,u 16,u 16,u 16,u 16,u 16,u 16,u 16,u 16,u 16])),(2284,some (.gr 30 1 [.g 2283 0 0 65])),(2387,some (.gr 5 1 [u 126,u 3,u 2,u 2,u 2,u 0,u 2,u 0,u 4,u 16,u 0,u 16,u 16,u 16,u 16,u 16,u 16,u 16,u 16,u 16,u 16,u 16,u 16,u 16,u 16,u 16,u 16,u 16,u 16,u 16,u 16,u 16,u 16,u 16,u 16,u 16,u 16,u 16,u 16,u 16,u 16,u 16,u 16,u 16,u 16,u 16,u 16,u 16,u 16,u 16,u 16,u 16,u 16,u 16,u 16,u 16,u 16,u 16,u 16,u 16,u 16,u 16,u 16,u 16,u 16,u 16,u 16,u 16,u 16,u 16,u 16,u 16,u 16,u 243,u 68,u 126]))]
noncomputable def jsg27:Stg:=⟨2083,zGC,(.c (i 0)),2388,zGD⟩
noncomputable def zGE:T O := .ofs zGD [(2082,none),(2387,none),(8,some (.mp [⟨.c (i 1),.ag [i 16,i 0,i 16,i 16,i 16,i 16,i 16,i 16,i 16,i 16,i 16,i 16,i 16,i 16,i 16,i 16,i 16,i 16,i 16,i 16,i 16,i 16,i 16,i 16,i 16,i 16,i 16,i 16,i 16,i 16,i 16,i 16,i 16,i 16,i 16,i 16,i 16,i 16,i 16,i 16,i 16,i 16,i 16,i 16,i 16,i 16,i 16,i 16,i 16,i 16,i 16,i 16,i 16,i 16,i 16,i 16,i 16,i 16,i 16,i 16,i 16,i 16,i 16,i 16,i 64],0⟩] 1)),(63,some (.row 240 [i 4,i 2,.m 303,.m 304])),(68,some (.row 156 [.t false,.nl,i 5,i 0,i 0,i 0,i 0,.nl])),(69,some (.row 96 [.p 66 0,.p 68 0,i 1,.g 2905 0 0 11])),(108,some (.mp [⟨.c (i 0),.ag [i 0,i 16,i 16,i 16,i 16,i 16,i 16,i 16,i 16,i 16,i 16,i 16,i 16,i 16,i 16,i 16,i 16,i 16,i 16,i 16,i 16,i 16,i 16,i 16,i 16,i 16,i 16,i 16,i 16,i 16,i 16,i 16,i 16,i 16,i 16,i 16,i 16,i 16,i 16,i 16,i 16,i 16,i 16,i 16,i 16,i 16,i 16,i 16,i 16,i 16,i 16,i 16,i 16,i 16,i 16,i 16,i 16,i 16,i 16,i 16,i 16,i 16,i 16,i 16,i 64],0⟩] 1)),(163,some (.row 240 [i 4,i 2,.m 244,.m 245])),(168,some (.row 156 [.t false,.nl,i 5,i 0,i 0,i 0,i 0,.nl])),(169,some (.row 96 [.p 166 0,.p 168 0,i 1,.g 2646 0 0 11])),(244,some (.mp [] 2)),(303,some (.mp [] 2)),(2646,some (.gr 5 1 [u 126,u 3,u 1,u 4,u 2,u 0,u 2,u 0,u 227,u 7,u 126])),(2905,some (.gr 5 1 [u 126,u 3,u 1,u 4,u 2,u 0,u 2,u 0,u 227,u 7,u 126]))]
noncomputable def jsg28:Stg:=⟨2388,zGD,(.tp []),2906,zGE⟩
noncomputable def zGF:T O := .ofs zGE [(1978,none),(2283,none),(2646,none),(2905,none),(62,some (.row 237 [i 4,i 2,.h 1979 0 0 1 1 false,i 0])),(66,some (.row 167 [i 512,i 512,.t true,i 4,i 3,i 3,i 0,i 0,i 1,.t false,.t false,.p 62 0,.p 63 0,.nl,.nl])),(68,some (.row 156 [.t false,.nl,i 6,i 0,i 0,i 0,i 0,.nl])),(69,some (.row 96 [.p 66 0,.p 68 0,i 1,.nl])),(162,some (.row 237 [i 4,i 2,.h 2284 0 0 1 1 false,i 0])),(166,some (.row 167 [i 512,i 512,.t true,i 4,i 3,i 3,i 0,i 0,i 1,.t false,.t false,.p 162 0,.p 163 0,.nl,.nl])),(168,some (.row 156 [.t false,.nl,i 6,i 0,i 0,i 0,i 0,.nl])),(169,some (.row 96 [.p 166 0,.p 168 0,i 1,.nl])),(1979,some (.gr 30 1 [.nl])),(2284,some (.gr 30 1 [.nl]))]
noncomputable def jsg29:Stg:=⟨2906,zGE,(.tp []),2966,zGF⟩
noncomputable def jsk30:T O := .ofs zGF []
noncomputable def jsg30:Stg:=⟨2966,zGF,(.tp []),2978,jsk30⟩
noncomputable def zL0:T O := .ofs jsk30 [(2,none),(3,none),(106,none),(107,none),(108,none),(109,none),(114,none),(115,none),(116,none),(117,none),(118,none),(121,none),(149,none),(150,none),(157,none),(158,none),(159,none),(162,none),(163,none),(166,none),(168,none),(169,none),(170,none),(244,none),(245,none),(2284,none),(2978,some (.ro 5 [u 120]))]
noncomputable def zL1:T O := .ofs zL0 [(50,none),(1979,none),(16,some (.mp [⟨.ag [i 0,i 1,i 1,i 1],.ag [i 0,i 1,i 1,i 1,.g 3019 0 0 1,i 0],0⟩] 1)),(17,some (.row 123 [i 0,i 50,i 2000,i 50,i 1,i 0,i 1,i 0,i 0,i 0,i 0,i 0,i 0,i 0,i 0,i 0,i 0,i 0,i 0,i 0,i 0,i 0,i 0,i 0,i 0,i 0,i 0,i 0,i 0,i 0,i 0,i 0,i 0,i 0,i 0,i 0,i 0,i 0,i 0,i 0,i 0,i 0,i 0,i 0,i 0,i 0,i 0,i 0,i 0,i 0,i 0,i 0,i 0,i 0,i 0,i 0,i 0,i 0,i 0,i 0,i 0,i 0,i 0,i 0,i 0,i 0,i 0,i 0,i 0,.m 16,i 1,i 1,.p 15 0])),(49,some (.row 303 [.g 3011 0 0 25,i 25])),(57,some (.mp [⟨.ag [i 0,i 1,i 1,i 1],.ag [i 1,i 0,i 0,i 0],0⟩] 1)),(58,some (.row 188 [i 3,i 1,.m 57])),(62,some (.row 237 [i 4,i 2,.g 3051 0 0 1,i 1])),(66,some (.row 167 [i 512,i 512,.t true,i 4,i 3,i 3,i 3,i 0,i 1,.t false,.t false,.p 62 0,.p 63 0,.nl,.nl])),(69,some (.row 96 [.p 66 0,.p 68 0,i 1,.g 3095 0 0 21])),(3011,some (.gr 5 1 [u 0,u 0,u 0,u 1,u 168,u 62,u 246,u 202,u 1,u 0,u 0,u 0,u 8,u 182,u 13,u 31,u 133,u 2,u 0,u 1,u 0,u 1,u 0,u 1,u 120])),(3019,some (.gr 5 1 [u 120])),(3050,some (.gr 5 1 [u 1,u 0,u 0,u 0,u 1,u 0,u 1,u 0,u 1,u 120])),(3051,some (.gr 30 1 [.g 3050 0 0 10])),(3095,some (.gr 5 1 [u 126,u 3,u 4,u 4,u 2,u 0,u 2,u 0,u 1,u 0,u 0,u 0,u 1,u 0,u 1,u 0,u 1,u 120,u 25,u 213,u 126]))]
noncomputable def jsg31:Stg:=⟨2979,zL0,(.tp [.ag [i 0,i 1,i 1,i 1],.c (i 0)]),3096,zL1⟩
noncomputable def zL2:T O := .ofs zL1 [(2978,none)]
noncomputable def zL3:T O := .ofs zL2 [(69,some (.row 96 [.p 66 0,.p 68 0,i 1,.nl]))]
noncomputable def jsg32:Stg:=⟨3096,zL2,(.c (.g 3095 0 0 21)),3096,zL3⟩
noncomputable def zL4:T O := .ofs zL3 [(3095,none)]
noncomputable def zuY:T O := .ofs zL4 [(3099,some (.gr 5 1 [u 120])),(3100,some (.gr 78 5 [i 0,i 1,i 1,i 1,.g 3099 0 0 1])),(3102,some (.gr 108 2 [i 1,i 1]))]
noncomputable def jsg33:Stg:=⟨3096,zL4,(.ag [i 0,i 1,.g 3102 0 0 1,.g 3100 0 0 1,.nl]),3103,zuY⟩
noncomputable def zGG:T O := .ofs zuY []
noncomputable def jsg34:Stg:=⟨3103,zuY,(.c (i 0)),3103,zGG⟩
noncomputable def zGH:T O := .ofs zGG [(68,none)]
noncomputable def zGI:T O := .ofs zGH []
noncomputable def jsg35:Stg:=⟨3103,zGH,(.tp []),3115,zGI⟩
noncomputable def zyZ:T O := .ofs zGI []
noncomputable def jsg36:Stg:=⟨3115,zGI,(.c (i 0)),3115,zyZ⟩
noncomputable def zGJ:T O := .ofs zyZ [(3118,some (.gr 5 1 [u 120])),(3119,some (.gr 78 5 [i 0,i 1,i 1,i 1,.g 3118 0 0 1])),(3121,some (.gr 108 2 [i 1,i 1]))]
noncomputable def jsg37:Stg:=⟨3115,zyZ,(.ag [i 0,i 1,.g 3121 0 0 1,.g 3119 0 0 1,.nl]),3122,zGJ⟩
noncomputable def zL5:T O := .ofs zGJ []
noncomputable def jsg38:Stg:=⟨3122,zGJ,(.c (.t true)),3122,zL5⟩
noncomputable def zL6:T O := .ofs zL5 [(3099,none),(3100,none),(3102,none),(3118,none),(3119,none),(3121,none)]
noncomputable def zGK:T O := .ofs zL6 []
noncomputable def jsg39:Stg:=⟨3122,zL6,(.c .nl),3122,zGK⟩
noncomputable def zy0:T O := .ofs zGK []
noncomputable def jsg40:Stg:=⟨3122,zGK,(.c .nl),3122,zy0⟩
end
section
theorem zMS:jsg0.ok (run primsN zn 1000 40 F.zf0) zOl=true:=by kernel_rfl
theorem zMT:jsg1.ok (run primsN zn 1000 40 F.zj) znn=true:=by kernel_rfl
theorem zMU:jsg2.ok (run primsN zn 1000 40 F.zj) zxw=true:=by kernel_rfl
theorem zMV:jsg3.ok (run primsN zn 1000 40 F.zh) zho=true:=by kernel_rfl
theorem zMW:jsg4.ok (run primsN zn 1000 40 F.zh) zho=true:=by kernel_rfl
theorem zMX:jsg5.ok (run primsN zn 1000 40 F.zh) zho=true:=by kernel_rfl
theorem zMY:jsg6.ok (run primsN zn 1000 40 F.zj) znn=true:=by kernel_rfl
theorem zMZ:jsg7.ok (run primsN zn 1000 40 F.zj) zxw=true:=by kernel_rfl
theorem zM0:jsg8.ok (run primsN zn 1000 40 F.zh) zho=true:=by kernel_rfl
theorem zM1:jsg9.ok (run primsN zn 1000 40 F.zh) zho=true:=by kernel_rfl
theorem zJ2:jsg10.ok (run primsN zn 1000 40 F.zh) zho=true:=by kernel_rfl
theorem zJ3:jsg11.ok (run primsN zn 1000 40 F.zj) znn=true:=by kernel_rfl
theorem zJ4:jsg12.ok (run primsN zn 1000 40 F.zj) zxw=true:=by kernel_rfl
theorem zJ5:jsg13.ok (run primsN zn 1000 40 F.zh) zho=true:=by kernel_rfl
end
section
theorem zJ6:jsg14.ok (run primsN zn 1000 40 F.zh) zho=true:=by kernel_rfl
theorem zJ7:jsg15.ok (run primsN zn 1000 40 F.zh) zho=true:=by kernel_rfl
theorem zJ8:jsg16.ok (run primsN zn 1000 40 F.zj) znn=true:=by kernel_rfl
theorem zJ9:jsg17.ok (run primsN zn 1000 40 F.zj) zxw=true:=by kernel_rfl
theorem zKa:jsg18.ok (run primsN zn 1000 40 F.zh) zho=true:=by kernel_rfl
theorem zKb:jsg19.ok (run primsN zn 1000 40 F.zh) zho=true:=by kernel_rfl
theorem zKc:jsg20.ok (run primsN zn 1000 40 F.zh) zho=true:=by kernel_rfl
theorem zKd:jsg21.ok (run primsN zn 1000 40 F.zj) znn=true:=by kernel_rfl
theorem zKe:jsg22.ok (run primsN zn 1000 40 F.zj) zxw=true:=by kernel_rfl
theorem zKf:jsg23.ok (run primsN zn 1000 40 F.zh) zho=true:=by kernel_rfl
theorem zKg:jsg24.ok (run primsN zn 1000 40 F.zh) zho=true:=by kernel_rfl
theorem zKh:jsg25.ok (run primsN zn 1000 40 F.zh) zho=true:=by kernel_rfl
theorem zKi:jsg26.ok (run primsN zn 1000 40 F.zj) znn=true:=by kernel_rfl
theorem zKj:jsg27.ok (run primsN zn 1000 40 F.zj) zxw=true:=by kernel_rfl
end
section
theorem zKk:jsg28.ok (run primsN zn 1000 40 F.zh) zho=true:=by kernel_rfl
theorem zKl:jsg29.ok (run primsN zn 1000 40 F.zh) zho=true:=by kernel_rfl
theorem zKm:jsg30.ok (run primsN zn 1000 40 F.zh) zho=true:=by kernel_rfl
theorem zKn:jsg31.ok (run primsN zn 1000 40 F.zaV) zPl=true:=by kernel_rfl
theorem zKo:jsg32.ok (run primsN zn 1000 40 F.zZ) zOm=true:=by kernel_rfl
theorem zKp:jsg33.ok (run primsN zn 1000 40 F.z6) znn=true:=by kernel_rfl
theorem zDn:jsg34.ok (run primsN zn 1000 40 F.zM) znn=true:=by kernel_rfl
theorem zKq:jsg35.ok (run primsN zn 1000 40 F.z7) znn=true:=by kernel_rfl
theorem zKr:jsg36.ok (run primsN zn 1000 40 F.zM) znn=true:=by kernel_rfl
theorem zDo:jsg37.ok (run primsN zn 1000 40 F.z6) znn=true:=by kernel_rfl
theorem zDp:jsg38.ok (run primsN zn 1000 40 F.zbI) zPm=true:=by kernel_rfl
theorem zDq:jsg39.ok (run primsN zn 1000 40 F.zZ) zOm=true:=by kernel_rfl
theorem zDr:jsg40.ok (run primsN zn 1000 40 F.zaq) znn=true:=by kernel_rfl
end
end Go.Proofs.YtdogcflaekkdkaaGreat
namespace Go.Proofs.YtdogcflaekkdkaaGreat
open Go Go.Vm Go.Vm.Rn Go.Vm.Rn.Q
set_option maxRecDepth 100000
noncomputable def primsR:T (List W→Nat→T O→R) := .n (.n (.e) none (.n (.e) none (.n (.n (.e) (some (orP (zml znn [jsg1,jsg6,jsg11,jsg16,jsg21,jsg26]) (zml zxw [jsg2,jsg7,jsg12,jsg17,jsg22,jsg27]))) (.e)) none (.e)))) none (.n (.n (.n (.n (.n (.e) (some (zml zho [jsg3,jsg4,jsg5,jsg8,jsg9,jsg10,jsg13,jsg14,jsg15,jsg18,jsg19,jsg20,jsg23,jsg24,jsg25,jsg28,jsg29,jsg30])) (.e)) none (.e)) none (.e)) none (.e)) none (.n (.n (.n (.e) none (.n (.e) none (.n (.e) none (.n (.e) (some zrB) (.e))))) none (.n (.e) none (.n (.e) none (.n (.n (.n (.e) (some zpD) (.e)) none (.e)) none (.e))))) none (.n (.e) none (.n (.e) none (.n (.n (.e) (some znY) (.e)) none (.e))))))
theorem zIZ:primsR.All (Prim Tryz.prog) := .no (.no (.nil) (.no (.nil) (.no (.at (zLY (zll zdM (all_cons zMT <| all_cons zMY <| all_cons zJ3 <| all_cons zJ8 <| all_cons zKd <| all_cons zKi <| zpc)) (zll zdM (all_cons zMU <| all_cons zMZ <| all_cons zJ4 <| all_cons zJ9 <| all_cons zKe <| all_cons zKj <| zpc))) (.nil) (.nil)) (.nil)))) (.no (.no (.no (.no (.at (zll zdM (all_cons zMV <| all_cons zMW <| all_cons zMX <| all_cons zM0 <| all_cons zM1 <| all_cons zJ2 <| all_cons zJ5 <| all_cons zJ6 <| all_cons zJ7 <| all_cons zKa <| all_cons zKb <| all_cons zKc <| all_cons zKf <| all_cons zKg <| all_cons zKh <| all_cons zKk <| all_cons zKl <| all_cons zKm <| zpc)) (.nil) (.nil)) (.nil)) (.nil)) (.nil)) (.no (.no (.no (.nil) (.no (.nil) (.no (.nil) (.at zsz (.nil) (.nil))))) (.no (.nil) (.no (.nil) (.no (.no (.at zq1 (.nil) (.nil)) (.nil)) (.nil))))) (.no (.nil) (.no (.nil) (.no (.at zpE (.nil) (.nil)) (.nil))))))
noncomputable def jsr:Stg:=⟨204,zGl,.tp [],2978,jsk30⟩
theorem zOn:jsr.ok (run primsR zn 1000 40 F.zdt) [.c (.p 70 0),.c (.p 170 0),.c (i 6)]=true:=by kernel_rfl
theorem zPn:FOk Tryz.prog (run primsR zn 1000 40):=run_ok zIZ zz7 1000 40
def zGL:Rn.T Rn.FC := .n (.n (.n (.e) none (.n (.n (.e) (some ⟨5,zjh,zji⟩) (.e)) none (.e))) none (.e)) none (.n (.n (.e) none (.n (.n (.e) (some ⟨3,zhX,zhY⟩) (.e)) none (.e))) none (.e))
theorem zz8:Rn.Worth Tryz.prog F.zdu ⟨5,zjh,zji⟩:=fun hn h=>zym (Nat.le_trans hn (by decide)) h
theorem zy1:Rn.Worth Tryz.prog F.zcC ⟨3,zhX,zhY⟩:=fun hn h=>zwK (Nat.le_trans hn (by decide)) h
theorem zM2:Rn.T.All (Rn.Worth Tryz.prog) zGL := .no (.no (.no (.nil) (.no (.at zz8 (.nil) (.nil)) (.nil))) (.nil)) (.no (.no (.nil) (.no (.at zy1 (.nil) (.nil)) (.nil))) (.nil))
theorem zM3 {P:Program} {F:Cal} (hF:FOk P F) (g:Nat):Prim P g (F g):=fun h _ _ _ hn hh hv=>hF h rfl hn hh hv
noncomputable def primsU:T (List W→Nat→T O→R) := .n (.e) none (.n (.e) none (.n (.e) none (.n (.e) none (.n (.n (.e) (some (run primsN zn 1000 40 F.zb4)) (.e)) none (.e)))))
theorem zI0:primsU.All (Prim Tryz.prog) := .no (.nil) (.no (.nil) (.no (.nil) (.no (.nil) (.no (.at (zM3 zdM F.zb4) (.nil) (.nil)) (.nil)))))
theorem zGM:FOk Tryz.prog (run primsU zGL 1000 40):=run_ok zI0 zM2 1000 40
noncomputable def jsu:Stg:=⟨3122,zy0,.c (.t true),3122,zy0⟩
theorem zI1:jsu.ok (run primsU zGL 1000 40 F.zdu) [.c (.p 70 0),.c (i 1)]=true:=by kernel_rfl
noncomputable def jsb:Stg:=⟨3122,zy0,.c (i 0),3122,zy0⟩
theorem zI2:jsb.ok (run primsU zGL 1000 40 F.zcC) [.c (.p 70 0)]=true:=by kernel_rfl
end Go.Proofs.YtdogcflaekkdkaaGreat
namespace Go.Proofs.YtdogcflaekkdkaaGreat
open Go Go.Vm
attribute [local irreducible] Brn Ob Grow CallsM inR zc4 zcB Mem.row Mem.cells Mem.setCells Mem.upd Go.Vm.Own zfl zkD zi2 zhp New SrcOk zaa NewSl Mem.textAt Mem.mapAt Mem.iterAt zcA kfind Wr zkr Elems
set_option maxRecDepth 10000
open Rn
variable {M M' M0:Mem}
theorem zEO:zBD zFe:=by
 intro a b
 simp[zi1,zFe]
theorem plain_ok:CallsM Tryz.prog F.zc0 [] M fun v M'=>v = .agg #[.int .i64 50,.int .i64 2000,.int .i64 50,.int .i64 100000,.int .i64 200,.int .i64 4,.int .i64 3,.int .i64 3,.int .i64 3,.int .i64 0]∧M=M':=by
 refine zy8 (by simp) ?_
 refine zR ?_
 exact⟨rfl,rfl⟩
def Na (σ:List E) (na:Nat):Prop:=∃ e,σ[70]? = some e∧e.addr=na
theorem Na.app {σ:List E} {na:Nat} (h:Na σ na) (τ:List E):Na (σ++τ) na:=by
 obtain⟨e,h1,h2⟩:=h
 exact⟨e,zrp h1 τ,h2⟩
theorem Na.wr {σ:List E} {na:Nat} (h:Na σ na):WR σ (.c (.p 70 0)) (ptr na):=by
 obtain⟨e,h1,rfl⟩:=h
 exact zCL h1
def Js (M0:Mem) (na:Nat) (n:Nat) (H:T O) (σ:List E) (M:Mem):Prop:=σ.length=n∧Na σ na∧Zs M0 σ H M
theorem za2 {F:Cal} (hF:FOk Tryz.prog F) {g:Stg} {f:Nat} {ws:List W} {vs:List Value} (hok:g.ok (F f) ws=true) {na n:Nat} {H:T O} {σ:List E} (h:Js M0 na n H σ M) (hn:n=g.n) (hs:g.H.sub H id=true) (hvs:All2 (WR σ) ws vs) :
  CallsM Tryz.prog f vs M fun u M'=>∃ τ,OVR (σ++τ) g.v u∧Js M0 na g.n' g.H' (σ++τ) M':=by
 obtain⟨h1,h2,h3⟩:=h
 refine(zzq hF hok h3 (h1.trans hn) hs hvs).mono ?_
 rintro u M' ⟨τ,h4,h5,h6⟩
 exact⟨τ,h5,h4,h2.app τ,h6⟩
theorem All2.atC {σ:List E}:∀ {l:List C} {vs:List Value} {i:Nat} {c:C},All2 (CR σ) l vs→l[i]? = some c→∃ v,vs[i]? = some v∧CR σ c v
 | [],_,_,_,_,h=>by cases h
 | x::l,[],_,_,h,_=>h.elim
 | x::l,v::vs,0,c,h,hc=>by cases hc;exact⟨v,rfl,h.1⟩
 | x::l,v::vs,i+1,c,h,hc=>All2.atC (l:=l) (i:=i) h.2 hc
theorem Js.rowAt {na n:Nat} {H:T O} {σ:List E} (h:Js M0 na n H σ M) {k E0:Nat} {l:List C} {e:E} (hk:H.get k=some (.row E0 l)) (he:σ[k]? = some e):∃ vs,All2 (CR σ) l vs∧M.has e.addr E0 vs:=by
 obtain⟨-, -, A,hA, -, -, hr⟩:=h
 obtain⟨e',h1, -, vs,h2,h3⟩:=hr.has k _ hk
 rw[he] at h1;cases h1
 exact⟨vs,h2,hA _ _ h3⟩
theorem Js.mapAt1 {na n:Nat} {H:T O} {σ:List E} (h:Js M0 na n H σ M) {k:Nat} {x:Int} {w:C} {b c:Nat} {e:E} (hk:H.get k=some (.mp [⟨.c (.n .i64 x),.c w,b⟩] c)) (hb:b<c) (he:σ[k]? = some e):∃ v,CR σ w v∧MapAt zFe (fun v:Value=>v) M e.addr [(x,v)]:=by
 obtain⟨-, -, A,hA, -, -, hr⟩:=h
 obtain⟨e',h1, -, ms,h2,h3⟩:=hr.has k _ hk
 rw[he] at h1;cases h1
 match ms,h2 with
 | [⟨mk,mv,mb⟩],⟨⟨h4,h5,h6⟩,_⟩=>
  have e1:some (Value.int .i64 x)=some mk:=h4
  cases e1
  have h6':mb=b:=h6
  subst h6'
  exact⟨mv,h5,[(mb,x,mv)],c,hA _ _ h3,⟨by simp,by simpa using hb,by simp⟩,rfl⟩
 | [],h2=>exact h2.elim
 | _::_::_,h2=>exact h2.2.elim
theorem zEP {na n:Nat} {H:T O} {σ:List E} (h:Js M0 na n H σ M) {l:List C} (hk:H.get 70=some (.row T.zwb l)) (hl:l[12]? = some (.m 59)) {c:Nat} (hm:H.get 59=some (.mp [⟨.c (.n .i64 1),.c (.p 69 0),0⟩] c)) (hc:0<c) :
  ∃ vs mb,M.has na T.zwb vs∧vs[12]? = some (.map (some mb))∧∃ e69,σ[69]? = some e69∧MapAt zFe (fun v:Value=>v) M mb [(1,ptr e69.addr)]:=by
 obtain⟨e,h1,rfl⟩:=h.2.1
 obtain⟨vs,h2,h3⟩:=h.rowAt hk h1
 obtain⟨v,h4,h5⟩:=All2.atC h2 hl
 simp only[CR,C.val,Option.map_eq_some_iff] at h5
 obtain⟨em,h6,rfl⟩:=h5
 obtain⟨w,h7,h8⟩:=h.mapAt1 hm hc h6
 obtain⟨e69,h9,rfl⟩:=zyh h7
 exact⟨vs,em.addr,h3,h4,e69,h9,h8⟩
open Rn.Q in
def zL7:List C:=[i 0,i 50,i 2000,i 50,i 100000,i 200,i 4,i 3,i 3,i 3,i 0,.p 18 0,.m 59,.p 9 0,.p 58 0,.nl,i 6,i 0]
theorem zM4 {na n:Nat} {σ:List E} {a:Option Addr} {m c:Nat} {f:Int} (h:Js M0 na 3103 zuY σ M) (hf:f≠1) :
  CallsM Tryz.prog F.zJ [ptr na,.int .i64 f,.slice a m c] M fun v M'=>v = .int .i64 4∧∃ τ,Js M0 na 3103 zGG (σ++τ) M':=by
 refine zmf (by simp) ?_
 refine zR ?_
 refine(za2 zdM zDn h rfl (by kernel_rfl) (show All2 (WR σ) [.c (.p 70 0)] [ptr na] from ⟨h.2.1.wr,trivial⟩)).mono ?_
 rintro u M1 ⟨τ,hu,h1⟩
 have e1:some (Value.int .i64 0)=some u:=hu
 cases e1
 obtain⟨vs,mb,hn1,hn2,e69,h69,hM⟩:=zEP h1 (l:=zL7) (c:=1) (by kernel_rfl) rfl (by kernel_rfl) (by decide)
 refine zR ?_
 refine on (hn1.c1 hn2) ?_
 (conv=>whnf)
 refine hM.get zEO f (fun hg=>?_) (fun x i hg=>?_)
 ·refine zR ?_
  exact⟨rfl,τ,h1⟩
 ·simp[zmh] at hg
  exact absurd hg.1.symm hf
open Rn.Q in
def zO1:List C:=[.p 66 0,.p 68 0,i 1,.nl]
open Rn.Q in
def zKs:List C:=[.t false,.nl,i 6,i 0,i 0,i 0,i 0,.nl]
theorem zEQ {σ:List E} {u:Value} (h:OVR σ (.tp []) u):u = .tuple #[]:=by
 obtain⟨vs,h1,rfl⟩:=h
 cases vs with
 | nil=>rfl
 | cons _ _=>exact h1.elim
theorem Js.drop {na n:Nat} {H:T O} {σ:List E} (h:Js M0 na n H σ M) {k E0:Nat} {l:List C} {ed:E} (hk:H.get k=some (.row E0 l)) (he:σ[k]? = some ed) {H':T O} (hs:H'.sub H id=true) (h0:H'.get k=none) {M2:Mem} (hM:M0.le M2) (hk2:∀ x o,x≠ed.addr→M0 x=none→M x=some o→M2 x=some o):Js M0 na n H' σ M2:=by
 obtain⟨h1,h2,A,hA,h3,hd,hr⟩:=h
 obtain⟨e',h4,h5, -⟩:=hr.has k _ hk
 rw[he] at h4;cases h4
 refine⟨h1,h2,A.minus fun y=>y=ed.addr,fun x o hx=>?_,hM,fun x=>?_,hr.drop hk he h5 hs h0⟩
 ·have hne:x≠ed.addr:=fun e=>by
   rw[Mem.minus_in (S:=fun y=>y=ed.addr) e] at hx;cases hx
  have hAx:=Mem.minus_le A _ x o hx
  exact hk2 x o hne ((hd x).resolve_left (by rw[hAx];simp)) (hA x o hAx)
 ·rcases hd x with h|h
  ·left
   unfold Mem.minus
   split
   ·rfl
   ·exact h
  ·exact .inr h
theorem zKt {na n:Nat} {σ:List E} {a:Option Addr} {m c:Nat} {p:List UInt8} (h:Js M0 na 3103 zuY σ M) (hp:SrcOk M0 1 a m (p.map zy)) (hm:m≤3000) {s:Bool×List UInt8} (hfd:zdR false [] p=some s) :
  CallsM Tryz.prog F.zJ [ptr na,.int .i64 1,.slice a m c] M fun v M'=>v = .int .i64 0∧∃ τ,Js M0 na 3115 zyZ (σ++τ) M':=by
 refine zmf (by simp) ?_
 refine zR ?_
 refine(za2 zdM zDn h rfl (by kernel_rfl) (show All2 (WR σ) [.c (.p 70 0)] [ptr na] from ⟨h.2.1.wr,trivial⟩)).mono ?_
 rintro u M1 ⟨τ,hu,h1⟩
 have e1:some (Value.int .i64 0)=some u:=hu
 cases e1
 obtain⟨vs,mb,hn1,hn2,e69,h69,hM⟩:=zEP h1 (l:=zL7) (c:=1) (by kernel_rfl) rfl (by kernel_rfl) (by decide)
 obtain⟨ws,hw1,hw2⟩:=h1.rowAt (k:=69) (E0:=T.zDA) (l:=zO1) (by kernel_rfl) h69
 obtain⟨v1,hv1,hv2⟩:=All2.atC (i:=1) (c := .p 68 0) hw1 rfl
 obtain⟨ed,hd1,rfl⟩:=zyh hv2
 obtain⟨ds,hd2,hd3⟩:=h1.rowAt (k:=68) (E0:=T.zs) (l:=zKs) (by kernel_rfl) hd1
 refine zR ?_
 refine on (hn1.c1 hn2) ?_
 (conv=>whnf)
 refine hM.get zEO 1 (fun hg=>?_) (fun x i hg=>?_)
 ·simp[zmh] at hg
 ·simp[zmh] at hg
  subst hg
  refine zR ?_
  refine on (hw2.c1 hv1) ?_
  (conv=>whnf)
  have hds:ds=zgD false none 0 0 6 0 0 0 0:=by
   match ds,hd2 with
   | [d0,d1,d2,d3,d4,d5,d6,d7],⟨e0,e1,e2,e3,e4,e5,e6,e7,_⟩=>
    have f0:some (Value.bool false)=some d0:=e0
    have f1:some (Value.slice none 0 0)=some d1:=e1
    have f2:some (Value.int .i64 6)=some d2:=e2
    have f3:some (Value.int .i64 0)=some d3:=e3
    have f4:some (Value.int .i64 0)=some d4:=e4
    have f5:some (Value.int .i64 0)=some d5:=e5
    have f6:some (Value.int .i64 0)=some d6:=e6
    have f7:some (Value.slice none 0 0)=some d7:=e7
    cases f0;cases f1;cases f2;cases f3;cases f4;cases f5;cases f6;cases f7
    rfl
  subst hds
  have hMd:M0 ed.addr=none:=by
   obtain⟨-, -, A,hA, -, hdj,hr⟩:=h1
   obtain⟨e',h4,h5,us, -, h6⟩:=hr.has 68 (.row T.zs zKs) (by kernel_rfl)
   rw[hd1] at h4;cases h4
   exact(hdj ed.addr).resolve_left (by rw[h6];simp)
  obtain⟨Ms,hMs⟩:∃ Ms:Mem,Ms=fun x=>if x=ed.addr then M1 x else M0 x:=⟨_,rfl⟩
  have hMs1:Ms.le M1:=fun x o hx=>by
   rw[hMs] at hx
   dsimp only at hx
   split at hx
   ·exact hx
   ·exact h1.2.2.base x o hx
  have hMs0:M0.le Ms:=fun x o hx=>by
   rw[hMs]
   dsimp only
   rw[if_neg (fun e=>by rw[e,hMd] at hx;cases hx)]
   exact hx
  have hMsd:Ms.has ed.addr T.zs (zgD false none 0 0 6 0 0 0 0):=by
   unfold Mem.has at hd3 ⊢
   rw[hMs]
   dsimp only
   rw[if_pos rfl]
   exact hd3
  have hDc:zzp M0 ed.addr 6 false [] Ms:=⟨none,0,6,0,0,0,0,hMsd,hMd,(NewSl.none Ms T.zE 1).mono hMs0,by unfold zby;omega⟩
  refine(CallsM.frame (zJP hDc (by simp) (by omega) hp (by omega) hfd) hMs1).mono ?_
  rintro v M2 ⟨A2,⟨rfl,hD2⟩,hA2,hk2⟩
  have hM2:M0.le M2:=by
   obtain⟨_,_,_,_,_,_,_,_,_,hN,_⟩:=hD2
   exact Mem.le_trans hN.le hA2
  have h2:Js M0 na 3103 zGH (σ++τ) M2:=h1.drop (k:=68) (E0:=T.zs) (l:=zKs) (by kernel_rfl) hd1 (by kernel_rfl) (by kernel_rfl) hM2 fun x o hx h0 hx1=>(hk2 x o (by rw[hMs];dsimp only;rw[if_neg hx];exact h0) hx1).1
  (conv=>whnf)
  refine zp9 (σ:=Unit) [] (fun _=>[]) (fun _=>True) (fun _=>0) () trivial zS ?_
  intro _ _
  (conv=>whnf);refine brn_f rfl ?_
  (conv=>whnf)
  refine(za2 zdM zKq h2 rfl (by kernel_rfl) (show All2 (WR _) [.c (.p 70 0)] [ptr na] from ⟨h2.2.1.wr,trivial⟩)).mono ?_
  rintro u M3 ⟨τ3,hu3,h3⟩
  cases zEQ hu3
  refine zR ?_
  refine(za2 zdM zKr h3 rfl (by kernel_rfl) (show All2 (WR _) [.c (.p 70 0)] [ptr na] from ⟨h3.2.1.wr,trivial⟩)).mono ?_
  rintro u M4 ⟨τ4,hu4,h4⟩
  have e4:some (Value.int .i64 0)=some u:=hu4
  cases e4
  refine zR ?_
  exact⟨rfl,τ++(τ3++τ4),by rw[←List.append_assoc,←List.append_assoc];exact h4⟩
theorem zM5 {na n:Nat} {σ:List E} {a:Option Addr} {m c:Nat} {p:List UInt8} {f:Int} (h:Js M0 na 3103 zuY σ M) (hp:SrcOk M0 1 a m (p.map zy)) (hm:m≤3000) {s:Bool×List UInt8} (hfd:zdR false [] p=some s) :
  CallsM Tryz.prog F.zJ [ptr na,.int .i64 f,.slice a m c] M fun v M'=>v = .int .i64 (if f=1 then 0 else 4)∧∃ τ,Js M0 na 3115 zyZ (σ++τ) M':=by
 by_cases hf:f=1
 ·subst hf
  exact zKt (n:=n) h hp hm hfd
 ·refine(zM4 (n:=n) h hf).mono ?_
  rintro v M' ⟨rfl,τ,h1,h2,h3⟩
  refine⟨by rw[if_neg hf],τ++List.replicate 12 ⟨0,0,true,[]⟩,?_⟩
  rw[←List.append_assoc]
  refine⟨by rw[List.length_append,h1];rfl,h2.app _,(h3.pad _).sub (by kernel_rfl)⟩
end Go.Proofs.YtdogcflaekkdkaaGreat
