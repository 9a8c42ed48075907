/- Part of this proof;laid by program. -/
import Derived.Test.YtdogcflaekkdkaaGreatJ20
import Derived.Test.YtdogcflaekkdkaaGreatJ19
import Derived.Test.YtdogcflaekkdkaaGreatJ9
set_option linter.unusedVariables false
set_option linter.unusedSimpArgs false
namespace Go.Proofs.YtdogcflaekkdkaaGreat
open Go.Vm Go.Vm.Rn Go.Vm.Rn.Q
set_option maxRecDepth 100000
section
noncomputable def zmC:List W:=[(.c (.p 70 0))]
noncomputable def zmD:List W:=[(.c (.p 170 0))]
noncomputable def zaz:List W:=[(.c (.p 70 0)),(.c (.p 170 0))]
noncomputable def zKX:T O := .ofs .e [(0,some (.mp [⟨.c (.s [119,48,48,48,48,49]),.c (.p 49 0),0⟩] 1)),(1,some (.row 126 [i 100000,.m 0,.n .i64 (-1),.t false])),(2,some (.mp [⟨.c (.s [119,48,48,48,48,49]),.c (.p 149 0),0⟩] 1)),(3,some (.row 126 [i 100000,.m 2,.n .i64 (-1),.t false])),(6,some (.gr 3 1 [i 1])),(7,some (.mp [] 0)),(8,some (.mp [] 0)),(9,some (.row 182 [i 0,i 64,.g 6 0 0 1,.m 7,.m 8])),(14,some (.mp [] 0)),(15,some (.row 201 [i 50,.m 14])),(16,some (.mp [⟨.ag [i 0,i 1,i 1,i 1],.ag [i 0,i 1,i 1,i 1,.g 245 0 0 1,i 0],0⟩] 1)),(17,some (.row 123 [i 0,i 50,i 2000,i 50,i 1,i 0,i 1,i 0,i 0,i 0,i 0,i 0,i 0,i 0,i 0,i 0,i 0,i 0,i 0,i 0,i 0,i 0,i 0,i 0,i 0,i 0,i 0,i 0,i 0,i 0,i 0,i 0,i 0,i 0,i 0,i 0,i 0,i 0,i 0,i 0,i 0,i 0,i 0,i 0,i 0,i 0,i 0,i 0,i 0,i 0,i 0,i 0,i 0,i 0,i 0,i 0,i 0,i 0,i 0,i 0,i 0,i 0,i 0,i 0,i 0,i 0,i 0,i 0,i 0,.m 16,i 1,i 1,.p 15 0])),(18,some (.row 141 [.p 17 0,.p 1 0,.p 21 0,i 0,.t false,.t false])),(21,some (.row 244 [.p 1 0,i 1,i 1,i 200,.t false])),(49,some (.row 303 [.g 237 0 0 25,i 25])),(57,some (.mp [] 0)),(58,some (.row 188 [i 3,i 0,.m 57])),(59,some (.mp [⟨.c (i 1),.c (.p 69 0),0⟩] 1)),(62,some (.row 237 [i 4,i 0,.nl,i 0])),(63,some (.row 240 [i 4,i 0,.m 64,.m 65])),(64,some (.mp [] 0)),(65,some (.mp [] 0)),(66,some (.row 167 [i 512,.n .i64 (-1),.t false,i 4,i 3,i 3,i 3,i 0,i 0,.t false,.t false,.p 62 0,.p 63 0,.nl,.nl])),(68,some (.row 156 [.t true,.nl,i 0,i 0,i 0,i 0,i 0,.nl])),(69,some (.row 96 [.p 66 0,.p 68 0,i 0,.g 103 0 0 10])),(70,some (.row 91 [i 0,i 50,i 2000,i 50,i 100000,i 200,i 4,i 3,i 3,i 3,i 0,.p 18 0,.m 59,.p 9 0,.p 58 0,.nl,i 0,i 0])),(103,some (.gr 5 1 [u 126,u 3,u 111,u 2,u 0,u 0,u 0,u 203,u 9,u 126])),(106,some (.gr 3 1 [i 0])),(107,some (.mp [] 0)),(108,some (.mp [] 0)),(109,some (.row 182 [i 1,i 64,.g 106 0 0 1,.m 107,.m 108])),(114,some (.mp [] 0)),(115,some (.row 201 [i 50,.m 114])),(116,some (.mp [] 0)),(117,some (.row 123 [i 1,i 50,i 2000,i 50,i 1,i 0,i 0,i 0,i 0,i 0,i 0,i 0,i 0,i 0,i 0,i 0,i 0,i 0,i 0,i 0,i 0,i 0,i 0,i 0,i 0,i 0,i 0,i 0,i 0,i 0,i 0,i 0,i 0,i 0,i 0,i 0,i 0,i 0,i 0,i 0,i 0,i 0,i 0,i 0,i 0,i 0,i 0,i 0,i 0,i 0,i 0,i 0,i 0,i 0,i 0,i 0,i 0,i 0,i 0,i 0,i 0,i 0,i 0,i 0,i 0,i 0,i 0,i 0,i 0,.m 116,i 0,i 0,.p 115 0])),(118,some (.row 141 [.p 117 0,.p 3 0,.p 121 0,i 0,.t false,.t false])),(121,some (.row 244 [.p 3 0,i 1,i 1,i 200,.t false])),(149,some (.row 303 [.g 150 0 0 9,i 9])),(150,some (.gr 5 1 [u 0,u 0,u 0,u 1,u 168,u 62,u 246,u 202,u 1])),(157,some (.mp [] 0)),(158,some (.row 188 [i 3,i 0,.m 157])),(159,some (.mp [⟨.c (i 0),.c (.p 169 0),0⟩] 1)),(162,some (.row 237 [i 4,i 0,.nl,i 0])),(163,some (.row 240 [i 4,i 0,.m 164,.m 165])),(164,some (.mp [] 0)),(165,some (.mp [] 0)),(166,some (.row 167 [i 512,.n .i64 (-1),.t false,i 4,i 3,i 3,i 3,i 0,i 0,.t false,.t false,.p 162 0,.p 163 0,.nl,.nl])),(168,some (.row 156 [.t true,.nl,i 0,i 0,i 0,i 0,i 0,.nl])),(169,some (.row 96 [.p 166 0,.p 168 0,i 0,.g 203 0 0 10])),(170,some (.row 91 [i 1,i 50,i 2000,i 50,i 100000,i 200,i 4,i 3,i 3,i 3,i 0,.p 118 0,.m 159,.p 109 0,.p 158 0,.nl,i 0,i 0])),(203,some (.gr 5 1 [u 126,u 3,u 111,u 2,u 0,u 0,u 0,u 203,u 9,u 126])),(237,some (.gr 5 1 [u 0,u 0,u 0,u 1,u 168,u 62,u 246,u 202,u 1,u 0,u 0,u 0,u 8,u 182,u 13,u 31,u 133,u 2,u 0,u 1,u 0,u 1,u 0,u 1,u 120])),(245,some (.gr 5 1 [u 120]))]
noncomputable def zHr:T O := .ofs zKX [(66,some (.row 167 [i 512,.n .i64 (-1),.t false,i 4,i 3,i 3,i 2,i 0,i 0,.t false,.t false,.p 62 0,.p 63 0,.nl,.nl])),(70,some (.row 91 [i 0,i 50,i 2000,i 50,i 100000,i 200,i 4,i 3,i 3,i 3,i 0,.p 18 0,.m 59,.p 9 0,.p 58 0,.nl,i 1,i 0]))]
noncomputable def nsg0:Stg:=⟨257,zKX,(.c (i 0)),272,zHr⟩
noncomputable def zHs:T O := .ofs zHr [(166,some (.row 167 [i 512,.n .i64 (-1),.t false,i 4,i 3,i 3,i 2,i 0,i 0,.t false,.t false,.p 162 0,.p 163 0,.nl,.nl])),(170,some (.row 91 [i 1,i 50,i 2000,i 50,i 100000,i 200,i 4,i 3,i 3,i 3,i 0,.p 118 0,.m 159,.p 109 0,.p 158 0,.nl,i 1,i 0]))]
noncomputable def nsg1:Stg:=⟨272,zHr,(.c (i 0)),281,zHs⟩
noncomputable def zHt:T O := .ofs zHs [(64,none),(65,none),(103,none),(164,none),(165,none),(203,none),(63,some (.row 240 [i 4,i 0,.m 362,.m 363])),(66,some (.row 167 [i 512,i 512,.t false,i 4,i 3,i 3,i 2,i 0,i 1,.t false,.t false,.p 62 0,.p 63 0,.nl,.nl])),(68,some (.row 156 [.t false,.nl,i 1,i 0,i 0,i 0,i 0,.nl])),(69,some (.row 96 [.p 66 0,.p 68 0,i 1,.g 404 0 0 10])),(163,some (.row 240 [i 4,i 0,.m 303,.m 304])),(166,some (.row 167 [i 512,i 512,.t false,i 4,i 3,i 3,i 2,i 0,i 1,.t false,.t false,.p 162 0,.p 163 0,.nl,.nl])),(168,some (.row 156 [.t false,.nl,i 1,i 0,i 0,i 0,i 0,.nl])),(169,some (.row 96 [.p 166 0,.p 168 0,i 1,.g 339 0 0 10])),(303,some (.mp [] 0)),(304,some (.mp [] 0)),(339,some (.gr 5 1 [u 126,u 3,u 99,u 2,u 0,u 2,u 0,u 75,u 77,u 126])),(362,some (.mp [] 0)),(363,some (.mp [] 0)),(404,some (.gr 5 1 [u 126,u 3,u 99,u 2,u 0,u 2,u 0,u 75,u 77,u 126]))]
noncomputable def nsg2:Stg:=⟨281,zHs,(.tp []),405,zHt⟩
noncomputable def zHu:T O := .ofs zHt [(339,none),(404,none),(66,some (.row 167 [i 512,i 512,.t true,i 4,i 3,i 3,i 0,i 0,i 1,.t false,.t false,.p 62 0,.p 63 0,.nl,.nl])),(68,some (.row 156 [.t false,.nl,i 2,i 0,i 0,i 0,i 0,.nl])),(69,some (.row 96 [.p 66 0,.p 68 0,i 1,.nl])),(166,some (.row 167 [i 512,i 512,.t true,i 4,i 3,i 3,i 0,i 0,i 1,.t false,.t false,.p 162 0,.p 163 0,.nl,.nl])),(168,some (.row 156 [.t false,.nl,i 2,i 0,i 0,i 0,i 0,.nl])),(169,some (.row 96 [.p 166 0,.p 168 0,i 1,.nl]))]
noncomputable def nsg3:Stg:=⟨405,zHt,(.tp []),467,zHu⟩
noncomputable def zHv:T O := .ofs zHu []
noncomputable def nsg4:Stg:=⟨467,zHu,(.tp []),485,zHv⟩
noncomputable def zHw:T O := .ofs zHv [(70,some (.row 91 [i 0,i 50,i 2000,i 50,i 100000,i 200,i 4,i 3,i 3,i 3,i 0,.p 18 0,.m 59,.p 9 0,.p 58 0,.nl,i 2,i 0]))]
noncomputable def nsg5:Stg:=⟨485,zHv,(.c (i 0)),501,zHw⟩
noncomputable def zHx:T O := .ofs zHw [(170,some (.row 91 [i 1,i 50,i 2000,i 50,i 100000,i 200,i 4,i 3,i 3,i 3,i 0,.p 118 0,.m 159,.p 109 0,.p 158 0,.nl,i 2,i 0]))]
noncomputable def nsg6:Stg:=⟨501,zHw,(.c (i 0)),511,zHx⟩
noncomputable def zHy:T O := .ofs zHx []
noncomputable def nsg7:Stg:=⟨511,zHx,(.tp []),529,zHy⟩
noncomputable def zHz:T O := .ofs zHy []
noncomputable def nsg8:Stg:=⟨529,zHy,(.tp []),547,zHz⟩
noncomputable def zHA:T O := .ofs zHz []
noncomputable def nsg9:Stg:=⟨547,zHz,(.tp []),565,zHA⟩
noncomputable def zEE:T O := .ofs zHA [(62,some (.row 237 [i 4,i 0,.g 765 0 0 1,i 1])),(66,some (.row 167 [i 512,i 512,.t true,i 4,i 3,i 3,i 3,i 0,i 1,.t false,.t false,.p 62 0,.p 63 0,.nl,.nl])),(69,some (.row 96 [.p 66 0,.p 68 0,i 1,.g 874 0 0 76])),(70,some (.row 91 [i 0,i 50,i 2000,i 50,i 100000,i 200,i 4,i 3,i 3,i 3,i 0,.p 18 0,.m 59,.p 9 0,.p 58 0,.nl,i 3,i 0])),(764,some (.gr 5 1 [u 4,u 0,u 16,u 16,u 16,u 16,u 16,u 16,u 16,u 16,u 16,u 16,u 16,u 16,u 16,u 16,u 16,u 16,u 16,u 16,u 16,u 16,u 16,u 16,u 16,u 16,u 16,u 16,u 16,u 16,u 16,u 16,u 16,u 16,u 16,u 16,u 16,u 16,u 16,u 16,u 16,u 16,u 16,u 16,u 16,u 16,u 16,u 16,u 16,u 16,u 16,u 16,u 16,u 16,u 16,u 16,u 16,u 16,u 16,u 16,u 16,u 16,u 16,u 16,u 16])),(765,some (.gr 30 1 [.g 764 0 0 65])),(874,some (.gr 5 1 [u 126,u 3,u 0,u 0,u 2,u 0,u 2,u 0,u 4,u 0,u 16,u 16,u 16,u 16,u 16,u 16,u 16,u 16,u 16,u 16,u 16,u 16,u 16,u 16,u 16,u 16,u 16,u 16,u 16,u 16,u 16,u 16,u 16,u 16,u 16,u 16,u 16,u 16,u 16,u 16,u 16,u 16,u 16,u 16,u 16,u 16,u 16,u 16,u 16,u 16,u 16,u 16,u 16,u 16,u 16,u 16,u 16,u 16,u 16,u 16,u 16,u 16,u 16,u 16,u 16,u 16,u 16,u 16,u 16,u 16,u 16,u 16,u 16,u 6,u 20,u 126]))]
noncomputable def nsg10:Stg:=⟨565,zHA,(.c (i 0)),875,zEE⟩
noncomputable def zEF:T O := .ofs zEE [(162,some (.row 237 [i 4,i 0,.g 1075 0 0 1,i 1])),(166,some (.row 167 [i 512,i 512,.t true,i 4,i 3,i 3,i 3,i 0,i 1,.t false,.t false,.p 162 0,.p 163 0,.nl,.nl])),(169,some (.row 96 [.p 166 0,.p 168 0,i 1,.g 1178 0 0 76])),(170,some (.row 91 [i 1,i 50,i 2000,i 50,i 100000,i 200,i 4,i 3,i 3,i 3,i 0,.p 118 0,.m 159,.p 109 0,.p 158 0,.nl,i 3,i 0])),(1074,some (.gr 5 1 [u 4,u 16,u 0,u 16,u 16,u 16,u 16,u 16,u 16,u 16,u 16,u 16,u 16,u 16,u 16,u 16,u 16,u 16,u 16,u 16,u 16,u 16,u 16,u 16,u 16,u 16,u 16,u 16,u 16,u 16,u 16,u 16,u 16,u 16,u 16,u 16,u 16,u 16,u 16,u 16,u 16,u 16,u 16,u 16,u 16,u 16,u 16,u 16,u 16,u 16,u 16,u 16,u 16,u 16,u 16,u 16,u 16,u 16,u 16,u 16,u 16,u 16,u 16,u 16,u 16])),(1075,some (.gr 30 1 [.g 1074 0 0 65])),(1178,some (.gr 5 1 [u 126,u 3,u 0,u 0,u 2,u 0,u 2,u 0,u 4,u 16,u 0,u 16,u 16,u 16,u 16,u 16,u 16,u 16,u 16,u 16,u 16,u 16,u 16,u 16,u 16,u 16,u 16,u 16,u 16,u 16,u 16,u 16,u 16,u 16,u 16,u 16,u 16,u 16,u 16,u 16,u 16,u 16,u 16,u 16,u 16,u 16,u 16,u 16,u 16,u 16,u 16,u 16,u 16,u 16,u 16,u 16,u 16,u 16,u 16,u 16,u 16,u 16,u 16,u 16,u 16,u 16,u 16,u 16,u 16,u 16,u 16,u 16,u 16,u 182,u 121,u 126]))]
noncomputable def nsg11:Stg:=⟨875,zEE,(.c (i 0)),1179,zEF⟩
noncomputable def zEG:T O := .ofs zEF [(765,none),(874,none),(1178,none),(8,some (.mp [⟨.c (i 1),.ag [i 16,i 0,i 16,i 16,i 16,i 16,i 16,i 16,i 16,i 16,i 16,i 16,i 16,i 16,i 16,i 16,i 16,i 16,i 16,i 16,i 16,i 16,i 16,i 16,i 16,i 16,i 16,i 16,i 16,i 16,i 16,i 16,i 16,i 16,i 16,i 16,i 16,i 16,i 16,i 16,i 16,i 16,i 16,i 16,i 16,i 16,i 16,i 16,i 16,i 16,i 16,i 16,i 16,i 16,i 16,i 16,i 16,i 16,i 16,i 16,i 16,i 16,i 16,i 16,i 64],0⟩] 1)),(57,some (.mp [⟨.ag [i 0,i 1,i 1,i 1],.ag [i 1,i 0,i 0,i 0],0⟩] 1)),(58,some (.row 188 [i 3,i 1,.m 57])),(62,some (.row 237 [i 4,i 0,.g 1693 0 0 2,i 2])),(63,some (.row 240 [i 4,i 1,.m 362,.m 363])),(68,some (.row 156 [.t false,.nl,i 3,i 0,i 0,i 0,i 0,.nl])),(69,some (.row 96 [.p 66 0,.p 68 0,i 1,.g 1766 0 0 32])),(108,some (.mp [⟨.c (i 0),.ag [i 0,i 16,i 16,i 16,i 16,i 16,i 16,i 16,i 16,i 16,i 16,i 16,i 16,i 16,i 16,i 16,i 16,i 16,i 16,i 16,i 16,i 16,i 16,i 16,i 16,i 16,i 16,i 16,i 16,i 16,i 16,i 16,i 16,i 16,i 16,i 16,i 16,i 16,i 16,i 16,i 16,i 16,i 16,i 16,i 16,i 16,i 16,i 16,i 16,i 16,i 16,i 16,i 16,i 16,i 16,i 16,i 16,i 16,i 16,i 16,i 16,i 16,i 16,i 16,i 64],0⟩] 1)),(163,some (.row 240 [i 4,i 1,.m 303,.m 304])),(168,some (.row 156 [.t false,.nl,i 3,i 0,i 0,i 0,i 0,.nl])),(169,some (.row 96 [.p 166 0,.p 168 0,i 1,.g 1437 0 0 11])),(303,some (.mp [] 1)),(362,some (.mp [] 1)),(1437,some (.gr 5 1 [u 126,u 3,u 1,u 2,u 2,u 0,u 2,u 0,u 123,u 60,u 126])),(1692,some (.gr 5 1 [u 1,u 0,u 0,u 0,u 1,u 0,u 1,u 0,u 1,u 120])),(1693,some (.gr 30 1 [.g 764 0 0 65,.g 1692 0 0 10])),(1766,some (.gr 5 1 [u 126,u 3,u 1,u 2,u 2,u 0,u 2,u 0,u 123,u 60,u 126,u 126,u 3,u 2,u 2,u 2,u 0,u 2,u 0,u 1,u 0,u 0,u 0,u 1,u 0,u 1,u 0,u 1,u 120,u 167,u 81,u 126]))]
noncomputable def nsg12:Stg:=⟨1179,zEF,(.tp []),1767,zEG⟩
noncomputable def zEH:T O := .ofs zEG [(150,none),(764,none),(1074,none),(1075,none),(1437,none),(1766,none),(62,some (.row 237 [i 4,i 1,.g 1693 1 1 1,i 1])),(68,some (.row 156 [.t false,.nl,i 4,i 0,i 0,i 0,i 0,.nl])),(69,some (.row 96 [.p 66 0,.p 68 0,i 1,.nl])),(114,some (.mp [⟨.ag [i 0,i 1],.c (.p 1888 0),0⟩] 1)),(149,some (.row 303 [.g 1877 0 0 24,i 24])),(162,some (.row 237 [i 4,i 1,.g 1910 0 0 1,i 1])),(163,some (.row 240 [i 4,i 2,.m 303,.m 304])),(168,some (.row 156 [.t false,.nl,i 5,i 0,i 0,i 0,i 0,.nl])),(169,some (.row 96 [.p 166 0,.p 168 0,i 1,.g 1986 0 0 31])),(170,some (.row 91 [i 1,i 50,i 2000,i 50,i 100000,i 200,i 4,i 3,i 3,i 3,i 0,.p 118 0,.m 159,.p 109 0,.p 158 0,.g 1891 0 0 1,i 3,i 0])),(303,some (.mp [] 2)),(1693,some (.gr 30 1 [.nl,.g 1692 0 0 10])),(1842,some (.gr 5 1 [u 120])),(1877,some (.gr 5 1 [u 0,u 0,u 0,u 1,u 168,u 62,u 246,u 202,u 1,u 0,u 0,u 0,u 7,u 222,u 168,u 239,u 247,u 4,u 0,u 1,u 0,u 1,u 0,u 1])),(1888,some (.row 277 [i 1,.l 1890 0 0 0])),(1890,some (.gr 3 1 [i 1])),(1891,some (.gr 78 5 [i 0,i 1,i 1,i 1,.g 1842 0 0 1])),(1909,some (.gr 5 1 [u 2,u 0,u 0,u 0,u 1,u 0,u 1,u 0,u 1])),(1910,some (.gr 30 1 [.g 1909 0 0 9])),(1986,some (.gr 5 1 [u 126,u 3,u 1,u 4,u 2,u 0,u 2,u 0,u 227,u 7,u 126,u 126,u 3,u 2,u 4,u 2,u 0,u 2,u 0,u 2,u 0,u 0,u 0,u 1,u 0,u 1,u 0,u 1,u 246,u 45,u 126]))]
noncomputable def nsg13:Stg:=⟨1767,zEG,(.tp []),2024,zEH⟩
noncomputable def zEI:T O := .ofs zEH [(237,none),(245,none),(1692,none),(1986,none),(16,some (.mp [] 1)),(17,some (.row 123 [i 0,i 50,i 2000,i 50,i 1,i 0,i 1,i 0,i 0,i 0,i 0,i 0,i 0,i 0,i 0,i 0,i 0,i 0,i 0,i 0,i 0,i 0,i 0,i 0,i 0,i 0,i 0,i 0,i 0,i 0,i 0,i 0,i 0,i 0,i 0,i 0,i 0,i 0,i 0,i 0,i 0,i 0,i 0,i 0,i 0,i 0,i 0,i 0,i 0,i 0,i 0,i 0,i 0,i 0,i 0,i 0,i 0,i 0,i 0,i 0,i 0,i 0,i 0,i 0,i 0,i 0,i 0,i 0,i 0,.m 16,i 1,i 0,.p 15 0])),(49,some (.row 303 [.g 2133 0 0 40,i 25])),(57,some (.mp [] 1)),(62,some (.row 237 [i 4,i 2,.h 1693 1 1 1 1 false,i 0])),(63,some (.row 240 [i 4,i 2,.m 362,.m 363])),(66,some (.row 167 [i 512,i 512,.t true,i 4,i 3,i 3,i 0,i 0,i 1,.t false,.t false,.p 62 0,.p 63 0,.nl,.nl])),(68,some (.row 156 [.t false,.nl,i 6,i 0,i 0,i 0,i 0,.nl])),(69,some (.row 96 [.p 66 0,.p 68 0,i 1,.g 2168 0 0 11])),(169,some (.row 96 [.p 166 0,.p 168 0,i 1,.nl])),(362,some (.mp [] 2)),(1693,some (.gr 30 1 [.nl,.nl])),(2133,some (.gr 5 1 [u 0,u 0,u 0,u 1,u 168,u 62,u 246,u 202,u 1,u 0,u 0,u 0,u 8,u 182,u 13,u 31,u 133,u 2,u 0,u 1,u 0,u 1,u 0,u 1,u 120,u 0,u 0,u 0,u 7,u 27,u 15,u 209,u 121,u 3,u 0,u 1,u 0,u 1,u 0,u 1])),(2168,some (.gr 5 1 [u 126,u 3,u 1,u 4,u 2,u 0,u 2,u 0,u 227,u 7,u 126]))]
noncomputable def nsg14:Stg:=⟨2024,zEH,(.tp []),2169,zEI⟩
noncomputable def zEJ:T O := .ofs zEI [(8,some (.mp [⟨.c (i 1),.ag [i 16,i 0,i 16,i 16,i 16,i 16,i 16,i 16,i 16,i 16,i 16,i 16,i 16,i 16,i 16,i 16,i 16,i 16,i 16,i 16,i 16,i 16,i 16,i 16,i 16,i 16,i 16,i 16,i 16,i 16,i 16,i 16,i 16,i 16,i 16,i 16,i 16,i 16,i 16,i 16,i 16,i 16,i 16,i 16,i 16,i 16,i 16,i 16,i 16,i 16,i 16,i 16,i 16,i 16,i 16,i 16,i 16,i 16,i 16,i 16,i 16,i 16,i 16,i 16,i 63],0⟩] 1)),(70,some (.row 91 [i 0,i 50,i 2000,i 50,i 100000,i 200,i 4,i 3,i 3,i 3,i 0,.p 18 0,.m 59,.p 9 0,.p 58 0,.nl,i 4,i 0]))]
noncomputable def nsg15:Stg:=⟨2169,zEI,(.c (i 0)),2180,zEJ⟩
noncomputable def zEK:T O := .ofs zEJ [(108,some (.mp [⟨.c (i 0),.ag [i 0,i 16,i 16,i 16,i 16,i 16,i 16,i 16,i 16,i 16,i 16,i 16,i 16,i 16,i 16,i 16,i 16,i 16,i 16,i 16,i 16,i 16,i 16,i 16,i 16,i 16,i 16,i 16,i 16,i 16,i 16,i 16,i 16,i 16,i 16,i 16,i 16,i 16,i 16,i 16,i 16,i 16,i 16,i 16,i 16,i 16,i 16,i 16,i 16,i 16,i 16,i 16,i 16,i 16,i 16,i 16,i 16,i 16,i 16,i 16,i 16,i 16,i 16,i 16,i 63],0⟩] 1)),(166,some (.row 167 [i 512,i 512,.t true,i 4,i 3,i 3,i 2,i 0,i 1,.t false,.t false,.p 162 0,.p 163 0,.nl,.nl])),(170,some (.row 91 [i 1,i 50,i 2000,i 50,i 100000,i 200,i 4,i 3,i 3,i 3,i 0,.p 118 0,.m 159,.p 109 0,.p 158 0,.g 1891 0 0 1,i 4,i 0]))]
noncomputable def nsg16:Stg:=⟨2180,zEJ,(.c (i 0)),2191,zEK⟩
noncomputable def zEL:T O := .ofs zEK [(1909,none),(2168,none),(69,some (.row 96 [.p 66 0,.p 68 0,i 1,.nl])),(162,some (.row 237 [i 4,i 2,.h 1910 0 0 1 1 false,i 0])),(166,some (.row 167 [i 512,i 512,.t true,i 4,i 3,i 3,i 0,i 0,i 1,.t false,.t false,.p 162 0,.p 163 0,.nl,.nl])),(168,some (.row 156 [.t false,.nl,i 6,i 0,i 0,i 0,i 0,.nl])),(1910,some (.gr 30 1 [.nl]))]
noncomputable def nsg17:Stg:=⟨2191,zEK,(.tp []),2227,zEL⟩
noncomputable def zEM:T O := .ofs zEL []
noncomputable def nsg18:Stg:=⟨2227,zEL,(.tp []),2239,zEM⟩
noncomputable def zEN:T O := .ofs zEM []
noncomputable def nsg19:Stg:=⟨2239,zEM,(.tp []),2251,zEN⟩
noncomputable def zEO:T O := .ofs zEN [(8,some (.mp [⟨.c (i 1),.ag [i 16,i 0,i 16,i 16,i 16,i 16,i 16,i 16,i 16,i 16,i 16,i 16,i 16,i 16,i 16,i 16,i 16,i 16,i 16,i 16,i 16,i 16,i 16,i 16,i 16,i 16,i 16,i 16,i 16,i 16,i 16,i 16,i 16,i 16,i 16,i 16,i 16,i 16,i 16,i 16,i 16,i 16,i 16,i 16,i 16,i 16,i 16,i 16,i 16,i 16,i 16,i 16,i 16,i 16,i 16,i 16,i 16,i 16,i 16,i 16,i 16,i 16,i 16,i 16,i 62],0⟩] 1)),(70,some (.row 91 [i 0,i 50,i 2000,i 50,i 100000,i 200,i 4,i 3,i 3,i 3,i 0,.p 18 0,.m 59,.p 9 0,.p 58 0,.nl,i 5,i 0]))]
noncomputable def nsg20:Stg:=⟨2251,zEN,(.c (i 0)),2262,zEO⟩
noncomputable def zEP:T O := .ofs zEO [(108,some (.mp [⟨.c (i 0),.ag [i 0,i 16,i 16,i 16,i 16,i 16,i 16,i 16,i 16,i 16,i 16,i 16,i 16,i 16,i 16,i 16,i 16,i 16,i 16,i 16,i 16,i 16,i 16,i 16,i 16,i 16,i 16,i 16,i 16,i 16,i 16,i 16,i 16,i 16,i 16,i 16,i 16,i 16,i 16,i 16,i 16,i 16,i 16,i 16,i 16,i 16,i 16,i 16,i 16,i 16,i 16,i 16,i 16,i 16,i 16,i 16,i 16,i 16,i 16,i 16,i 16,i 16,i 16,i 16,i 62],0⟩] 1)),(170,some (.row 91 [i 1,i 50,i 2000,i 50,i 100000,i 200,i 4,i 3,i 3,i 3,i 0,.p 118 0,.m 159,.p 109 0,.p 158 0,.g 1891 0 0 1,i 5,i 0]))]
noncomputable def nsg21:Stg:=⟨2262,zEO,(.c (i 0)),2273,zEP⟩
noncomputable def zEQ:T O := .ofs zEP []
noncomputable def nsg22:Stg:=⟨2273,zEP,(.tp []),2285,zEQ⟩
noncomputable def zER:T O := .ofs zEQ []
noncomputable def nsg23:Stg:=⟨2285,zEQ,(.tp []),2297,zER⟩
noncomputable def zES:T O := .ofs zER []
noncomputable def nsg24:Stg:=⟨2297,zER,(.tp []),2309,zES⟩
noncomputable def zET:T O := .ofs zES [(1693,none),(8,some (.mp [⟨.c (i 1),.ag [i 16,i 0,i 16,i 16,i 16,i 16,i 16,i 16,i 16,i 16,i 16,i 16,i 16,i 16,i 16,i 16,i 16,i 16,i 16,i 16,i 16,i 16,i 16,i 16,i 16,i 16,i 16,i 16,i 16,i 16,i 16,i 16,i 16,i 16,i 16,i 16,i 16,i 16,i 16,i 16,i 16,i 16,i 16,i 16,i 16,i 16,i 16,i 16,i 16,i 16,i 16,i 16,i 16,i 16,i 16,i 16,i 16,i 16,i 16,i 16,i 16,i 16,i 16,i 16,i 61],0⟩] 1)),(62,some (.row 237 [i 4,i 2,.g 2510 0 0 1,i 1])),(66,some (.row 167 [i 512,i 512,.t true,i 4,i 3,i 3,i 3,i 0,i 1,.t false,.t false,.p 62 0,.p 63 0,.nl,.nl])),(69,some (.row 96 [.p 66 0,.p 68 0,i 1,.g 2613 0 0 76])),(70,some (.row 91 [i 0,i 50,i 2000,i 50,i 100000,i 200,i 4,i 3,i 3,i 3,i 0,.p 18 0,.m 59,.p 9 0,.p 58 0,.nl,i 6,i 0])),(2509,some (.gr 5 1 [u 4,u 0,u 16,u 16,u 16,u 16,u 16,u 16,u 16,u 16,u 16,u 16,u 16,u 16,u 16,u 16,u 16,u 16,u 16,u 16,u 16,u 16,u 16,u 16,u 16,u 16,u 16,u 16,u 16,u 16,u 16,u 16,u 16,u 16,u 16,u 16,u 16,u 16,u 16,u 16,u 16,u 16,u 16,u 16,u 16,u 16,u 16,u 16,u 16,u 16,u 16,u 16,u 16,u 16,u 16,u 16,u 16,u 16,u 16,u 16,u 16,u 16,u 16,u 16,u 16])),(2510,some (.gr 30 1 [.g 2509 0 0 65])),(2613,some (.gr 5 1 [u 126,u 3,u 4,u 4,u 2,u 0,u 2,u 0,u 4,u 0,u 16,u 16,u 16,u 16,u 16,u 16,u 16,u 16,u 16,u 16,u 16,u 16,u 16,u 16,u 16,u 16,u 16,u 16,u 16,u 16,u 16,u 16,u 16,u 16,u 16,u 16,u 16,u 16,u 16,u 16,u 16,u 16,u 16,u 16,u 16,u 16,u 16,u 16,u 16,u 16,u 16,u 16,u 16,u 16,u 16,u 16,u 16,u 16,u 16,u 16,u 16,u 16,u 16,u 16,u 16,u 16,u 16,u 16,u 16,u 16,u 16,u 16,u 16,u 140,u 110,u 126]))]
noncomputable def nsg25:Stg:=⟨2309,zES,(.c (i 0)),2614,zET⟩
noncomputable def zEU:T O := .ofs zET [(1910,none),(108,some (.mp [⟨.c (i 0),.ag [i 0,i 16,i 16,i 16,i 16,i 16,i 16,i 16,i 16,i 16,i 16,i 16,i 16,i 16,i 16,i 16,i 16,i 16,i 16,i 16,i 16,i 16,i 16,i 16,i 16,i 16,i 16,i 16,i 16,i 16,i 16,i 16,i 16,i 16,i 16,i 16,i 16,i 16,i 16,i 16,i 16,i 16,i 16,i 16,i 16,i 16,i 16,i 16,i 16,i 16,i 16,i 16,i 16,i 16,i 16,i 16,i 16,i 16,i 16,i 16,i 16,i 16,i 16,i 16,i 61],0⟩] 1)),(162,some (.row 237 [i 4,i 2,.g 2815 0 0 1,i 1])),(166,some (.row 167 [i 512,i 512,.t true,i 4,i 3,i 3,i 3,i 0,i 1,.t false,.t false,.p 162 0,.p 163 0,.nl,.nl])),(169,some (.row 96 [.p 166 0,.p 168 0,i 1,.g 2918 0 0 76])),(170,some (.row 91 [i 1,i 50,i 2000,i 50,i 100000,i 200,i 4,i 3,i 3,i 3,i 0,.p 118 0,.m 159,.p 109 0,.p 158 0,.g 1891 0 0 1,i 6,i 0])),(2814,some (.gr 5 1 [u 4,u 16,u 0,u 16,u 16,u 16,u 16,u 16,u 16,u 16,u 16,u 16,u 16,u 16,u 16,u 16,u 16,u 16,u 16,u 16,u 16,u 16,u 16,u 16,u 16,u 16,u 16,u 16,u 16,u 16,u 16,u 16,u 16,u 16,u 16,u 16,u 16,u 16,u 16,u 16,u 16,u 16,u 16,u 16,u 16,u 16,u 16,u 16,u 16,u 16,u 16,u 16,u 16,u 16,u 16,u 16,u 16,u 16,u 16,u 16,u 16,u 16,u 16,u 16,u 16])),(2815,some (.gr 30 1 [.g 2814 0 0 65])),(2918,some (.gr 5 1 [u 126,u 3,u 4,u 4,u 2,u 0,u 2,u 0,u 4,u 16,u 0,u 16,u 16,u 16,u 16,u 16,u 16,u 16,u 16,u 16,u 16,u 16,u 16,u 16,u 16,u 16,u 16,u 16,u 16,u 16,u 16,u 16,u 16,u 16,u 16,u 16,u 16,u 16,u 16,u 16,u 16,u 16,u 16,u 16,u 16,u 16,u 16,u 16,u 16,u 16,u 16,u 16,u 16,u 16,u 16,u 16,u 16,u 16,u 16,u 16,u 16,u 16,u 16,u 16,u 16,u 16,u 16,u 16,u 16,u 16,u 16,u 16,u 16,u 60,u 3,u 126]))]
noncomputable def nsg26:Stg:=⟨2614,zET,(.c (i 0)),2919,zEU⟩
noncomputable def zEV:T O := .ofs zEU [(2613,none),(2918,none),(8,some (.mp [⟨.c (i 1),.ag [i 16,i 0,i 16,i 16,i 16,i 16,i 16,i 16,i 16,i 16,i 16,i 16,i 16,i 16,i 16,i 16,i 16,i 16,i 16,i 16,i 16,i 16,i 16,i 16,i 16,i 16,i 16,i 16,i 16,i 16,i 16,i 16,i 16,i 16,i 16,i 16,i 16,i 16,i 16,i 16,i 16,i 16,i 16,i 16,i 16,i 16,i 16,i 16,i 16,i 16,i 16,i 16,i 16,i 16,i 16,i 16,i 16,i 16,i 16,i 16,i 16,i 16,i 16,i 16,i 64],0⟩] 1)),(63,some (.row 240 [i 4,i 3,.m 362,.m 363])),(68,some (.row 156 [.t false,.nl,i 7,i 0,i 0,i 0,i 0,.nl])),(69,some (.row 96 [.p 66 0,.p 68 0,i 1,.g 3436 0 0 11])),(108,some (.mp [⟨.c (i 0),.ag [i 0,i 16,i 16,i 16,i 16,i 16,i 16,i 16,i 16,i 16,i 16,i 16,i 16,i 16,i 16,i 16,i 16,i 16,i 16,i 16,i 16,i 16,i 16,i 16,i 16,i 16,i 16,i 16,i 16,i 16,i 16,i 16,i 16,i 16,i 16,i 16,i 16,i 16,i 16,i 16,i 16,i 16,i 16,i 16,i 16,i 16,i 16,i 16,i 16,i 16,i 16,i 16,i 16,i 16,i 16,i 16,i 16,i 16,i 16,i 16,i 16,i 16,i 16,i 16,i 64],0⟩] 1)),(163,some (.row 240 [i 4,i 3,.m 303,.m 304])),(168,some (.row 156 [.t false,.nl,i 7,i 0,i 0,i 0,i 0,.nl])),(169,some (.row 96 [.p 166 0,.p 168 0,i 1,.g 3177 0 0 11])),(303,some (.mp [] 3)),(362,some (.mp [] 3)),(3177,some (.gr 5 1 [u 126,u 3,u 1,u 6,u 2,u 0,u 2,u 0,u 107,u 17,u 126])),(3436,some (.gr 5 1 [u 126,u 3,u 1,u 6,u 2,u 0,u 2,u 0,u 107,u 17,u 126]))]
noncomputable def nsg27:Stg:=⟨2919,zEU,(.tp []),3437,zEV⟩
noncomputable def zEW:T O := .ofs zEV [(2509,none),(2814,none),(3177,none),(3436,none),(62,some (.row 237 [i 4,i 3,.h 2510 0 0 1 1 false,i 0])),(66,some (.row 167 [i 512,i 512,.t true,i 4,i 3,i 3,i 0,i 0,i 1,.t false,.t false,.p 62 0,.p 63 0,.nl,.nl])),(68,some (.row 156 [.t false,.nl,i 8,i 0,i 0,i 0,i 0,.nl])),(69,some (.row 96 [.p 66 0,.p 68 0,i 1,.nl])),(162,some (.row 237 [i 4,i 3,.h 2815 0 0 1 1 false,i 0])),(166,some (.row 167 [i 512,i 512,.t true,i 4,i 3,i 3,i 0,i 0,i 1,.t false,.t false,.p 162 0,.p 163 0,.nl,.nl])),(168,some (.row 156 [.t false,.nl,i 8,i 0,i 0,i 0,i 0,.nl])),(169,some (.row 96 [.p 166 0,.p 168 0,i 1,.nl])),(2510,some (.gr 30 1 [.nl])),(2815,some (.gr 30 1 [.nl]))]
noncomputable def nsg28:Stg:=⟨3437,zEV,(.tp []),3497,zEW⟩
noncomputable def zEX:T O := .ofs zEW []
noncomputable def nsg29:Stg:=⟨3497,zEW,(.tp []),3509,zEX⟩
noncomputable def zEY:T O := .ofs zEX [(8,some (.mp [⟨.c (i 1),.ag [i 16,i 0,i 16,i 16,i 16,i 16,i 16,i 16,i 16,i 16,i 16,i 16,i 16,i 16,i 16,i 16,i 16,i 16,i 16,i 16,i 16,i 16,i 16,i 16,i 16,i 16,i 16,i 16,i 16,i 16,i 16,i 16,i 16,i 16,i 16,i 16,i 16,i 16,i 16,i 16,i 16,i 16,i 16,i 16,i 16,i 16,i 16,i 16,i 16,i 16,i 16,i 16,i 16,i 16,i 16,i 16,i 16,i 16,i 16,i 16,i 16,i 16,i 16,i 16,i 63],0⟩] 1)),(70,some (.row 91 [i 0,i 50,i 2000,i 50,i 100000,i 200,i 4,i 3,i 3,i 3,i 0,.p 18 0,.m 59,.p 9 0,.p 58 0,.nl,i 7,i 0]))]
noncomputable def nsg30:Stg:=⟨3509,zEX,(.c (i 0)),3520,zEY⟩
noncomputable def zEZ:T O := .ofs zEY [(108,some (.mp [⟨.c (i 0),.ag [i 0,i 16,i 16,i 16,i 16,i 16,i 16,i 16,i 16,i 16,i 16,i 16,i 16,i 16,i 16,i 16,i 16,i 16,i 16,i 16,i 16,i 16,i 16,i 16,i 16,i 16,i 16,i 16,i 16,i 16,i 16,i 16,i 16,i 16,i 16,i 16,i 16,i 16,i 16,i 16,i 16,i 16,i 16,i 16,i 16,i 16,i 16,i 16,i 16,i 16,i 16,i 16,i 16,i 16,i 16,i 16,i 16,i 16,i 16,i 16,i 16,i 16,i 16,i 16,i 63],0⟩] 1)),(170,some (.row 91 [i 1,i 50,i 2000,i 50,i 100000,i 200,i 4,i 3,i 3,i 3,i 0,.p 118 0,.m 159,.p 109 0,.p 158 0,.g 1891 0 0 1,i 7,i 0]))]
noncomputable def nsg31:Stg:=⟨3520,zEY,(.c (i 0)),3531,zEZ⟩
noncomputable def zE0:T O := .ofs zEZ []
noncomputable def nsg32:Stg:=⟨3531,zEZ,(.tp []),3543,zE0⟩
noncomputable def zE1:T O := .ofs zE0 []
noncomputable def nsg33:Stg:=⟨3543,zE0,(.tp []),3555,zE1⟩
noncomputable def zE2:T O := .ofs zE1 []
noncomputable def nsg34:Stg:=⟨3555,zE1,(.tp []),3567,zE2⟩
noncomputable def zE3:T O := .ofs zE2 [(8,some (.mp [⟨.c (i 1),.ag [i 16,i 0,i 16,i 16,i 16,i 16,i 16,i 16,i 16,i 16,i 16,i 16,i 16,i 16,i 16,i 16,i 16,i 16,i 16,i 16,i 16,i 16,i 16,i 16,i 16,i 16,i 16,i 16,i 16,i 16,i 16,i 16,i 16,i 16,i 16,i 16,i 16,i 16,i 16,i 16,i 16,i 16,i 16,i 16,i 16,i 16,i 16,i 16,i 16,i 16,i 16,i 16,i 16,i 16,i 16,i 16,i 16,i 16,i 16,i 16,i 16,i 16,i 16,i 16,i 62],0⟩] 1)),(70,some (.row 91 [i 0,i 50,i 2000,i 50,i 100000,i 200,i 4,i 3,i 3,i 3,i 0,.p 18 0,.m 59,.p 9 0,.p 58 0,.nl,i 8,i 0]))]
noncomputable def nsg35:Stg:=⟨3567,zE2,(.c (i 0)),3578,zE3⟩
noncomputable def zE4:T O := .ofs zE3 [(108,some (.mp [⟨.c (i 0),.ag [i 0,i 16,i 16,i 16,i 16,i 16,i 16,i 16,i 16,i 16,i 16,i 16,i 16,i 16,i 16,i 16,i 16,i 16,i 16,i 16,i 16,i 16,i 16,i 16,i 16,i 16,i 16,i 16,i 16,i 16,i 16,i 16,i 16,i 16,i 16,i 16,i 16,i 16,i 16,i 16,i 16,i 16,i 16,i 16,i 16,i 16,i 16,i 16,i 16,i 16,i 16,i 16,i 16,i 16,i 16,i 16,i 16,i 16,i 16,i 16,i 16,i 16,i 16,i 16,i 62],0⟩] 1)),(170,some (.row 91 [i 1,i 50,i 2000,i 50,i 100000,i 200,i 4,i 3,i 3,i 3,i 0,.p 118 0,.m 159,.p 109 0,.p 158 0,.g 1891 0 0 1,i 8,i 0]))]
noncomputable def nsg36:Stg:=⟨3578,zE3,(.c (i 0)),3589,zE4⟩
noncomputable def zE5:T O := .ofs zE4 []
noncomputable def nsg37:Stg:=⟨3589,zE4,(.tp []),3601,zE5⟩
noncomputable def zE6:T O := .ofs zE5 []
noncomputable def nsg38:Stg:=⟨3601,zE5,(.tp []),3613,zE6⟩
noncomputable def zE7:T O := .ofs zE6 []
noncomputable def nsg39:Stg:=⟨3613,zE6,(.tp []),3625,zE7⟩
noncomputable def zE8:T O := .ofs zE7 [(2510,none),(8,some (.mp [⟨.c (i 1),.ag [i 16,i 0,i 16,i 16,i 16,i 16,i 16,i 16,i 16,i 16,i 16,i 16,i 16,i 16,i 16,i 16,i 16,i 16,i 16,i 16,i 16,i 16,i 16,i 16,i 16,i 16,i 16,i 16,i 16,i 16,i 16,i 16,i 16,i 16,i 16,i 16,i 16,i 16,i 16,i 16,i 16,i 16,i 16,i 16,i 16,i 16,i 16,i 16,i 16,i 16,i 16,i 16,i 16,i 16,i 16,i 16,i 16,i 16,i 16,i 16,i 16,i 16,i 16,i 16,i 61],0⟩] 1)),(62,some (.row 237 [i 4,i 3,.g 3826 0 0 1,i 1])),(66,some (.row 167 [i 512,i 512,.t true,i 4,i 3,i 3,i 3,i 0,i 1,.t false,.t false,.p 62 0,.p 63 0,.nl,.nl])),(69,some (.row 96 [.p 66 0,.p 68 0,i 1,.g 3929 0 0 76])),(70,some (.row 91 [i 0,i 50,i 2000,i 50,i 100000,i 200,i 4,i 3,i 3,i 3,i 0,.p 18 0,.m 59,.p 9 0,.p 58 0,.nl,i 9,i 0])),(3825,some (.gr 5 1 [u 4,u 0,u 16,u 16,u 16,u 16,u 16,u 16,u 16,u 16,u 16,u 16,u 16,u 16,u 16,u 16,u 16,u 16,u 16,u 16,u 16,u 16,u 16,u 16,u 16,u 16,u 16,u 16,u 16,u 16,u 16,u 16,u 16,u 16,u 16,u 16,u 16,u 16,u 16,u 16,u 16,u 16,u 16,u 16,u 16,u 16,u 16,u 16,u 16,u 16,u 16,u 16,u 16,u 16,u 16,u 16,u 16,u 16,u 16,u 16,u 16,u 16,u 16,u 16,u 16])),(3826,some (.gr 30 1 [.g 3825 0 0 65])),(3929,some (.gr 5 1 [u 126,u 3,u 6,u 6,u 2,u 0,u 2,u 0,u 4,u 0,u 16,u 16,u 16,u 16,u 16,u 16,u 16,u 16,u 16,u 16,u 16,u 16,u 16,u 16,u 16,u 16,u 16,u 16,u 16,u 16,u 16,u 16,u 16,u 16,u 16,u 16,u 16,u 16,u 16,u 16,u 16,u 16,u 16,u 16,u 16,u 16,u 16,u 16,u 16,u 16,u 16,u 16,u 16,u 16,u 16,u 16,u 16,u 16,u 16,u 16,u 16,u 16,u 16,u 16,u 16,u 16,u 16,u 16,u 16,u 16,u 16,u 16,u 16,u 201,u 83,u 126]))]
noncomputable def nsg40:Stg:=⟨3625,zE7,(.c (i 0)),3930,zE8⟩
noncomputable def zE9:T O := .ofs zE8 [(2815,none),(108,some (.mp [⟨.c (i 0),.ag [i 0,i 16,i 16,i 16,i 16,i 16,i 16,i 16,i 16,i 16,i 16,i 16,i 16,i 16,i 16,i 16,i 16,i 16,i 16,i 16,i 16,i 16,i 16,i 16,i 16,i 16,i 16,i 16,i 16,i 16,i 16,i 16,i 16,i 16,i 16,i 16,i 16,i 16,i 16,i 16,i 16,i 16,i 16,i 16,i 16,i 16,i 16,i 16,i 16,i 16,i 16,i 16,i 16,i 16,i 16,i 16,i 16,i 16,i 16,i 16,i 16,i 16,i 16,i 16,i 61],0⟩] 1)),(162,some (.row 237 [i 4,i 3,.g 4131 0 0 1,i 1])),(166,some (.row 167 [i 512,i 512,.t true,i 4,i 3,i 3,i 3,i 0,i 1,.t false,.t false,.p 162 0,.p 163 0,.nl,.nl])),(169,some (.row 96 [.p 166 0,.p 168 0,i 1,.g 4234 0 0 76])),(170,some (.row 91 [i 1,i 50,i 2000,i 50,i 100000,i 200,i 4,i 3,i 3,i 3,i 0,.p 118 0,.m 159,.p 109 0,.p 158 0,.g 1891 0 0 1,i 9,i 0])),(4130,some (.gr 5 1 [u 4,u 16,u 0,u 16,u 16,u 16,u 16,u 16,u 16,u 16,u 16,u 16,u 16,u 16,u 16,u 16,u 16,u 16,u 16,u 16,u 16,u 16,u 16,u 16,u 16,u 16,u 16,u 16,u 16,u 16,u 16,u 16,u 16,u 16,u 16,u 16,u 16,u 16,u 16,u 16,u 16,u 16,u 16,u 16,u 16,u 16,u 16,u 16,u 16,u 16,u 16,u 16,u 16,u 16,u 16,u 16,u 16,u 16,u 16,u 16,u 16,u 16,u 16,u 16,u 16])),(4131,some (.gr 30 1 [.g 4130 0 0 65])),(4234,some (.gr 5 1 [u 126,u 3,u 6,u 6,u 2,u 0,u 2,u 0,u 4,u 16,u 0,u 16,u 16,u 16,u 16,u 16,u 16,u 16,u 16,u 16,u 16,u 16,u 16,u 16,u 16,u 16,u 16,u 16,u 16,u 16,u 16,u 16,u 16,u 16,u 16,u 16,u 16,u 16,u 16,u 16,u 16,u 16,u 16,u 16,u 16,u 16,u 16,u 16,u 16,u 16,u 16,u 16,u 16,u 16,u 16,u 16,u 16,u 16,u 16,u 16,u 16,u 16,u 16,u 16,u 16,u 16,u 16,u 16,u 16,u 16,u 16,u 16,u 16,u 121,u 62,u 126]))]
noncomputable def nsg41:Stg:=⟨3930,zE8,(.c (i 0)),4235,zE9⟩
noncomputable def zFa:T O := .ofs zE9 [(3929,none),(4234,none),(8,some (.mp [⟨.c (i 1),.ag [i 16,i 0,i 16,i 16,i 16,i 16,i 16,i 16,i 16,i 16,i 16,i 16,i 16,i 16,i 16,i 16,i 16,i 16,i 16,i 16,i 16,i 16,i 16,i 16,i 16,i 16,i 16,i 16,i 16,i 16,i 16,i 16,i 16,i 16,i 16,i 16,i 16,i 16,i 16,i 16,i 16,i 16,i 16,i 16,i 16,i 16,i 16,i 16,i 16,i 16,i 16,i 16,i 16,i 16,i 16,i 16,i 16,i 16,i 16,i 16,i 16,i 16,i 16,i 16,i 64],0⟩] 1)),(63,some (.row 240 [i 4,i 4,.m 362,.m 363])),(68,some (.row 156 [.t false,.nl,i 9,i 0,i 0,i 0,i 0,.nl])),(69,some (.row 96 [.p 66 0,.p 68 0,i 1,.g 4752 0 0 11])),(108,some (.mp [⟨.c (i 0),.ag [i 0,i 16,i 16,i 16,i 16,i 16,i 16,i 16,i 16,i 16,i 16,i 16,i 16,i 16,i 16,i 16,i 16,i 16,i 16,i 16,i 16,i 16,i 16,i 16,i 16,i 16,i 16,i 16,i 16,i 16,i 16,i 16,i 16,i 16,i 16,i 16,i 16,i 16,i 16,i 16,i 16,i 16,i 16,i 16,i 16,i 16,i 16,i 16,i 16,i 16,i 16,i 16,i 16,i 16,i 16,i 16,i 16,i 16,i 16,i 16,i 16,i 16,i 16,i 16,i 64],0⟩] 1)),(163,some (.row 240 [i 4,i 4,.m 303,.m 304])),(168,some (.row 156 [.t false,.nl,i 9,i 0,i 0,i 0,i 0,.nl])),(169,some (.row 96 [.p 166 0,.p 168 0,i 1,.g 4493 0 0 11])),(303,some (.mp [] 4)),(362,some (.mp [] 4)),(4493,some (.gr 5 1 [u 126,u 3,u 1,u 8,u 2,u 0,u 2,u 0,u 211,u 112,u 126])),(4752,some (.gr 5 1 [u 126,u 3,u 1,u 8,u 2,u 0,u 2,u 0,u 211,u 112,u 126]))]
noncomputable def nsg42:Stg:=⟨4235,zE9,(.tp []),4753,zFa⟩
noncomputable def zFb:T O := .ofs zFa [(3825,none),(4130,none),(4493,none),(4752,none),(62,some (.row 237 [i 4,i 4,.h 3826 0 0 1 1 false,i 0])),(66,some (.row 167 [i 512,i 512,.t true,i 4,i 3,i 3,i 0,i 0,i 1,.t false,.t false,.p 62 0,.p 63 0,.nl,.nl])),(68,some (.row 156 [.t false,.nl,i 10,i 0,i 0,i 0,i 0,.nl])),(69,some (.row 96 [.p 66 0,.p 68 0,i 1,.nl])),(162,some (.row 237 [i 4,i 4,.h 4131 0 0 1 1 false,i 0])),(166,some (.row 167 [i 512,i 512,.t true,i 4,i 3,i 3,i 0,i 0,i 1,.t false,.t false,.p 162 0,.p 163 0,.nl,.nl])),(168,some (.row 156 [.t false,.nl,i 10,i 0,i 0,i 0,i 0,.nl])),(169,some (.row 96 [.p 166 0,.p 168 0,i 1,.nl])),(3826,some (.gr 30 1 [.nl])),(4131,some (.gr 30 1 [.nl]))]
noncomputable def nsg43:Stg:=⟨4753,zFa,(.tp []),4813,zFb⟩
noncomputable def zFc:T O := .ofs zFb []
noncomputable def nsg44:Stg:=⟨4813,zFb,(.tp []),4825,zFc⟩
noncomputable def zFd:T O := .ofs zFc [(8,some (.mp [⟨.c (i 1),.ag [i 16,i 0,i 16,i 16,i 16,i 16,i 16,i 16,i 16,i 16,i 16,i 16,i 16,i 16,i 16,i 16,i 16,i 16,i 16,i 16,i 16,i 16,i 16,i 16,i 16,i 16,i 16,i 16,i 16,i 16,i 16,i 16,i 16,i 16,i 16,i 16,i 16,i 16,i 16,i 16,i 16,i 16,i 16,i 16,i 16,i 16,i 16,i 16,i 16,i 16,i 16,i 16,i 16,i 16,i 16,i 16,i 16,i 16,i 16,i 16,i 16,i 16,i 16,i 16,i 63],0⟩] 1)),(70,some (.row 91 [i 0,i 50,i 2000,i 50,i 100000,i 200,i 4,i 3,i 3,i 3,i 0,.p 18 0,.m 59,.p 9 0,.p 58 0,.nl,i 10,i 0]))]
noncomputable def nsg45:Stg:=⟨4825,zFc,(.c (i 0)),4836,zFd⟩
noncomputable def zFe:T O := .ofs zFd [(108,some (.mp [⟨.c (i 0),.ag [i 0,i 16,i 16,i 16,i 16,i 16,i 16,i 16,i 16,i 16,i 16,i 16,i 16,i 16,i 16,i 16,i 16,i 16,i 16,i 16,i 16,i 16,i 16,i 16,i 16,i 16,i 16,i 16,i 16,i 16,i 16,i 16,i 16,i 16,i 16,i 16,i 16,i 16,i 16,i 16,i 16,i 16,i 16,i 16,i 16,i 16,i 16,i 16,i 16,i 16,i 16,i 16,i 16,i 16,i 16,i 16,i 16,i 16,i 16,i 16,i 16,i 16,i 16,i 16,i 63],0⟩] 1)),(170,some (.row 91 [i 1,i 50,i 2000,i 50,i 100000,i 200,i 4,i 3,i 3,i 3,i 0,.p 118 0,.m 159,.p 109 0,.p 158 0,.g 1891 0 0 1,i 10,i 0]))]
noncomputable def nsg46:Stg:=⟨4836,zFd,(.c (i 0)),4847,zFe⟩
noncomputable def zFf:T O := .ofs zFe []
noncomputable def nsg47:Stg:=⟨4847,zFe,(.tp []),4859,zFf⟩
noncomputable def zFg:T O := .ofs zFf []
noncomputable def nsg48:Stg:=⟨4859,zFf,(.tp []),4871,zFg⟩
noncomputable def zFh:T O := .ofs zFg []
noncomputable def nsg49:Stg:=⟨4871,zFg,(.tp []),4883,zFh⟩
noncomputable def zFi:T O := .ofs zFh [(8,some (.mp [⟨.c (i 1),.ag [i 16,i 0,i 16,i 16,i 16,i 16,i 16,i 16,i 16,i 16,i 16,i 16,i 16,i 16,i 16,i 16,i 16,i 16,i 16,i 16,i 16,i 16,i 16,i 16,i 16,i 16,i 16,i 16,i 16,i 16,i 16,i 16,i 16,i 16,i 16,i 16,i 16,i 16,i 16,i 16,i 16,i 16,i 16,i 16,i 16,i 16,i 16,i 16,i 16,i 16,i 16,i 16,i 16,i 16,i 16,i 16,i 16,i 16,i 16,i 16,i 16,i 16,i 16,i 16,i 62],0⟩] 1)),(70,some (.row 91 [i 0,i 50,i 2000,i 50,i 100000,i 200,i 4,i 3,i 3,i 3,i 0,.p 18 0,.m 59,.p 9 0,.p 58 0,.nl,i 11,i 0]))]
noncomputable def nsg50:Stg:=⟨4883,zFh,(.c (i 0)),4894,zFi⟩
noncomputable def zFj:T O := .ofs zFi [(108,some (.mp [⟨.c (i 0),.ag [i 0,i 16,i 16,i 16,i 16,i 16,i 16,i 16,i 16,i 16,i 16,i 16,i 16,i 16,i 16,i 16,i 16,i 16,i 16,i 16,i 16,i 16,i 16,i 16,i 16,i 16,i 16,i 16,i 16,i 16,i 16,i 16,i 16,i 16,i 16,i 16,i 16,i 16,i 16,i 16,i 16,i 16,i 16,i 16,i 16,i 16,i 16,i 16,i 16,i 16,i 16,i 16,i 16,i 16,i 16,i 16,i 16,i 16,i 16,i 16,i 16,i 16,i 16,i 16,i 62],0⟩] 1)),(170,some (.row 91 [i 1,i 50,i 2000,i 50,i 100000,i 200,i 4,i 3,i 3,i 3,i 0,.p 118 0,.m 159,.p 109 0,.p 158 0,.g 1891 0 0 1,i 11,i 0]))]
noncomputable def nsg51:Stg:=⟨4894,zFi,(.c (i 0)),4905,zFj⟩
noncomputable def zFk:T O := .ofs zFj []
noncomputable def nsg52:Stg:=⟨4905,zFj,(.tp []),4917,zFk⟩
noncomputable def zFl:T O := .ofs zFk []
noncomputable def nsg53:Stg:=⟨4917,zFk,(.tp []),4929,zFl⟩
noncomputable def zFm:T O := .ofs zFl []
noncomputable def nsg54:Stg:=⟨4929,zFl,(.tp []),4941,zFm⟩
noncomputable def zFn:T O := .ofs zFm [(3826,none),(8,some (.mp [⟨.c (i 1),.ag [i 16,i 0,i 16,i 16,i 16,i 16,i 16,i 16,i 16,i 16,i 16,i 16,i 16,i 16,i 16,i 16,i 16,i 16,i 16,i 16,i 16,i 16,i 16,i 16,i 16,i 16,i 16,i 16,i 16,i 16,i 16,i 16,i 16,i 16,i 16,i 16,i 16,i 16,i 16,i 16,i 16,i 16,i 16,i 16,i 16,i 16,i 16,i 16,i 16,i 16,i 16,i 16,i 16,i 16,i 16,i 16,i 16,i 16,i 16,i 16,i 16,i 16,i 16,i 16,i 61],0⟩] 1)),(62,some (.row 237 [i 4,i 4,.g 5142 0 0 1,i 1])),(66,some (.row 167 [i 512,i 512,.t true,i 4,i 3,i 3,i 3,i 0,i 1,.t false,.t false,.p 62 0,.p 63 0,.nl,.nl])),(69,some (.row 96 [.p 66 0,.p 68 0,i 1,.g 5245 0 0 76])),(70,some (.row 91 [i 0,i 50,i 2000,i 50,i 100000,i 200,i 4,i 3,i 3,i 3,i 0,.p 18 0,.m 59,.p 9 0,.p 58 0,.nl,i 12,i 0])),(5141,some (.gr 5 1 [u 4,u 0,u 16,u 16,u 16,u 16,u 16,u 16,u 16,u 16,u 16,u 16,u 16,u 16,u 16,u 16,u 16,u 16,u 16,u 16,u 16,u 16,u 16,u 16,u 16,u 16,u 16,u 16,u 16,u 16,u 16,u 16,u 16,u 16,u 16,u 16,u 16,u 16,u 16,u 16,u 16,u 16,u 16,u 16,u 16,u 16,u 16,u 16,u 16,u 16,u 16,u 16,u 16,u 16,u 16,u 16,u 16,u 16,u 16,u 16,u 16,u 16,u 16,u 16,u 16])),(5142,some (.gr 30 1 [.g 5141 0 0 65])),(5245,some (.gr 5 1 [u 126,u 3,u 8,u 8,u 2,u 0,u 2,u 0,u 4,u 0,u 16,u 16,u 16,u 16,u 16,u 16,u 16,u 16,u 16,u 16,u 16,u 16,u 16,u 16,u 16,u 16,u 16,u 16,u 16,u 16,u 16,u 16,u 16,u 16,u 16,u 16,u 16,u 16,u 16,u 16,u 16,u 16,u 16,u 16,u 16,u 16,u 16,u 16,u 16,u 16,u 16,u 16,u 16,u 16,u 16,u 16,u 16,u 16,u 16,u 16,u 16,u 16,u 16,u 16,u 16,u 16,u 16,u 16,u 16,u 16,u 16,u 16,u 16,u 18,u 225,u 126]))]
noncomputable def nsg55:Stg:=⟨4941,zFm,(.c (i 0)),5246,zFn⟩
noncomputable def zFo:T O := .ofs zFn [(4131,none),(108,some (.mp [⟨.c (i 0),.ag [i 0,i 16,i 16,i 16,i 16,i 16,i 16,i 16,i 16,i 16,i 16,i 16,i 16,i 16,i 16,i 16,i 16,i 16,i 16,i 16,i 16,i 16,i 16,i 16,i 16,i 16,i 16,i 16,i 16,i 16,i 16,i 16,i 16,i 16,i 16,i 16,i 16,i 16,i 16,i 16,i 16,i 16,i 16,i 16,i 16,i 16,i 16,i 16,i 16,i 16,i 16,i 16,i 16,i 16,i 16,i 16,i 16,i 16,i 16,i 16,i 16,i 16,i 16,i 16,i 61],0⟩] 1)),(162,some (.row 237 [i 4,i 4,.g 5447 0 0 1,i 1])),(166,some (.row 167 [i 512,i 512,.t true,i 4,i 3,i 3,i 3,i 0,i 1,.t false,.t false,.p 162 0,.p 163 0,.nl,.nl])),(169,some (.row 96 [.p 166 0,.p 168 0,i 1,.g 5550 0 0 76])),(170,some (.row 91 [i 1,i 50,i 2000,i 50,i 100000,i 200,i 4,i 3,i 3,i 3,i 0,.p 118 0,.m 159,.p 109 0,.p 158 0,.g 1891 0 0 1,i 12,i 0])),(5446,some (.gr 5 1 [u 4,u 16,u 0,u 16,u 16,u 16,u 16,u 16,u 16,u 16,u 16,u 16,u 16,u 16,u 16,u 16,u 16,u 16,u 16,u 16,u 16,u 16,u 16,u 16,u 16,u 16,u 16,u 16,u 16,u 16,u 16,u 16,u 16,u 16,u 16,u 16,u 16,u 16,u 16,u 16,u 16,u 16,u 16,u 16,u 16,u 16,u 16,u 16,u 16,u 16,u 16,u 16,u 16,u 16,u 16,u 16,u 16,u 16,u 16,u 16,u 16,u 16,u 16,u 16,u 16])),(5447,some (.gr 30 1 [.g 5446 0 0 65])),(5550,some (.gr 5 1 [u 126,u 3,u 8,u 8,u 2,u 0,u 2,u 0,u 4,u 16,u 0,u 16,u 16,u 16,u 16,u 16,u 16,u 16,u 16,u 16,u 16,u 16,u 16,u 16,u 16,u 16,u 16,u 16,u 16,u 16,u 16,u 16,u 16,u 16,u 16,u 16,u 16,u 16,u 16,u 16,u 16,u 16,u 16,u 16,u 16,u 16,u 16,u 16,u 16,u 16,u 16,u 16,u 16,u 16,u 16,u 16,u 16,u 16,u 16,u 16,u 16,u 16,u 16,u 16,u 16,u 16,u 16,u 16,u 16,u 16,u 16,u 16,u 16,u 162,u 140,u 126]))]
noncomputable def nsg56:Stg:=⟨5246,zFn,(.c (i 0)),5551,zFo⟩
noncomputable def zFp:T O := .ofs zFo [(5245,none),(5550,none),(8,some (.mp [⟨.c (i 1),.ag [i 16,i 0,i 16,i 16,i 16,i 16,i 16,i 16,i 16,i 16,i 16,i 16,i 16,i 16,i 16,i 16,i 16,i 16,i 16,i 16,i 16,i 16,i 16,i 16,i 16,i 16,i 16,i 16,i 16,i 16,i 16,i 16,i 16,i 16,i 16,i 16,i 16,i 16,i 16,i 16,i 16,i 16,i 16,i 16,i 16,i 16,i 16,i 16,i 16,i 16,i 16,i 16,i 16,i 16,i 16,i 16,i 16,i 16,i 16,i 16,i 16,i 16,i 16,i 16,i 64],0⟩] 1)),(63,some (.row 240 [i 4,i 5,.m 362,.m 363])),(68,some (.row 156 [.t false,.nl,i 11,i 0,i 0,i 0,i 0,.nl])),(69,some (.row 96 [.p 66 0,.p 68 0,i 1,.g 6068 0 0 11])),(108,some (.mp [⟨.c (i 0),.ag [i 0,i 16,i 16,i 16,i 16,i 16,i 16,i 16,i 16,i 16,i 16,i 16,i 16,i 16,i 16,i 16,i 16,i 16,i 16,i 16,i 16,i 16,i 16,i 16,i 16,i 16,i 16,i 16,i 16,i 16,i 16,i 16,i 16,i 16,i 16,i 16,i 16,i 16,i 16,i 16,i 16,i 16,i 16,i 16,i 16,i 16,i 16,i 16,i 16,i 16,i 16,i 16,i 16,i 16,i 16,i 16,i 16,i 16,i 16,i 16,i 16,i 16,i 16,i 16,i 64],0⟩] 1)),(163,some (.row 240 [i 4,i 5,.m 303,.m 304])),(168,some (.row 156 [.t false,.nl,i 11,i 0,i 0,i 0,i 0,.nl])),(169,some (.row 96 [.p 166 0,.p 168 0,i 1,.g 5809 0 0 11])),(303,some (.mp [] 5)),(362,some (.mp [] 5)),(5809,some (.gr 5 1 [u 126,u 3,u 1,u 10,u 2,u 0,u 2,u 0,u 91,u 102,u 126])),(6068,some (.gr 5 1 [u 126,u 3,u 1,u 10,u 2,u 0,u 2,u 0,u 91,u 102,u 126]))]
noncomputable def nsg57:Stg:=⟨5551,zFo,(.tp []),6069,zFp⟩
noncomputable def zFq:T O := .ofs zFp [(5141,none),(5446,none),(5809,none),(6068,none),(62,some (.row 237 [i 4,i 5,.h 5142 0 0 1 1 false,i 0])),(66,some (.row 167 [i 512,i 512,.t true,i 4,i 3,i 3,i 0,i 0,i 1,.t false,.t false,.p 62 0,.p 63 0,.nl,.nl])),(68,some (.row 156 [.t false,.nl,i 12,i 0,i 0,i 0,i 0,.nl])),(69,some (.row 96 [.p 66 0,.p 68 0,i 1,.nl])),(162,some (.row 237 [i 4,i 5,.h 5447 0 0 1 1 false,i 0])),(166,some (.row 167 [i 512,i 512,.t true,i 4,i 3,i 3,i 0,i 0,i 1,.t false,.t false,.p 162 0,.p 163 0,.nl,.nl])),(168,some (.row 156 [.t false,.nl,i 12,i 0,i 0,i 0,i 0,.nl])),(169,some (.row 96 [.p 166 0,.p 168 0,i 1,.nl])),(5142,some (.gr 30 1 [.nl])),(5447,some (.gr 30 1 [.nl]))]
noncomputable def nsg58:Stg:=⟨6069,zFp,(.tp []),6129,zFq⟩
noncomputable def zLz:T O := .ofs zFq []
noncomputable def nsg59:Stg:=⟨6129,zFq,(.tp []),6141,zLz⟩
end
section
theorem zJH:nsg0.ok (run primsN zB 1000 40 F.zi) zmC=true:=by kernel_rfl
theorem zJI:nsg1.ok (run primsN zB 1000 40 F.zi) zmD=true:=by kernel_rfl
theorem zJJ:nsg2.ok (run primsN zB 1000 40 F.zj) zaz=true:=by kernel_rfl
theorem zJK:nsg3.ok (run primsN zB 1000 40 F.zj) zaz=true:=by kernel_rfl
theorem zJL:nsg4.ok (run primsN zB 1000 40 F.zj) zaz=true:=by kernel_rfl
theorem zJM:nsg5.ok (run primsN zB 1000 40 F.zi) zmC=true:=by kernel_rfl
theorem zJN:nsg6.ok (run primsN zB 1000 40 F.zi) zmD=true:=by kernel_rfl
theorem zJO:nsg7.ok (run primsN zB 1000 40 F.zj) zaz=true:=by kernel_rfl
theorem zJP:nsg8.ok (run primsN zB 1000 40 F.zj) zaz=true:=by kernel_rfl
theorem zJQ:nsg9.ok (run primsN zB 1000 40 F.zj) zaz=true:=by kernel_rfl
theorem zHB:nsg10.ok (run primsN zB 1000 40 F.zi) zmC=true:=by kernel_rfl
theorem zHC:nsg11.ok (run primsN zB 1000 40 F.zi) zmD=true:=by kernel_rfl
theorem zHD:nsg12.ok (run primsN zB 1000 40 F.zj) zaz=true:=by kernel_rfl
theorem zHE:nsg13.ok (run primsN zB 1000 40 F.zj) zaz=true:=by kernel_rfl
theorem zHF:nsg14.ok (run primsN zB 1000 40 F.zj) zaz=true:=by kernel_rfl
end
section
theorem zHG:nsg15.ok (run primsN zB 1000 40 F.zi) zmC=true:=by kernel_rfl
theorem zHH:nsg16.ok (run primsN zB 1000 40 F.zi) zmD=true:=by kernel_rfl
theorem zHI:nsg17.ok (run primsN zB 1000 40 F.zj) zaz=true:=by kernel_rfl
theorem zHJ:nsg18.ok (run primsN zB 1000 40 F.zj) zaz=true:=by kernel_rfl
theorem zHK:nsg19.ok (run primsN zB 1000 40 F.zj) zaz=true:=by kernel_rfl
theorem zHL:nsg20.ok (run primsN zB 1000 40 F.zi) zmC=true:=by kernel_rfl
theorem zHM:nsg21.ok (run primsN zB 1000 40 F.zi) zmD=true:=by kernel_rfl
theorem zHN:nsg22.ok (run primsN zB 1000 40 F.zj) zaz=true:=by kernel_rfl
theorem zHO:nsg23.ok (run primsN zB 1000 40 F.zj) zaz=true:=by kernel_rfl
theorem zHP:nsg24.ok (run primsN zB 1000 40 F.zj) zaz=true:=by kernel_rfl
theorem zHQ:nsg25.ok (run primsN zB 1000 40 F.zi) zmC=true:=by kernel_rfl
theorem zHR:nsg26.ok (run primsN zB 1000 40 F.zi) zmD=true:=by kernel_rfl
theorem zHS:nsg27.ok (run primsN zB 1000 40 F.zj) zaz=true:=by kernel_rfl
theorem zHT:nsg28.ok (run primsN zB 1000 40 F.zj) zaz=true:=by kernel_rfl
theorem zHU:nsg29.ok (run primsN zB 1000 40 F.zj) zaz=true:=by kernel_rfl
end
section
theorem zHV:nsg30.ok (run primsN zB 1000 40 F.zi) zmC=true:=by kernel_rfl
theorem zHW:nsg31.ok (run primsN zB 1000 40 F.zi) zmD=true:=by kernel_rfl
theorem zHX:nsg32.ok (run primsN zB 1000 40 F.zj) zaz=true:=by kernel_rfl
theorem zHY:nsg33.ok (run primsN zB 1000 40 F.zj) zaz=true:=by kernel_rfl
theorem zHZ:nsg34.ok (run primsN zB 1000 40 F.zj) zaz=true:=by kernel_rfl
theorem zH0:nsg35.ok (run primsN zB 1000 40 F.zi) zmC=true:=by kernel_rfl
theorem zH1:nsg36.ok (run primsN zB 1000 40 F.zi) zmD=true:=by kernel_rfl
theorem zH2:nsg37.ok (run primsN zB 1000 40 F.zj) zaz=true:=by kernel_rfl
theorem zH3:nsg38.ok (run primsN zB 1000 40 F.zj) zaz=true:=by kernel_rfl
theorem zH4:nsg39.ok (run primsN zB 1000 40 F.zj) zaz=true:=by kernel_rfl
theorem zH5:nsg40.ok (run primsN zB 1000 40 F.zi) zmC=true:=by kernel_rfl
theorem zH6:nsg41.ok (run primsN zB 1000 40 F.zi) zmD=true:=by kernel_rfl
theorem zH7:nsg42.ok (run primsN zB 1000 40 F.zj) zaz=true:=by kernel_rfl
theorem zH8:nsg43.ok (run primsN zB 1000 40 F.zj) zaz=true:=by kernel_rfl
theorem zH9:nsg44.ok (run primsN zB 1000 40 F.zj) zaz=true:=by kernel_rfl
end
section
theorem zIa:nsg45.ok (run primsN zB 1000 40 F.zi) zmC=true:=by kernel_rfl
theorem zIb:nsg46.ok (run primsN zB 1000 40 F.zi) zmD=true:=by kernel_rfl
theorem zIc:nsg47.ok (run primsN zB 1000 40 F.zj) zaz=true:=by kernel_rfl
theorem zId:nsg48.ok (run primsN zB 1000 40 F.zj) zaz=true:=by kernel_rfl
theorem zIe:nsg49.ok (run primsN zB 1000 40 F.zj) zaz=true:=by kernel_rfl
theorem zIf:nsg50.ok (run primsN zB 1000 40 F.zi) zmC=true:=by kernel_rfl
theorem zIg:nsg51.ok (run primsN zB 1000 40 F.zi) zmD=true:=by kernel_rfl
theorem zIh:nsg52.ok (run primsN zB 1000 40 F.zj) zaz=true:=by kernel_rfl
theorem zIi:nsg53.ok (run primsN zB 1000 40 F.zj) zaz=true:=by kernel_rfl
theorem zIj:nsg54.ok (run primsN zB 1000 40 F.zj) zaz=true:=by kernel_rfl
theorem zIk:nsg55.ok (run primsN zB 1000 40 F.zi) zmC=true:=by kernel_rfl
theorem zIl:nsg56.ok (run primsN zB 1000 40 F.zi) zmD=true:=by kernel_rfl
theorem zIm:nsg57.ok (run primsN zB 1000 40 F.zj) zaz=true:=by kernel_rfl
theorem zIn:nsg58.ok (run primsN zB 1000 40 F.zj) zaz=true:=by kernel_rfl
theorem zIo:nsg59.ok (run primsN zB 1000 40 F.zj) zaz=true:=by kernel_rfl
end
end Go.Proofs.YtdogcflaekkdkaaGreat
namespace Go.Proofs.YtdogcflaekkdkaaGreat
open Go Go.Vm Go.Vm.Rn Go.Vm.Rn.Q
set_option maxRecDepth 100000
noncomputable def primsM:T (List W→Nat→T O→R) := .n (.n (.e) none (.n (.e) none (.n (.n (.e) (some (orP (zqX zmC [nsg0,nsg5,nsg10,nsg15,nsg20,nsg25,nsg30,nsg35,nsg40,nsg45,nsg50,nsg55]) (zqX zmD [nsg1,nsg6,nsg11,nsg16,nsg21,nsg26,nsg31,nsg36,nsg41,nsg46,nsg51,nsg56]))) (.e)) none (.e)))) none (.n (.n (.n (.n (.n (.e) (some (zqX zaz [nsg2,nsg3,nsg4,nsg7,nsg8,nsg9,nsg12,nsg13,nsg14,nsg17,nsg18,nsg19,nsg22,nsg23,nsg24,nsg27,nsg28,nsg29,nsg32,nsg33,nsg34,nsg37,nsg38,nsg39,nsg42,nsg43,nsg44,nsg47,nsg48,nsg49,nsg52,nsg53,nsg54,nsg57,nsg58,nsg59])) (.e)) none (.e)) none (.e)) none (.e)) none (.n (.n (.n (.e) none (.n (.e) none (.n (.e) none (.n (.e) (some zua) (.e))))) none (.n (.e) none (.n (.e) none (.n (.n (.n (.e) (some zrS) (.e)) none (.e)) none (.e))))) none (.n (.e) none (.n (.e) none (.n (.n (.e) (some zpF) (.e)) none (.e))))))
theorem zGI:primsM.All (Prim Tryz.prog) := .no (.no (.nil) (.no (.nil) (.no (.at (zLx (zrR zED (all_cons zJH <| all_cons zJM <| all_cons zHB <| all_cons zHG <| all_cons zHL <| all_cons zHQ <| all_cons zHV <| all_cons zH0 <| all_cons zH5 <| all_cons zIa <| all_cons zIf <| all_cons zIk <| zzq)) (zrR zED (all_cons zJI <| all_cons zJN <| all_cons zHC <| all_cons zHH <| all_cons zHM <| all_cons zHR <| all_cons zHW <| all_cons zH1 <| all_cons zH6 <| all_cons zIb <| all_cons zIg <| all_cons zIl <| zzq))) (.nil) (.nil)) (.nil)))) (.no (.no (.no (.no (.at (zrR zED (all_cons zJJ <| all_cons zJK <| all_cons zJL <| all_cons zJO <| all_cons zJP <| all_cons zJQ <| all_cons zHD <| all_cons zHE <| all_cons zHF <| all_cons zHI <| all_cons zHJ <| all_cons zHK <| all_cons zHN <| all_cons zHO <| all_cons zHP <| all_cons zHS <| all_cons zHT <| all_cons zHU <| all_cons zHX <| all_cons zHY <| all_cons zHZ <| all_cons zH2 <| all_cons zH3 <| all_cons zH4 <| all_cons zH7 <| all_cons zH8 <| all_cons zH9 <| all_cons zIc <| all_cons zId <| all_cons zIe <| all_cons zIh <| all_cons zIi <| all_cons zIj <| all_cons zIm <| all_cons zIn <| all_cons zIo <| zzq)) (.nil) (.nil)) (.nil)) (.nil)) (.nil)) (.no (.no (.no (.nil) (.no (.nil) (.no (.nil) (.at zyj (.nil) (.nil))))) (.no (.nil) (.no (.nil) (.no (.no (.at zvw (.nil) (.nil)) (.nil)) (.nil))))) (.no (.nil) (.no (.nil) (.no (.at ztV (.nil) (.nil)) (.nil))))))
theorem awake_ok {M:Mem}:CallsM Tryz.prog F.za8 [] M fun v M2=>v = .bool true∧M.le M2:=zIU (run_ok zGI zDe 1000 40) (f:=F.za8) (ws:=[]) (by kernel_rfl) trivial
end Go.Proofs.YtdogcflaekkdkaaGreat
namespace Go.Proofs.YtdogcflaekkdkaaGreat
open Go Go.Vm
attribute [local irreducible] Brn Ob Grow CallsM inR zh6 zfC Mem.row Mem.cells Mem.setCells Mem.upd Go.Vm.Own zix znw zmE zjI New SrcOk zat NewSl Mem.textAt Mem.mapAt Mem.iterAt zd6 kfind Wr zm5 Elems
set_option maxRecDepth 10000
variable {M M':Mem}
set_option maxRecDepth 100000 in
theorem zJR (k n w:Int) (a:Option Addr) (m c:Nat):CallsM Tryz.prog F.zlq [.agg #[.int .i64 k,.int .i64 n,.int .i64 w,.slice a m c]] M fun v M'=>v = .bool true∧M.le M':=by
 refine zvJ (by simp) ?_
 refine zR ?_
 refine(zFR n a m c).mono ?_
 rintro v _ ⟨rfl,rfl⟩
 refine zR ?_
 refine(zJb).mono ?_
 rintro v _ ⟨rfl,rfl⟩
 refine zR ?_
 refine(zJc n a m c).mono ?_
 rintro v _ ⟨rfl,rfl⟩
 refine zR ?_
 refine(zDA).mono ?_
 rintro v _ ⟨rfl,rfl⟩
 refine zR ?_
 refine(zGZ n w).mono ?_
 rintro v _ ⟨rfl,rfl⟩
 refine zR ?_
 refine(zJd n).mono ?_
 rintro v _ ⟨rfl,rfl⟩
 refine zR ?_
 refine(zJe).mono ?_
 rintro v _ ⟨rfl,rfl⟩
 refine zR ?_
 refine(zG0).mono ?_
 rintro v _ ⟨rfl,rfl⟩
 refine zR ?_
 refine same0.mono ?_
 rintro v M1 ⟨rfl,hle1⟩
 refine zR ?_
 refine(zLa n).mono ?_
 rintro v _ ⟨rfl,rfl⟩
 refine zR ?_
 refine(zJf n).mono ?_
 rintro v _ ⟨rfl,rfl⟩
 refine zR ?_
 refine(zKn).mono ?_
 rintro v _ ⟨rfl,rfl⟩
 refine zR ?_
 refine(zJg).mono ?_
 rintro v _ ⟨rfl,rfl⟩
 refine zR ?_
 refine awake_ok.mono ?_
 rintro v M2 ⟨rfl,hle2⟩
 refine zR ?_
 exact⟨rfl,Mem.le_trans hle1 hle2⟩
end Go.Proofs.YtdogcflaekkdkaaGreat
