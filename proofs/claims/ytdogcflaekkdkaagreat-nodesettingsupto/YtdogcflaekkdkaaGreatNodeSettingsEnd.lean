/- NodeSettings: the program and the document say the same of all settings: for every settings the law returns true. -/
import Derived.Test.YtdogcflaekkdkaaGreatJ20
import Derived.Test.YtdogcflaekkdkaaGreatJ19
import Derived.Test.YtdogcflaekkdkaaGreatJ9
set_option linter.unusedVariables false
set_option linter.unusedSimpArgs false
namespace Go.Proofs.YtdogcflaekkdkaaGreat
open Go.Vm Go.Vm.Rn Go.Vm.Rn.Q
set_option maxRecDepth 100000
section
noncomputable def zmC:List W:=[(.c (.p 70 0))]
noncomputable def zmD:List W:=[(.c (.p 170 0))]
noncomputable def zaz:List W:=[(.c (.p 70 0)),(.c (.p 170 0))]
noncomputable def zKE:T O := .ofs .e [(0,some (.mp [⟨.c (.s [119,48,48,48,48,49]),.c (.p 49 0),0⟩] 1)),(1,some (.row 126 [i 100000,.m 0,.n .i64 (-1),.t false])),(2,some (.mp [⟨.c (.s [119,48,48,48,48,49]),.c (.p 149 0),0⟩] 1)),(3,some (.row 126 [i 100000,.m 2,.n .i64 (-1),.t false])),(6,some (.gr 3 1 [i 1])),(7,some (.mp [] 0)),(8,some (.mp [] 0)),(9,some (.row 182 [i 0,i 64,.g 6 0 0 1,.m 7,.m 8])),(14,some (.mp [] 0)),(15,some (.row 201 [i 50,.m 14])),(16,some (.mp [⟨.ag [i 0,i 1,i 1,i 1],.ag [i 0,i 1,i 1,i 1,.g 245 0 0 1,i 0],0⟩] 1)),(17,some (.row 123 [i 0,i 50,i 2000,i 50,i 1,i 0,i 1,i 0,i 0,i 0,i 0,i 0,i 0,i 0,i 0,i 0,i 0,i 0,i 0,i 0,i 0,i 0,i 0,i 0,i 0,i 0,i 0,i 0,i 0,i 0,i 0,i 0,i 0,i 0,i 0,i 0,i 0,i 0,i 0,i 0,i 0,i 0,i 0,i 0,i 0,i 0,i 0,i 0,i 0,i 0,i 0,i 0,i 0,i 0,i 0,i 0,i 0,i 0,i 0,i 0,i 0,i 0,i 0,i 0,i 0,i 0,i 0,i 0,i 0,.m 16,i 1,i 1,.p 15 0])),(18,some (.row 141 [.p 17 0,.p 1 0,.p 21 0,i 0,.t false,.t false])),(21,some (.row 244 [.p 1 0,i 1,i 1,i 200,.t false])),(49,some (.row 303 [.g 237 0 0 25,i 25])),(57,some (.mp [] 0)),(58,some (.row 188 [i 3,i 0,.m 57])),(59,some (.mp [⟨.c (i 1),.c (.p 69 0),0⟩] 1)),(62,some (.row 237 [i 4,i 0,.nl,i 0])),(63,some (.row 240 [i 4,i 0,.m 64,.m 65])),(64,some (.mp [] 0)),(65,some (.mp [] 0)),(66,some (.row 167 [i 512,.n .i64 (-1),.t false,i 4,i 3,i 3,i 3,i 0,i 0,.t false,.t false,.p 62 0,.p 63 0,.nl,.nl])),(68,some (.row 156 [.t true,.nl,i 0,i 0,i 0,i 0,i 0,.nl])),(69,some (.row 96 [.p 66 0,.p 68 0,i 0,.g 103 0 0 10])),(70,some (.row 91 [i 0,i 50,i 2000,i 50,i 100000,i 200,i 4,i 3,i 3,i 3,i 0,.p 18 0,.m 59,.p 9 0,.p 58 0,.nl,i 0,i 0])),(103,some (.gr 5 1 [u 126,u 3,u 111,u 2,u 0,u 0,u 0,u 203,u 9,u 126])),(106,some (.gr 3 1 [i 0])),(107,some (.mp [] 0)),(108,some (.mp [] 0)),(109,some (.row 182 [i 1,i 64,.g 106 0 0 1,.m 107,.m 108])),(114,some (.mp [] 0)),(115,some (.row 201 [i 50,.m 114])),(116,some (.mp [] 0)),(117,some (.row 123 [i 1,i 50,i 2000,i 50,i 1,i 0,i 0,i 0,i 0,i 0,i 0,i 0,i 0,i 0,i 0,i 0,i 0,i 0,i 0,i 0,i 0,i 0,i 0,i 0,i 0,i 0,i 0,i 0,i 0,i 0,i 0,i 0,i 0,i 0,i 0,i 0,i 0,i 0,i 0,i 0,i 0,i 0,i 0,i 0,i 0,i 0,i 0,i 0,i 0,i 0,i 0,i 0,i 0,i 0,i 0,i 0,i 0,i 0,i 0,i 0,i 0,i 0,i 0,i 0,i 0,i 0,i 0,i 0,i 0,.m 116,i 0,i 0,.p 115 0])),(118,some (.row 141 [.p 117 0,.p 3 0,.p 121 0,i 0,.t false,.t false])),(121,some (.row 244 [.p 3 0,i 1,i 1,i 200,.t false])),(149,some (.row 303 [.g 150 0 0 9,i 9])),(150,some (.gr 5 1 [u 0,u 0,u 0,u 1,u 168,u 62,u 246,u 202,u 1])),(157,some (.mp [] 0)),(158,some (.row 188 [i 3,i 0,.m 157])),(159,some (.mp [⟨.c (i 0),.c (.p 169 0),0⟩] 1)),(162,some (.row 237 [i 4,i 0,.nl,i 0])),(163,some (.row 240 [i 4,i 0,.m 164,.m 165])),(164,some (.mp [] 0)),(165,some (.mp [] 0)),(166,some (.row 167 [i 512,.n .i64 (-1),.t false,i 4,i 3,i 3,i 3,i 0,i 0,.t false,.t false,.p 162 0,.p 163 0,.nl,.nl])),(168,some (.row 156 [.t true,.nl,i 0,i 0,i 0,i 0,i 0,.nl])),(169,some (.row 96 [.p 166 0,.p 168 0,i 0,.g 203 0 0 10])),(170,some (.row 91 [i 1,i 50,i 2000,i 50,i 100000,i 200,i 4,i 3,i 3,i 3,i 0,.p 118 0,.m 159,.p 109 0,.p 158 0,.nl,i 0,i 0])),(203,some (.gr 5 1 [u 126,u 3,u 111,u 2,u 0,u 0,u 0,u 203,u 9,u 126])),(237,some (.gr 5 1 [u 0,u 0,u 0,u 1,u 168,u 62,u 246,u 202,u 1,u 0,u 0,u 0,u 8,u 182,u 13,u 31,u 133,u 2,u 0,u 1,u 0,u 1,u 0,u 1,u 120])),(245,some (.gr 5 1 [u 120]))]
noncomputable def zHf:T O := .ofs zKE [(66,some (.row 167 [i 512,.n .i64 (-1),.t false,i 4,i 3,i 3,i 2,i 0,i 0,.t false,.t false,.p 62 0,.p 63 0,.nl,.nl])),(70,some (.row 91 [i 0,i 50,i 2000,i 50,i 100000,i 200,i 4,i 3,i 3,i 3,i 0,.p 18 0,.m 59,.p 9 0,.p 58 0,.nl,i 1,i 0]))]
noncomputable def nsg0:Stg:=⟨257,zKE,(.c (i 0)),272,zHf⟩
noncomputable def zHg:T O := .ofs zHf [(166,some (.row 167 [i 512,.n .i64 (-1),.t false,i 4,i 3,i 3,i 2,i 0,i 0,.t false,.t false,.p 162 0,.p 163 0,.nl,.nl])),(170,some (.row 91 [i 1,i 50,i 2000,i 50,i 100000,i 200,i 4,i 3,i 3,i 3,i 0,.p 118 0,.m 159,.p 109 0,.p 158 0,.nl,i 1,i 0]))]
noncomputable def nsg1:Stg:=⟨272,zHf,(.c (i 0)),281,zHg⟩
noncomputable def zHh:T O := .ofs zHg [(64,none),(65,none),(103,none),(164,none),(165,none),(203,none),(63,some (.row 240 [i 4,i 0,.m 362,.m 363])),(66,some (.row 167 [i 512,i 512,.t false,i 4,i 3,i 3,i 2,i 0,i 1,.t false,.t false,.p 62 0,.p 63 0,.nl,.nl])),(68,some (.row 156 [.t false,.nl,i 1,i 0,i 0,i 0,i 0,.nl])),(69,some (.row 96 [.p 66 0,.p 68 0,i 1,.g 404 0 0 10])),(163,some (.row 240 [i 4,i 0,.m 303,.m 304])),(166,some (.row 167 [i 512,i 512,.t false,i 4,i 3,i 3,i 2,i 0,i 1,.t false,.t false,.p 162 0,.p 163 0,.nl,.nl])),(168,some (.row 156 [.t false,.nl,i 1,i 0,i 0,i 0,i 0,.nl])),(169,some (.row 96 [.p 166 0,.p 168 0,i 1,.g 339 0 0 10])),(303,some (.mp [] 0)),(304,some (.mp [] 0)),(339,some (.gr 5 1 [u 126,u 3,u 99,u 2,u 0,u 2,u 0,u 75,u 77,u 126])),(362,some (.mp [] 0)),(363,some (.mp [] 0)),(404,some (.gr 5 1 [u 126,u 3,u 99,u 2,u 0,u 2,u 0,u 75,u 77,u 126]))]
noncomputable def nsg2:Stg:=⟨281,zHg,(.tp []),405,zHh⟩
noncomputable def zHi:T O := .ofs zHh [(339,none),(404,none),(66,some (.row 167 [i 512,i 512,.t true,i 4,i 3,i 3,i 0,i 0,i 1,.t false,.t false,.p 62 0,.p 63 0,.nl,.nl])),(68,some (.row 156 [.t false,.nl,i 2,i 0,i 0,i 0,i 0,.nl])),(69,some (.row 96 [.p 66 0,.p 68 0,i 1,.nl])),(166,some (.row 167 [i 512,i 512,.t true,i 4,i 3,i 3,i 0,i 0,i 1,.t false,.t false,.p 162 0,.p 163 0,.nl,.nl])),(168,some (.row 156 [.t false,.nl,i 2,i 0,i 0,i 0,i 0,.nl])),(169,some (.row 96 [.p 166 0,.p 168 0,i 1,.nl]))]
noncomputable def nsg3:Stg:=⟨405,zHh,(.tp []),467,zHi⟩
noncomputable def zHj:T O := .ofs zHi []
noncomputable def nsg4:Stg:=⟨467,zHi,(.tp []),485,zHj⟩
noncomputable def zHk:T O := .ofs zHj [(70,some (.row 91 [i 0,i 50,i 2000,i 50,i 100000,i 200,i 4,i 3,i 3,i 3,i 0,.p 18 0,.m 59,.p 9 0,.p 58 0,.nl,i 2,i 0]))]
noncomputable def nsg5:Stg:=⟨485,zHj,(.c (i 0)),501,zHk⟩
noncomputable def zHl:T O := .ofs zHk [(170,some (.row 91 [i 1,i 50,i 2000,i 50,i 100000,i 200,i 4,i 3,i 3,i 3,i 0,.p 118 0,.m 159,.p 109 0,.p 158 0,.nl,i 2,i 0]))]
noncomputable def nsg6:Stg:=⟨501,zHk,(.c (i 0)),511,zHl⟩
noncomputable def zHm:T O := .ofs zHl []
noncomputable def nsg7:Stg:=⟨511,zHl,(.tp []),529,zHm⟩
noncomputable def zHn:T O := .ofs zHm []
noncomputable def nsg8:Stg:=⟨529,zHm,(.tp []),547,zHn⟩
noncomputable def zHo:T O := .ofs zHn []
noncomputable def nsg9:Stg:=⟨547,zHn,(.tp []),565,zHo⟩
noncomputable def zEr:T O := .ofs zHo [(62,some (.row 237 [i 4,i 0,.g 765 0 0 1,i 1])),(66,some (.row 167 [i 512,i 512,.t true,i 4,i 3,i 3,i 3,i 0,i 1,.t false,.t false,.p 62 0,.p 63 0,.nl,.nl])),(69,some (.row 96 [.p 66 0,.p 68 0,i 1,.g 874 0 0 76])),(70,some (.row 91 [i 0,i 50,i 2000,i 50,i 100000,i 200,i 4,i 3,i 3,i 3,i 0,.p 18 0,.m 59,.p 9 0,.p 58 0,.nl,i 3,i 0])),(764,some (.gr 5 1 [u 4,u 0,u 16,u 16,u 16,u 16,u 16,u 16,u 16,u 16,u 16,u 16,u 16,u 16,u 16,u 16,u 16,u 16,u 16,u 16,u 16,u 16,u 16,u 16,u 16,u 16,u 16,u 16,u 16,u 16,u 16,u 16,u 16,u 16,u 16,u 16,u 16,u 16,u 16,u 16,u 16,u 16,u 16,u 16,u 16,u 16,u 16,u 16,u 16,u 16,u 16,u 16,u 16,u 16,u 16,u 16,u 16,u 16,u 16,u 16,u 16,u 16,u 16,u 16,u 16])),(765,some (.gr 30 1 [.g 764 0 0 65])),(874,some (.gr 5 1 [u 126,u 3,u 0,u 0,u 2,u 0,u 2,u 0,u 4,u 0,u 16,u 16,u 16,u 16,u 16,u 16,u 16,u 16,u 16,u 16,u 16,u 16,u 16,u 16,u 16,u 16,u 16,u 16,u 16,u 16,u 16,u 16,u 16,u 16,u 16,u 16,u 16,u 16,u 16,u 16,u 16,u 16,u 16,u 16,u 16,u 16,u 16,u 16,u 16,u 16,u 16,u 16,u 16,u 16,u 16,u 16,u 16,u 16,u 16,u 16,u 16,u 16,u 16,u 16,u 16,u 16,u 16,u 16,u 16,u 16,u 16,u 16,u 16,u 6,u 20,u 126]))]
noncomputable def nsg10:Stg:=⟨565,zHo,(.c (i 0)),875,zEr⟩
noncomputable def zEs:T O := .ofs zEr [(162,some (.row 237 [i 4,i 0,.g 1075 0 0 1,i 1])),(166,some (.row 167 [i 512,i 512,.t true,i 4,i 3,i 3,i 3,i 0,i 1,.t false,.t false,.p 162 0,.p 163 0,.nl,.nl])),(169,some (.row 96 [.p 166 0,.p 168 0,i 1,.g 1178 0 0 76])),(170,some (.row 91 [i 1,i 50,i 2000,i 50,i 100000,i 200,i 4,i 3,i 3,i 3,i 0,.p 118 0,.m 159,.p 109 0,.p 158 0,.nl,i 3,i 0])),(1074,some (.gr 5 1 [u 4,u 16,u 0,u 16,u 16,u 16,u 16,u 16,u 16,u 16,u 16,u 16,u 16,u 16,u 16,u 16,u 16,u 16,u 16,u 16,u 16,u 16,u 16,u 16,u 16,u 16,u 16,u 16,u 16,u 16,u 16,u 16,u 16,u 16,u 16,u 16,u 16,u 16,u 16,u 16,u 16,u 16,u 16,u 16,u 16,u 16,u 16,u 16,u 16,u 16,u 16,u 16,u 16,u 16,u 16,u 16,u 16,u 16,u 16,u 16,u 16,u 16,u 16,u 16,u 16])),(1075,some (.gr 30 1 [.g 1074 0 0 65])),(1178,some (.gr 5 1 [u 126,u 3,u 0,u 0,u 2,u 0,u 2,u 0,u 4,u 16,u 0,u 16,u 16,u 16,u 16,u 16,u 16,u 16,u 16,u 16,u 16,u 16,u 16,u 16,u 16,u 16,u 16,u 16,u 16,u 16,u 16,u 16,u 16,u 16,u 16,u 16,u 16,u 16,u 16,u 16,u 16,u 16,u 16,u 16,u 16,u 16,u 16,u 16,u 16,u 16,u 16,u 16,u 16,u 16,u 16,u 16,u 16,u 16,u 16,u 16,u 16,u 16,u 16,u 16,u 16,u 16,u 16,u 16,u 16,u 16,u 16,u 16,u 16,u 182,u 121,u 126]))]
noncomputable def nsg11:Stg:=⟨875,zEr,(.c (i 0)),1179,zEs⟩
noncomputable def zEt:T O := .ofs zEs [(765,none),(874,none),(1178,none),(8,some (.mp [⟨.c (i 1),.ag [i 16,i 0,i 16,i 16,i 16,i 16,i 16,i 16,i 16,i 16,i 16,i 16,i 16,i 16,i 16,i 16,i 16,i 16,i 16,i 16,i 16,i 16,i 16,i 16,i 16,i 16,i 16,i 16,i 16,i 16,i 16,i 16,i 16,i 16,i 16,i 16,i 16,i 16,i 16,i 16,i 16,i 16,i 16,i 16,i 16,i 16,i 16,i 16,i 16,i 16,i 16,i 16,i 16,i 16,i 16,i 16,i 16,i 16,i 16,i 16,i 16,i 16,i 16,i 16,i 64],0⟩] 1)),(57,some (.mp [⟨.ag [i 0,i 1,i 1,i 1],.ag [i 1,i 0,i 0,i 0],0⟩] 1)),(58,some (.row 188 [i 3,i 1,.m 57])),(62,some (.row 237 [i 4,i 0,.g 1693 0 0 2,i 2])),(63,some (.row 240 [i 4,i 1,.m 362,.m 363])),(68,some (.row 156 [.t false,.nl,i 3,i 0,i 0,i 0,i 0,.nl])),(69,some (.row 96 [.p 66 0,.p 68 0,i 1,.g 1766 0 0 32])),(108,some (.mp [⟨.c (i 0),.ag [i 0,i 16,i 16,i 16,i 16,i 16,i 16,i 16,i 16,i 16,i 16,i 16,i 16,i 16,i 16,i 16,i 16,i 16,i 16,i 16,i 16,i 16,i 16,i 16,i 16,i 16,i 16,i 16,i 16,i 16,i 16,i 16,i 16,i 16,i 16,i 16,i 16,i 16,i 16,i 16,i 16,i 16,i 16,i 16,i 16,i 16,i 16,i 16,i 16,i 16,i 16,i 16,i 16,i 16,i 16,i 16,i 16,i 16,i 16,i 16,i 16,i 16,i 16,i 16,i 64],0⟩] 1)),(163,some (.row 240 [i 4,i 1,.m 303,.m 304])),(168,some (.row 156 [.t false,.nl,i 3,i 0,i 0,i 0,i 0,.nl])),(169,some (.row 96 [.p 166 0,.p 168 0,i 1,.g 1437 0 0 11])),(303,some (.mp [] 1)),(362,some (.mp [] 1)),(1437,some (.gr 5 1 [u 126,u 3,u 1,u 2,u 2,u 0,u 2,u 0,u 123,u 60,u 126])),(1692,some (.gr 5 1 [u 1,u 0,u 0,u 0,u 1,u 0,u 1,u 0,u 1,u 120])),(1693,some (.gr 30 1 [.g 764 0 0 65,.g 1692 0 0 10])),(1766,some (.gr 5 1 [u 126,u 3,u 1,u 2,u 2,u 0,u 2,u 0,u 123,u 60,u 126,u 126,u 3,u 2,u 2,u 2,u 0,u 2,u 0,u 1,u 0,u 0,u 0,u 1,u 0,u 1,u 0,u 1,u 120,u 167,u 81,u 126]))]
noncomputable def nsg12:Stg:=⟨1179,zEs,(.tp []),1767,zEt⟩
noncomputable def zEu:T O := .ofs zEt [(150,none),(764,none),(1074,none),(1075,none),(1437,none),(1766,none),(62,some (.row 237 [i 4,i 1,.g 1693 1 1 1,i 1])),(68,some (.row 156 [.t false,.nl,i 4,i 0,i 0,i 0,i 0,.nl])),(69,some (.row 96 [.p 66 0,.p 68 0,i 1,.nl])),(114,some (.mp [⟨.ag [i 0,i 1],.c (.p 1888 0),0⟩] 1)),(149,some (.row 303 [.g 1877 0 0 24,i 24])),(162,some (.row 237 [i 4,i 1,.g 1910 0 0 1,i 1])),(163,some (.row 240 [i 4,i 2,.m 303,.m 304])),(168,some (.row 156 [.t false,.nl,i 5,i 0,i 0,i 0,i 0,.nl])),(169,some (.row 96 [.p 166 0,.p 168 0,i 1,.g 1986 0 0 31])),(170,some (.row 91 [i 1,i 50,i 2000,i 50,i 100000,i 200,i 4,i 3,i 3,i 3,i 0,.p 118 0,.m 159,.p 109 0,.p 158 0,.g 1891 0 0 1,i 3,i 0])),(303,some (.mp [] 2)),(1693,some (.gr 30 1 [.nl,.g 1692 0 0 10])),(1842,some (.gr 5 1 [u 120])),(1877,some (.gr 5 1 [u 0,u 0,u 0,u 1,u 168,u 62,u 246,u 202,u 1,u 0,u 0,u 0,u 7,u 222,u 168,u 239,u 247,u 4,u 0,u 1,u 0,u 1,u 0,u 1])),(1888,some (.row 277 [i 1,.l 1890 0 0 0])),(1890,some (.gr 3 1 [i 1])),(1891,some (.gr 78 5 [i 0,i 1,i 1,i 1,.g 1842 0 0 1])),(1909,some (.gr 5 1 [u 2,u 0,u 0,u 0,u 1,u 0,u 1,u 0,u 1])),(1910,some (.gr 30 1 [.g 1909 0 0 9])),(1986,some (.gr 5 1 [u 126,u 3,u 1,u 4,u 2,u 0,u 2,u 0,u 227,u 7,u 126,u 126,u 3,u 2,u 4,u 2,u 0,u 2,u 0,u 2,u 0,u 0,u 0,u 1,u 0,u 1,u 0,u 1,u 246,u 45,u 126]))]
noncomputable def nsg13:Stg:=⟨1767,zEt,(.tp []),2024,zEu⟩
noncomputable def zEv:T O := .ofs zEu [(237,none),(245,none),(1692,none),(1986,none),(16,some (.mp [] 1)),(17,some (.row 123 [i 0,i 50,i 2000,i 50,i 1,i 0,i 1,i 0,i 0,i 0,i 0,i 0,i 0,i 0,i 0,i 0,i 0,i 0,i 0,i 0,i 0,i 0,i 0,i 0,i 0,i 0,i 0,i 0,i 0,i 0,i 0,i 0,i 0,i 0,i 0,i 0,i 0,i 0,i 0,i 0,i 0,i 0,i 0,i 0,i 0,i 0,i 0,i 0,i 0,i 0,i 0,i 0,i 0,i 0,i 0,i 0,i 0,i 0,i 0,i 0,i 0,i 0,i 0,i 0,i 0,i 0,i 0,i 0,i 0,.m 16,i 1,i 0,.p 15 0])),(49,some (.row 303 [.g 2133 0 0 40,i 25])),(57,some (.mp [] 1)),(62,some (.row 237 [i 4,i 2,.h 1693 1 1 1 1 false,i 0])),(63,some (.row 240 [i 4,i 2,.m 362,.m 363])),(66,some (.row 167 [i 512,i 512,.t true,i 4,i 3,i 3,i 0,i 0,i 1,.t false,.t false,.p 62 0,.p 63 0,.nl,.nl])),(68,some (.row 156 [.t false,.nl,i 6,i 0,i 0,i 0,i 0,.nl])),(69,some (.row 96 [.p 66 0,.p 68 0,i 1,.g 2168 0 0 11])),(169,some (.row 96 [.p 166 0,.p 168 0,i 1,.nl])),(362,some (.mp [] 2)),(1693,some (.gr 30 1 [.nl,.nl])),(2133,some (.gr 5 1 [u 0,u 0,u 0,u 1,u 168,u 62,u 246,u 202,u 1,u 0,u 0,u 0,u 8,u 182,u 13,u 31,u 133,u 2,u 0,u 1,u 0,u 1,u 0,u 1,u 120,u 0,u 0,u 0,u 7,u 27,u 15,u 209,u 121,u 3,u 0,u 1,u 0,u 1,u 0,u 1])),(2168,some (.gr 5 1 [u 126,u 3,u 1,u 4,u 2,u 0,u 2,u 0,u 227,u 7,u 126]))]
noncomputable def nsg14:Stg:=⟨2024,zEu,(.tp []),2169,zEv⟩
noncomputable def zEw:T O := .ofs zEv [(8,some (.mp [⟨.c (i 1),.ag [i 16,i 0,i 16,i 16,i 16,i 16,i 16,i 16,i 16,i 16,i 16,i 16,i 16,i 16,i 16,i 16,i 16,i 16,i 16,i 16,i 16,i 16,i 16,i 16,i 16,i 16,i 16,i 16,i 16,i 16,i 16,i 16,i 16,i 16,i 16,i 16,i 16,i 16,i 16,i 16,i 16,i 16,i 16,i 16,i 16,i 16,i 16,i 16,i 16,i 16,i 16,i 16,i 16,i 16,i 16,i 16,i 16,i 16,i 16,i 16,i 16,i 16,i 16,i 16,i 63],0⟩] 1)),(70,some (.row 91 [i 0,i 50,i 2000,i 50,i 100000,i 200,i 4,i 3,i 3,i 3,i 0,.p 18 0,.m 59,.p 9 0,.p 58 0,.nl,i 4,i 0]))]
noncomputable def nsg15:Stg:=⟨2169,zEv,(.c (i 0)),2180,zEw⟩
noncomputable def zEx:T O := .ofs zEw [(108,some (.mp [⟨.c (i 0),.ag [i 0,i 16,i 16,i 16,i 16,i 16,i 16,i 16,i 16,i 16,i 16,i 16,i 16,i 16,i 16,i 16,i 16,i 16,i 16,i 16,i 16,i 16,i 16,i 16,i 16,i 16,i 16,i 16,i 16,i 16,i 16,i 16,i 16,i 16,i 16,i 16,i 16,i 16,i 16,i 16,i 16,i 16,i 16,i 16,i 16,i 16,i 16,i 16,i 16,i 16,i 16,i 16,i 16,i 16,i 16,i 16,i 16,i 16,i 16,i 16,i 16,i 16,i 16,i 16,i 63],0⟩] 1)),(166,some (.row 167 [i 512,i 512,.t true,i 4,i 3,i 3,i 2,i 0,i 1,.t false,.t false,.p 162 0,.p 163 0,.nl,.nl])),(170,some (.row 91 [i 1,i 50,i 2000,i 50,i 100000,i 200,i 4,i 3,i 3,i 3,i 0,.p 118 0,.m 159,.p 109 0,.p 158 0,.g 1891 0 0 1,i 4,i 0]))]
noncomputable def nsg16:Stg:=⟨2180,zEw,(.c (i 0)),2191,zEx⟩
noncomputable def zEy:T O := .ofs zEx [(1909,none),(2168,none),(69,some (.row 96 [.p 66 0,.p 68 0,i 1,.nl])),(162,some (.row 237 [i 4,i 2,.h 1910 0 0 1 1 false,i 0])),(166,some (.row 167 [i 512,i 512,.t true,i 4,i 3,i 3,i 0,i 0,i 1,.t false,.t false,.p 162 0,.p 163 0,.nl,.nl])),(168,some (.row 156 [.t false,.nl,i 6,i 0,i 0,i 0,i 0,.nl])),(1910,some (.gr 30 1 [.nl]))]
noncomputable def nsg17:Stg:=⟨2191,zEx,(.tp []),2227,zEy⟩
noncomputable def zEz:T O := .ofs zEy []
noncomputable def nsg18:Stg:=⟨2227,zEy,(.tp []),2239,zEz⟩
noncomputable def zEA:T O := .ofs zEz []
noncomputable def nsg19:Stg:=⟨2239,zEz,(.tp []),2251,zEA⟩
noncomputable def zEB:T O := .ofs zEA [(8,some (.mp [⟨.c (i 1),.ag [i 16,i 0,i 16,i 16,i 16,i 16,i 16,i 16,i 16,i 16,i 16,i 16,i 16,i 16,i 16,i 16,i 16,i 16,i 16,i 16,i 16,i 16,i 16,i 16,i 16,i 16,i 16,i 16,i 16,i 16,i 16,i 16,i 16,i 16,i 16,i 16,i 16,i 16,i 16,i 16,i 16,i 16,i 16,i 16,i 16,i 16,i 16,i 16,i 16,i 16,i 16,i 16,i 16,i 16,i 16,i 16,i 16,i 16,i 16,i 16,i 16,i 16,i 16,i 16,i 62],0⟩] 1)),(70,some (.row 91 [i 0,i 50,i 2000,i 50,i 100000,i 200,i 4,i 3,i 3,i 3,i 0,.p 18 0,.m 59,.p 9 0,.p 58 0,.nl,i 5,i 0]))]
noncomputable def nsg20:Stg:=⟨2251,zEA,(.c (i 0)),2262,zEB⟩
noncomputable def zEC:T O := .ofs zEB [(108,some (.mp [⟨.c (i 0),.ag [i 0,i 16,i 16,i 16,i 16,i 16,i 16,i 16,i 16,i 16,i 16,i 16,i 16,i 16,i 16,i 16,i 16,i 16,i 16,i 16,i 16,i 16,i 16,i 16,i 16,i 16,i 16,i 16,i 16,i 16,i 16,i 16,i 16,i 16,i 16,i 16,i 16,i 16,i 16,i 16,i 16,i 16,i 16,i 16,i 16,i 16,i 16,i 16,i 16,i 16,i 16,i 16,i 16,i 16,i 16,i 16,i 16,i 16,i 16,i 16,i 16,i 16,i 16,i 16,i 62],0⟩] 1)),(170,some (.row 91 [i 1,i 50,i 2000,i 50,i 100000,i 200,i 4,i 3,i 3,i 3,i 0,.p 118 0,.m 159,.p 109 0,.p 158 0,.g 1891 0 0 1,i 5,i 0]))]
noncomputable def nsg21:Stg:=⟨2262,zEB,(.c (i 0)),2273,zEC⟩
noncomputable def zED:T O := .ofs zEC []
noncomputable def nsg22:Stg:=⟨2273,zEC,(.tp []),2285,zED⟩
noncomputable def zEE:T O := .ofs zED []
noncomputable def nsg23:Stg:=⟨2285,zED,(.tp []),2297,zEE⟩
noncomputable def zEF:T O := .ofs zEE []
noncomputable def nsg24:Stg:=⟨2297,zEE,(.tp []),2309,zEF⟩
noncomputable def zEG:T O := .ofs zEF [(1693,none),(8,some (.mp [⟨.c (i 1),.ag [i 16,i 0,i 16,i 16,i 16,i 16,i 16,i 16,i 16,i 16,i 16,i 16,i 16,i 16,i 16,i 16,i 16,i 16,i 16,i 16,i 16,i 16,i 16,i 16,i 16,i 16,i 16,i 16,i 16,i 16,i 16,i 16,i 16,i 16,i 16,i 16,i 16,i 16,i 16,i 16,i 16,i 16,i 16,i 16,i 16,i 16,i 16,i 16,i 16,i 16,i 16,i 16,i 16,i 16,i 16,i 16,i 16,i 16,i 16,i 16,i 16,i 16,i 16,i 16,i 61],0⟩] 1)),(62,some (.row 237 [i 4,i 2,.g 2510 0 0 1,i 1])),(66,some (.row 167 [i 512,i 512,.t true,i 4,i 3,i 3,i 3,i 0,i 1,.t false,.t false,.p 62 0,.p 63 0,.nl,.nl])),(69,some (.row 96 [.p 66 0,.p 68 0,i 1,.g 2613 0 0 76])),(70,some (.row 91 [i 0,i 50,i 2000,i 50,i 100000,i 200,i 4,i 3,i 3,i 3,i 0,.p 18 0,.m 59,.p 9 0,.p 58 0,.nl,i 6,i 0])),(2509,some (.gr 5 1 [u 4,u 0,u 16,u 16,u 16,u 16,u 16,u 16,u 16,u 16,u 16,u 16,u 16,u 16,u 16,u 16,u 16,u 16,u 16,u 16,u 16,u 16,u 16,u 16,u 16,u 16,u 16,u 16,u 16,u 16,u 16,u 16,u 16,u 16,u 16,u 16,u 16,u 16,u 16,u 16,u 16,u 16,u 16,u 16,u 16,u 16,u 16,u 16,u 16,u 16,u 16,u 16,u 16,u 16,u 16,u 16,u 16,u 16,u 16,u 16,u 16,u 16,u 16,u 16,u 16])),(2510,some (.gr 30 1 [.g 2509 0 0 65])),(2613,some (.gr 5 1 [u 126,u 3,u 4,u 4,u 2,u 0,u 2,u 0,u 4,u 0,u 16,u 16,u 16,u 16,u 16,u 16,u 16,u 16,u 16,u 16,u 16,u 16,u 16,u 16,u 16,u 16,u 16,u 16,u 16,u 16,u 16,u 16,u 16,u 16,u 16,u 16,u 16,u 16,u 16,u 16,u 16,u 16,u 16,u 16,u 16,u 16,u 16,u 16,u 16,u 16,u 16,u 16,u 16,u 16,u 16,u 16,u 16,u 16,u 16,u 16,u 16,u 16,u 16,u 16,u 16,u 16,u 16,u 16,u 16,u 16,u 16,u 16,u 16,u 140,u 110,u 126]))]
noncomputable def nsg25:Stg:=⟨2309,zEF,(.c (i 0)),2614,zEG⟩
noncomputable def zEH:T O := .ofs zEG [(1910,none),(108,some (.mp [⟨.c (i 0),.ag [i 0,i 16,i 16,i 16,i 16,i 16,i 16,i 16,i 16,i 16,i 16,i 16,i 16,i 16,i 16,i 16,i 16,i 16,i 16,i 16,i 16,i 16,i 16,i 16,i 16,i 16,i 16,i 16,i 16,i 16,i 16,i 16,i 16,i 16,i 16,i 16,i 16,i 16,i 16,i 16,i 16,i 16,i 16,i 16,i 16,i 16,i 16,i 16,i 16,i 16,i 16,i 16,i 16,i 16,i 16,i 16,i 16,i 16,i 16,i 16,i 16,i 16,i 16,i 16,i 61],0⟩] 1)),(162,some (.row 237 [i 4,i 2,.g 2815 0 0 1,i 1])),(166,some (.row 167 [i 512,i 512,.t true,i 4,i 3,i 3,i 3,i 0,i 1,.t false,.t false,.p 162 0,.p 163 0,.nl,.nl])),(169,some (.row 96 [.p 166 0,.p 168 0,i 1,.g 2918 0 0 76])),(170,some (.row 91 [i 1,i 50,i 2000,i 50,i 100000,i 200,i 4,i 3,i 3,i 3,i 0,.p 118 0,.m 159,.p 109 0,.p 158 0,.g 1891 0 0 1,i 6,i 0])),(2814,some (.gr 5 1 [u 4,u 16,u 0,u 16,u 16,u 16,u 16,u 16,u 16,u 16,u 16,u 16,u 16,u 16,u 16,u 16,u 16,u 16,u 16,u 16,u 16,u 16,u 16,u 16,u 16,u 16,u 16,u 16,u 16,u 16,u 16,u 16,u 16,u 16,u 16,u 16,u 16,u 16,u 16,u 16,u 16,u 16,u 16,u 16,u 16,u 16,u 16,u 16,u 16,u 16,u 16,u 16,u 16,u 16,u 16,u 16,u 16,u 16,u 16,u 16,u 16,u 16,u 16,u 16,u 16])),(2815,some (.gr 30 1 [.g 2814 0 0 65])),(2918,some (.gr 5 1 [u 126,u 3,u 4,u 4,u 2,u 0,u 2,u 0,u 4,u 16,u 0,u 16,u 16,u 16,u 16,u 16,u 16,u 16,u 16,u 16,u 16,u 16,u 16,u 16,u 16,u 16,u 16,u 16,u 16,u 16,u 16,u 16,u 16,u 16,u 16,u 16,u 16,u 16,u 16,u 16,u 16,u 16,u 16,u 16,u 16,u 16,u 16,u 16,u 16,u 16,u 16,u 16,u 16,u 16,u 16,u 16,u 16,u 16,u 16,u 16,u 16,u 16,u 16,u 16,u 16,u 16,u 16,u 16,u 16,u 16,u 16,u 16,u 16,u 60,u 3,u 126]))]
noncomputable def nsg26:Stg:=⟨2614,zEG,(.c (i 0)),2919,zEH⟩
noncomputable def zEI:T O := .ofs zEH [(2613,none),(2918,none),(8,some (.mp [⟨.c (i 1),.ag [i 16,i 0,i 16,i 16,i 16,i 16,i 16,i 16,i 16,i 16,i 16,i 16,i 16,i 16,i 16,i 16,i 16,i 16,i 16,i 16,i 16,i 16,i 16,i 16,i 16,i 16,i 16,i 16,i 16,i 16,i 16,i 16,i 16,i 16,i 16,i 16,i 16,i 16,i 16,i 16,i 16,i 16,i 16,i 16,i 16,i 16,i 16,i 16,i 16,i 16,i 16,i 16,i 16,i 16,i 16,i 16,i 16,i 16,i 16,i 16,i 16,i 16,i 16,i 16,i 64],0⟩] 1)),(63,some (.row 240 [i 4,i 3,.m 362,.m 363])),(68,some (.row 156 [.t false,.nl,i 7,i 0,i 0,i 0,i 0,.nl])),(69,some (.row 96 [.p 66 0,.p 68 0,i 1,.g 3436 0 0 11])),(108,some (.mp [⟨.c (i 0),.ag [i 0,i 16,i 16,i 16,i 16,i 16,i 16,i 16,i 16,i 16,i 16,i 16,i 16,i 16,i 16,i 16,i 16,i 16,i 16,i 16,i 16,i 16,i 16,i 16,i 16,i 16,i 16,i 16,i 16,i 16,i 16,i 16,i 16,i 16,i 16,i 16,i 16,i 16,i 16,i 16,i 16,i 16,i 16,i 16,i 16,i 16,i 16,i 16,i 16,i 16,i 16,i 16,i 16,i 16,i 16,i 16,i 16,i 16,i 16,i 16,i 16,i 16,i 16,i 16,i 64],0⟩] 1)),(163,some (.row 240 [i 4,i 3,.m 303,.m 304])),(168,some (.row 156 [.t false,.nl,i 7,i 0,i 0,i 0,i 0,.nl])),(169,some (.row 96 [.p 166 0,.p 168 0,i 1,.g 3177 0 0 11])),(303,some (.mp [] 3)),(362,some (.mp [] 3)),(3177,some (.gr 5 1 [u 126,u 3,u 1,u 6,u 2,u 0,u 2,u 0,u 107,u 17,u 126])),(3436,some (.gr 5 1 [u 126,u 3,u 1,u 6,u 2,u 0,u 2,u 0,u 107,u 17,u 126]))]
noncomputable def nsg27:Stg:=⟨2919,zEH,(.tp []),3437,zEI⟩
noncomputable def zEJ:T O := .ofs zEI [(2509,none),(2814,none),(3177,none),(3436,none),(62,some (.row 237 [i 4,i 3,.h 2510 0 0 1 1 false,i 0])),(66,some (.row 167 [i 512,i 512,.t true,i 4,i 3,i 3,i 0,i 0,i 1,.t false,.t false,.p 62 0,.p 63 0,.nl,.nl])),(68,some (.row 156 [.t false,.nl,i 8,i 0,i 0,i 0,i 0,.nl])),(69,some (.row 96 [.p 66 0,.p 68 0,i 1,.nl])),(162,some (.row 237 [i 4,i 3,.h 2815 0 0 1 1 false,i 0])),(166,some (.row 167 [i 512,i 512,.t true,i 4,i 3,i 3,i 0,i 0,i 1,.t false,.t false,.p 162 0,.p 163 0,.nl,.nl])),(168,some (.row 156 [.t false,.nl,i 8,i 0,i 0,i 0,i 0,.nl])),(169,some (.row 96 [.p 166 0,.p 168 0,i 1,.nl])),(2510,some (.gr 30 1 [.nl])),(2815,some (.gr 30 1 [.nl]))]
noncomputable def nsg28:Stg:=⟨3437,zEI,(.tp []),3497,zEJ⟩
noncomputable def zEK:T O := .ofs zEJ []
noncomputable def nsg29:Stg:=⟨3497,zEJ,(.tp []),3509,zEK⟩
noncomputable def zEL:T O := .ofs zEK [(8,some (.mp [⟨.c (i 1),.ag [i 16,i 0,i 16,i 16,i 16,i 16,i 16,i 16,i 16,i 16,i 16,i 16,i 16,i 16,i 16,i 16,i 16,i 16,i 16,i 16,i 16,i 16,i 16,i 16,i 16,i 16,i 16,i 16,i 16,i 16,i 16,i 16,i 16,i 16,i 16,i 16,i 16,i 16,i 16,i 16,i 16,i 16,i 16,i 16,i 16,i 16,i 16,i 16,i 16,i 16,i 16,i 16,i 16,i 16,i 16,i 16,i 16,i 16,i 16,i 16,i 16,i 16,i 16,i 16,i 63],0⟩] 1)),(70,some (.row 91 [i 0,i 50,i 2000,i 50,i 100000,i 200,i 4,i 3,i 3,i 3,i 0,.p 18 0,.m 59,.p 9 0,.p 58 0,.nl,i 7,i 0]))]
noncomputable def nsg30:Stg:=⟨3509,zEK,(.c (i 0)),3520,zEL⟩
noncomputable def zEM:T O := .ofs zEL [(108,some (.mp [⟨.c (i 0),.ag [i 0,i 16,i 16,i 16,i 16,i 16,i 16,i 16,i 16,i 16,i 16,i 16,i 16,i 16,i 16,i 16,i 16,i 16,i 16,i 16,i 16,i 16,i 16,i 16,i 16,i 16,i 16,i 16,i 16,i 16,i 16,i 16,i 16,i 16,i 16,i 16,i 16,i 16,i 16,i 16,i 16,i 16,i 16,i 16,i 16,i 16,i 16,i 16,i 16,i 16,i 16,i 16,i 16,i 16,i 16,i 16,i 16,i 16,i 16,i 16,i 16,i 16,i 16,i 16,i 63],0⟩] 1)),(170,some (.row 91 [i 1,i 50,i 2000,i 50,i 100000,i 200,i 4,i 3,i 3,i 3,i 0,.p 118 0,.m 159,.p 109 0,.p 158 0,.g 1891 0 0 1,i 7,i 0]))]
noncomputable def nsg31:Stg:=⟨3520,zEL,(.c (i 0)),3531,zEM⟩
noncomputable def zEN:T O := .ofs zEM []
noncomputable def nsg32:Stg:=⟨3531,zEM,(.tp []),3543,zEN⟩
noncomputable def zEO:T O := .ofs zEN []
noncomputable def nsg33:Stg:=⟨3543,zEN,(.tp []),3555,zEO⟩
noncomputable def zEP:T O := .ofs zEO []
noncomputable def nsg34:Stg:=⟨3555,zEO,(.tp []),3567,zEP⟩
noncomputable def zEQ:T O := .ofs zEP [(8,some (.mp [⟨.c (i 1),.ag [i 16,i 0,i 16,i 16,i 16,i 16,i 16,i 16,i 16,i 16,i 16,i 16,i 16,i 16,i 16,i 16,i 16,i 16,i 16,i 16,i 16,i 16,i 16,i 16,i 16,i 16,i 16,i 16,i 16,i 16,i 16,i 16,i 16,i 16,i 16,i 16,i 16,i 16,i 16,i 16,i 16,i 16,i 16,i 16,i 16,i 16,i 16,i 16,i 16,i 16,i 16,i 16,i 16,i 16,i 16,i 16,i 16,i 16,i 16,i 16,i 16,i 16,i 16,i 16,i 62],0⟩] 1)),(70,some (.row 91 [i 0,i 50,i 2000,i 50,i 100000,i 200,i 4,i 3,i 3,i 3,i 0,.p 18 0,.m 59,.p 9 0,.p 58 0,.nl,i 8,i 0]))]
noncomputable def nsg35:Stg:=⟨3567,zEP,(.c (i 0)),3578,zEQ⟩
noncomputable def zER:T O := .ofs zEQ [(108,some (.mp [⟨.c (i 0),.ag [i 0,i 16,i 16,i 16,i 16,i 16,i 16,i 16,i 16,i 16,i 16,i 16,i 16,i 16,i 16,i 16,i 16,i 16,i 16,i 16,i 16,i 16,i 16,i 16,i 16,i 16,i 16,i 16,i 16,i 16,i 16,i 16,i 16,i 16,i 16,i 16,i 16,i 16,i 16,i 16,i 16,i 16,i 16,i 16,i 16,i 16,i 16,i 16,i 16,i 16,i 16,i 16,i 16,i 16,i 16,i 16,i 16,i 16,i 16,i 16,i 16,i 16,i 16,i 16,i 62],0⟩] 1)),(170,some (.row 91 [i 1,i 50,i 2000,i 50,i 100000,i 200,i 4,i 3,i 3,i 3,i 0,.p 118 0,.m 159,.p 109 0,.p 158 0,.g 1891 0 0 1,i 8,i 0]))]
noncomputable def nsg36:Stg:=⟨3578,zEQ,(.c (i 0)),3589,zER⟩
noncomputable def zES:T O := .ofs zER []
noncomputable def nsg37:Stg:=⟨3589,zER,(.tp []),3601,zES⟩
noncomputable def zET:T O := .ofs zES []
noncomputable def nsg38:Stg:=⟨3601,zES,(.tp []),3613,zET⟩
noncomputable def zEU:T O := .ofs zET []
noncomputable def nsg39:Stg:=⟨3613,zET,(.tp []),3625,zEU⟩
noncomputable def zEV:T O := .ofs zEU [(2510,none),(8,some (.mp [⟨.c (i 1),.ag [i 16,i 0,i 16,i 16,i 16,i 16,i 16,i 16,i 16,i 16,i 16,i 16,i 16,i 16,i 16,i 16,i 16,i 16,i 16,i 16,i 16,i 16,i 16,i 16,i 16,i 16,i 16,i 16,i 16,i 16,i 16,i 16,i 16,i 16,i 16,i 16,i 16,i 16,i 16,i 16,i 16,i 16,i 16,i 16,i 16,i 16,i 16,i 16,i 16,i 16,i 16,i 16,i 16,i 16,i 16,i 16,i 16,i 16,i 16,i 16,i 16,i 16,i 16,i 16,i 61],0⟩] 1)),(62,some (.row 237 [i 4,i 3,.g 3826 0 0 1,i 1])),(66,some (.row 167 [i 512,i 512,.t true,i 4,i 3,i 3,i 3,i 0,i 1,.t false,.t false,.p 62 0,.p 63 0,.nl,.nl])),(69,some (.row 96 [.p 66 0,.p 68 0,i 1,.g 3929 0 0 76])),(70,some (.row 91 [i 0,i 50,i 2000,i 50,i 100000,i 200,i 4,i 3,i 3,i 3,i 0,.p 18 0,.m 59,.p 9 0,.p 58 0,.nl,i 9,i 0])),(3825,some (.gr 5 1 [u 4,u 0,u 16,u 16,u 16,u 16,u 16,u 16,u 16,u 16,u 16,u 16,u 16,u 16,u 16,u 16,u 16,u 16,u 16,u 16,u 16,u 16,u 16,u 16,u 16,u 16,u 16,u 16,u 16,u 16,u 16,u 16,u 16,u 16,u 16,u 16,u 16,u 16,u 16,u 16,u 16,u 16,u 16,u 16,u 16,u 16,u 16,u 16,u 16,u 16,u 16,u 16,u 16,u 16,u 16,u 16,u 16,u 16,u 16,u 16,u 16,u 16,u 16,u 16,u 16])),(3826,some (.gr 30 1 [.g 3825 0 0 65])),(3929,some (.gr 5 1 [u 126,u 3,u 6,u 6,u 2,u 0,u 2,u 0,u 4,u 0,u 16,u 16,u 16,u 16,u 16,u 16,u 16,u 16,u 16,u 16,u 16,u 16,u 16,u 16,u 16,u 16,u 16,u 16,u 16,u 16,u 16,u 16,u 16,u 16,u 16,u 16,u 16,u 16,u 16,u 16,u 16,u 16,u 16,u 16,u 16,u 16,u 16,u 16,u 16,u 16,u 16,u 16,u 16,u 16,u 16,u 16,u 16,u 16,u 16,u 16,u 16,u 16,u 16,u 16,u 16,u 16,u 16,u 16,u 16,u 16,u 16,u 16,u 16,u 201,u 83,u 126]))]
noncomputable def nsg40:Stg:=⟨3625,zEU,(.c (i 0)),3930,zEV⟩
noncomputable def zEW:T O := .ofs zEV [(2815,none),(108,some (.mp [⟨.c (i 0),.ag [i 0,i 16,i 16,i 16,i 16,i 16,i 16,i 16,i 16,i 16,i 16,i 16,i 16,i 16,i 16,i 16,i 16,i 16,i 16,i 16,i 16,i 16,i 16,i 16,i 16,i 16,i 16,i 16,i 16,i 16,i 16,i 16,i 16,i 16,i 16,i 16,i 16,i 16,i 16,i 16,i 16,i 16,i 16,i 16,i 16,i 16,i 16,i 16,i 16,i 16,i 16,i 16,i 16,i 16,i 16,i 16,i 16,i 16,i 16,i 16,i 16,i 16,i 16,i 16,i 61],0⟩] 1)),(162,some (.row 237 [i 4,i 3,.g 4131 0 0 1,i 1])),(166,some (.row 167 [i 512,i 512,.t true,i 4,i 3,i 3,i 3,i 0,i 1,.t false,.t false,.p 162 0,.p 163 0,.nl,.nl])),(169,some (.row 96 [.p 166 0,.p 168 0,i 1,.g 4234 0 0 76])),(170,some (.row 91 [i 1,i 50,i 2000,i 50,i 100000,i 200,i 4,i 3,i 3,i 3,i 0,.p 118 0,.m 159,.p 109 0,.p 158 0,.g 1891 0 0 1,i 9,i 0])),(4130,some (.gr 5 1 [u 4,u 16,u 0,u 16,u 16,u 16,u 16,u 16,u 16,u 16,u 16,u 16,u 16,u 16,u 16,u 16,u 16,u 16,u 16,u 16,u 16,u 16,u 16,u 16,u 16,u 16,u 16,u 16,u 16,u 16,u 16,u 16,u 16,u 16,u 16,u 16,u 16,u 16,u 16,u 16,u 16,u 16,u 16,u 16,u 16,u 16,u 16,u 16,u 16,u 16,u 16,u 16,u 16,u 16,u 16,u 16,u 16,u 16,u 16,u 16,u 16,u 16,u 16,u 16,u 16])),(4131,some (.gr 30 1 [.g 4130 0 0 65])),(4234,some (.gr 5 1 [u 126,u 3,u 6,u 6,u 2,u 0,u 2,u 0,u 4,u 16,u 0,u 16,u 16,u 16,u 16,u 16,u 16,u 16,u 16,u 16,u 16,u 16,u 16,u 16,u 16,u 16,u 16,u 16,u 16,u 16,u 16,u 16,u 16,u 16,u 16,u 16,u 16,u 16,u 16,u 16,u 16,u 16,u 16,u 16,u 16,u 16,u 16,u 16,u 16,u 16,u 16,u 16,u 16,u 16,u 16,u 16,u 16,u 16,u 16,u 16,u 16,u 16,u 16,u 16,u 16,u 16,u 16,u 16,u 16,u 16,u 16,u 16,u 16,u 121,u 62,u 126]))]
noncomputable def nsg41:Stg:=⟨3930,zEV,(.c (i 0)),4235,zEW⟩
noncomputable def zEX:T O := .ofs zEW [(3929,none),(4234,none),(8,some (.mp [⟨.c (i 1),.ag [i 16,i 0,i 16,i 16,i 16,i 16,i 16,i 16,i 16,i 16,i 16,i 16,i 16,i 16,i 16,i 16,i 16,i 16,i 16,i 16,i 16,i 16,i 16,i 16,i 16,i 16,i 16,i 16,i 16,i 16,i 16,i 16,i 16,i 16,i 16,i 16,i 16,i 16,i 16,i 16,i 16,i 16,i 16,i 16,i 16,i 16,i 16,i 16,i 16,i 16,i 16,i 16,i 16,i 16,i 16,i 16,i 16,i 16,i 16,i 16,i 16,i 16,i 16,i 16,i 64],0⟩] 1)),(63,some (.row 240 [i 4,i 4,.m 362,.m 363])),(68,some (.row 156 [.t false,.nl,i 9,i 0,i 0,i 0,i 0,.nl])),(69,some (.row 96 [.p 66 0,.p 68 0,i 1,.g 4752 0 0 11])),(108,some (.mp [⟨.c (i 0),.ag [i 0,i 16,i 16,i 16,i 16,i 16,i 16,i 16,i 16,i 16,i 16,i 16,i 16,i 16,i 16,i 16,i 16,i 16,i 16,i 16,i 16,i 16,i 16,i 16,i 16,i 16,i 16,i 16,i 16,i 16,i 16,i 16,i 16,i 16,i 16,i 16,i 16,i 16,i 16,i 16,i 16,i 16,i 16,i 16,i 16,i 16,i 16,i 16,i 16,i 16,i 16,i 16,i 16,i 16,i 16,i 16,i 16,i 16,i 16,i 16,i 16,i 16,i 16,i 16,i 64],0⟩] 1)),(163,some (.row 240 [i 4,i 4,.m 303,.m 304])),(168,some (.row 156 [.t false,.nl,i 9,i 0,i 0,i 0,i 0,.nl])),(169,some (.row 96 [.p 166 0,.p 168 0,i 1,.g 4493 0 0 11])),(303,some (.mp [] 4)),(362,some (.mp [] 4)),(4493,some (.gr 5 1 [u 126,u 3,u 1,u 8,u 2,u 0,u 2,u 0,u 211,u 112,u 126])),(4752,some (.gr 5 1 [u 126,u 3,u 1,u 8,u 2,u 0,u 2,u 0,u 211,u 112,u 126]))]
noncomputable def nsg42:Stg:=⟨4235,zEW,(.tp []),4753,zEX⟩
noncomputable def zEY:T O := .ofs zEX [(3825,none),(4130,none),(4493,none),(4752,none),(62,some (.row 237 [i 4,i 4,.h 3826 0 0 1 1 false,i 0])),(66,some (.row 167 [i 512,i 512,.t true,i 4,i 3,i 3,i 0,i 0,i 1,.t false,.t false,.p 62 0,.p 63 0,.nl,.nl])),(68,some (.row 156 [.t false,.nl,i 10,i 0,i 0,i 0,i 0,.nl])),(69,some (.row 96 [.p 66 0,.p 68 0,i 1,.nl])),(162,some (.row 237 [i 4,i 4,.h 4131 0 0 1 1 false,i 0])),(166,some (.row 167 [i 512,i 512,.t true,i 4,i 3,i 3,i 0,i 0,i 1,.t false,.t false,.p 162 0,.p 163 0,.nl,.nl])),(168,some (.row 156 [.t false,.nl,i 10,i 0,i 0,i 0,i 0,.nl])),(169,some (.row 96 [.p 166 0,.p 168 0,i 1,.nl])),(3826,some (.gr 30 1 [.nl])),(4131,some (.gr 30 1 [.nl]))]
noncomputable def nsg43:Stg:=⟨4753,zEX,(.tp []),4813,zEY⟩
noncomputable def zEZ:T O := .ofs zEY []
noncomputable def nsg44:Stg:=⟨4813,zEY,(.tp []),4825,zEZ⟩
noncomputable def zE0:T O := .ofs zEZ [(8,some (.mp [⟨.c (i 1),.ag [i 16,i 0,i 16,i 16,i 16,i 16,i 16,i 16,i 16,i 16,i 16,i 16,i 16,i 16,i 16,i 16,i 16,i 16,i 16,i 16,i 16,i 16,i 16,i 16,i 16,i 16,i 16,i 16,i 16,i 16,i 16,i 16,i 16,i 16,i 16,i 16,i 16,i 16,i 16,i 16,i 16,i 16,i 16,i 16,i 16,i 16,i 16,i 16,i 16,i 16,i 16,i 16,i 16,i 16,i 16,i 16,i 16,i 16,i 16,i 16,i 16,i 16,i 16,i 16,i 63],0⟩] 1)),(70,some (.row 91 [i 0,i 50,i 2000,i 50,i 100000,i 200,i 4,i 3,i 3,i 3,i 0,.p 18 0,.m 59,.p 9 0,.p 58 0,.nl,i 10,i 0]))]
noncomputable def nsg45:Stg:=⟨4825,zEZ,(.c (i 0)),4836,zE0⟩
noncomputable def zE1:T O := .ofs zE0 [(108,some (.mp [⟨.c (i 0),.ag [i 0,i 16,i 16,i 16,i 16,i 16,i 16,i 16,i 16,i 16,i 16,i 16,i 16,i 16,i 16,i 16,i 16,i 16,i 16,i 16,i 16,i 16,i 16,i 16,i 16,i 16,i 16,i 16,i 16,i 16,i 16,i 16,i 16,i 16,i 16,i 16,i 16,i 16,i 16,i 16,i 16,i 16,i 16,i 16,i 16,i 16,i 16,i 16,i 16,i 16,i 16,i 16,i 16,i 16,i 16,i 16,i 16,i 16,i 16,i 16,i 16,i 16,i 16,i 16,i 63],0⟩] 1)),(170,some (.row 91 [i 1,i 50,i 2000,i 50,i 100000,i 200,i 4,i 3,i 3,i 3,i 0,.p 118 0,.m 159,.p 109 0,.p 158 0,.g 1891 0 0 1,i 10,i 0]))]
noncomputable def nsg46:Stg:=⟨4836,zE0,(.c (i 0)),4847,zE1⟩
noncomputable def zE2:T O := .ofs zE1 []
noncomputable def nsg47:Stg:=⟨4847,zE1,(.tp []),4859,zE2⟩
noncomputable def zE3:T O := .ofs zE2 []
noncomputable def nsg48:Stg:=⟨4859,zE2,(.tp []),4871,zE3⟩
noncomputable def zE4:T O := .ofs zE3 []
noncomputable def nsg49:Stg:=⟨4871,zE3,(.tp []),4883,zE4⟩
noncomputable def zE5:T O := .ofs zE4 [(8,some (.mp [⟨.c (i 1),.ag [i 16,i 0,i 16,i 16,i 16,i 16,i 16,i 16,i 16,i 16,i 16,i 16,i 16,i 16,i 16,i 16,i 16,i 16,i 16,i 16,i 16,i 16,i 16,i 16,i 16,i 16,i 16,i 16,i 16,i 16,i 16,i 16,i 16,i 16,i 16,i 16,i 16,i 16,i 16,i 16,i 16,i 16,i 16,i 16,i 16,i 16,i 16,i 16,i 16,i 16,i 16,i 16,i 16,i 16,i 16,i 16,i 16,i 16,i 16,i 16,i 16,i 16,i 16,i 16,i 62],0⟩] 1)),(70,some (.row 91 [i 0,i 50,i 2000,i 50,i 100000,i 200,i 4,i 3,i 3,i 3,i 0,.p 18 0,.m 59,.p 9 0,.p 58 0,.nl,i 11,i 0]))]
noncomputable def nsg50:Stg:=⟨4883,zE4,(.c (i 0)),4894,zE5⟩
noncomputable def zE6:T O := .ofs zE5 [(108,some (.mp [⟨.c (i 0),.ag [i 0,i 16,i 16,i 16,i 16,i 16,i 16,i 16,i 16,i 16,i 16,i 16,i 16,i 16,i 16,i 16,i 16,i 16,i 16,i 16,i 16,i 16,i 16,i 16,i 16,i 16,i 16,i 16,i 16,i 16,i 16,i 16,i 16,i 16,i 16,i 16,i 16,i 16,i 16,i 16,i 16,i 16,i 16,i 16,i 16,i 16,i 16,i 16,i 16,i 16,i 16,i 16,i 16,i 16,i 16,i 16,i 16,i 16,i 16,i 16,i 16,i 16,i 16,i 16,i 62],0⟩] 1)),(170,some (.row 91 [i 1,i 50,i 2000,i 50,i 100000,i 200,i 4,i 3,i 3,i 3,i 0,.p 118 0,.m 159,.p 109 0,.p 158 0,.g 1891 0 0 1,i 11,i 0]))]
noncomputable def nsg51:Stg:=⟨4894,zE5,(.c (i 0)),4905,zE6⟩
noncomputable def zE7:T O := .ofs zE6 []
noncomputable def nsg52:Stg:=⟨4905,zE6,(.tp []),4917,zE7⟩
noncomputable def zE8:T O := .ofs zE7 []
noncomputable def nsg53:Stg:=⟨4917,zE7,(.tp []),4929,zE8⟩
noncomputable def zE9:T O := .ofs zE8 []
noncomputable def nsg54:Stg:=⟨4929,zE8,(.tp []),4941,zE9⟩
noncomputable def zFa:T O := .ofs zE9 [(3826,none),(8,some (.mp [⟨.c (i 1),.ag [i 16,i 0,i 16,i 16,i 16,i 16,i 16,i 16,i 16,i 16,i 16,i 16,i 16,i 16,i 16,i 16,i 16,i 16,i 16,i 16,i 16,i 16,i 16,i 16,i 16,i 16,i 16,i 16,i 16,i 16,i 16,i 16,i 16,i 16,i 16,i 16,i 16,i 16,i 16,i 16,i 16,i 16,i 16,i 16,i 16,i 16,i 16,i 16,i 16,i 16,i 16,i 16,i 16,i 16,i 16,i 16,i 16,i 16,i 16,i 16,i 16,i 16,i 16,i 16,i 61],0⟩] 1)),(62,some (.row 237 [i 4,i 4,.g 5142 0 0 1,i 1])),(66,some (.row 167 [i 512,i 512,.t true,i 4,i 3,i 3,i 3,i 0,i 1,.t false,.t false,.p 62 0,.p 63 0,.nl,.nl])),(69,some (.row 96 [.p 66 0,.p 68 0,i 1,.g 5245 0 0 76])),(70,some (.row 91 [i 0,i 50,i 2000,i 50,i 100000,i 200,i 4,i 3,i 3,i 3,i 0,.p 18 0,.m 59,.p 9 0,.p 58 0,.nl,i 12,i 0])),(5141,some (.gr 5 1 [u 4,u 0,u 16,u 16,u 16,u 16,u 16,u 16,u 16,u 16,u 16,u 16,u 16,u 16,u 16,u 16,u 16,u 16,u 16,u 16,u 16,u 16,u 16,u 16,u 16,u 16,u 16,u 16,u 16,u 16,u 16,u 16,u 16,u 16,u 16,u 16,u 16,u 16,u 16,u 16,u 16,u 16,u 16,u 16,u 16,u 16,u 16,u 16,u 16,u 16,u 16,u 16,u 16,u 16,u 16,u 16,u 16,u 16,u 16,u 16,u 16,u 16,u 16,u 16,u 16])),(5142,some (.gr 30 1 [.g 5141 0 0 65])),(5245,some (.gr 5 1 [u 126,u 3,u 8,u 8,u 2,u 0,u 2,u 0,u 4,u 0,u 16,u 16,u 16,u 16,u 16,u 16,u 16,u 16,u 16,u 16,u 16,u 16,u 16,u 16,u 16,u 16,u 16,u 16,u 16,u 16,u 16,u 16,u 16,u 16,u 16,u 16,u 16,u 16,u 16,u 16,u 16,u 16,u 16,u 16,u 16,u 16,u 16,u 16,u 16,u 16,u 16,u 16,u 16,u 16,u 16,u 16,u 16,u 16,u 16,u 16,u 16,u 16,u 16,u 16,u 16,u 16,u 16,u 16,u 16,u 16,u 16,u 16,u 16,u 18,u 225,u 126]))]
noncomputable def nsg55:Stg:=⟨4941,zE9,(.c (i 0)),5246,zFa⟩
noncomputable def zFb:T O := .ofs zFa [(4131,none),(108,some (.mp [⟨.c (i 0),.ag [i 0,i 16,i 16,i 16,i 16,i 16,i 16,i 16,i 16,i 16,i 16,i 16,i 16,i 16,i 16,i 16,i 16,i 16,i 16,i 16,i 16,i 16,i 16,i 16,i 16,i 16,i 16,i 16,i 16,i 16,i 16,i 16,i 16,i 16,i 16,i 16,i 16,i 16,i 16,i 16,i 16,i 16,i 16,i 16,i 16,i 16,i 16,i 16,i 16,i 16,i 16,i 16,i 16,i 16,i 16,i 16,i 16,i 16,i 16,i 16,i 16,i 16,i 16,i 16,i 61],0⟩] 1)),(162,some (.row 237 [i 4,i 4,.g 5447 0 0 1,i 1])),(166,some (.row 167 [i 512,i 512,.t true,i 4,i 3,i 3,i 3,i 0,i 1,.t false,.t false,.p 162 0,.p 163 0,.nl,.nl])),(169,some (.row 96 [.p 166 0,.p 168 0,i 1,.g 5550 0 0 76])),(170,some (.row 91 [i 1,i 50,i 2000,i 50,i 100000,i 200,i 4,i 3,i 3,i 3,i 0,.p 118 0,.m 159,.p 109 0,.p 158 0,.g 1891 0 0 1,i 12,i 0])),(5446,some (.gr 5 1 [u 4,u 16,u 0,u 16,u 16,u 16,u 16,u 16,u 16,u 16,u 16,u 16,u 16,u 16,u 16,u 16,u 16,u 16,u 16,u 16,u 16,u 16,u 16,u 16,u 16,u 16,u 16,u 16,u 16,u 16,u 16,u 16,u 16,u 16,u 16,u 16,u 16,u 16,u 16,u 16,u 16,u 16,u 16,u 16,u 16,u 16,u 16,u 16,u 16,u 16,u 16,u 16,u 16,u 16,u 16,u 16,u 16,u 16,u 16,u 16,u 16,u 16,u 16,u 16,u 16])),(5447,some (.gr 30 1 [.g 5446 0 0 65])),(5550,some (.gr 5 1 [u 126,u 3,u 8,u 8,u 2,u 0,u 2,u 0,u 4,u 16,u 0,u 16,u 16,u 16,u 16,u 16,u 16,u 16,u 16,u 16,u 16,u 16,u 16,u 16,u 16,u 16,u 16,u 16,u 16,u 16,u 16,u 16,u 16,u 16,u 16,u 16,u 16,u 16,u 16,u 16,u 16,u 16,u 16,u 16,u 16,u 16,u 16,u 16,u 16,u 16,u 16,u 16,u 16,u 16,u 16,u 16,u 16,u 16,u 16,u 16,u 16,u 16,u 16,u 16,u 16,u 16,u 16,u 16,u 16,u 16,u 16,u 16,u 16,u 162,u 140,u 126]))]
noncomputable def nsg56:Stg:=⟨5246,zFa,(.c (i 0)),5551,zFb⟩
noncomputable def zFc:T O := .ofs zFb [(5245,none),(5550,none),(8,some (.mp [⟨.c (i 1),.ag [i 16,i 0,i 16,i 16,i 16,i 16,i 16,i 16,i 16,i 16,i 16,i 16,i 16,i 16,i 16,i 16,i 16,i 16,i 16,i 16,i 16,i 16,i 16,i 16,i 16,i 16,i 16,i 16,i 16,i 16,i 16,i 16,i 16,i 16,i 16,i 16,i 16,i 16,i 16,i 16,i 16,i 16,i 16,i 16,i 16,i 16,i 16,i 16,i 16,i 16,i 16,i 16,i 16,i 16,i 16,i 16,i 16,i 16,i 16,i 16,i 16,i 16,i 16,i 16,i 64],0⟩] 1)),(63,some (.row 240 [i 4,i 5,.m 362,.m 363])),(68,some (.row 156 [.t false,.nl,i 11,i 0,i 0,i 0,i 0,.nl])),(69,some (.row 96 [.p 66 0,.p 68 0,i 1,.g 6068 0 0 11])),(108,some (.mp [⟨.c (i 0),.ag [i 0,i 16,i 16,i 16,i 16,i 16,i 16,i 16,i 16,i 16,i 16,i 16,i 16,i 16,i 16,i 16,i 16,i 16,i 16,i 16,i 16,i 16,i 16,i 16,i 16,i 16,i 16,i 16,i 16,i 16,i 16,i 16,i 16,i 16,i 16,i 16,i 16,i 16,i 16,i 16,i 16,i 16,i 16,i 16,i 16,i 16,i 16,i 16,i 16,i 16,i 16,i 16,i 16,i 16,i 16,i 16,i 16,i 16,i 16,i 16,i 16,i 16,i 16,i 16,i 64],0⟩] 1)),(163,some (.row 240 [i 4,i 5,.m 303,.m 304])),(168,some (.row 156 [.t false,.nl,i 11,i 0,i 0,i 0,i 0,.nl])),(169,some (.row 96 [.p 166 0,.p 168 0,i 1,.g 5809 0 0 11])),(303,some (.mp [] 5)),(362,some (.mp [] 5)),(5809,some (.gr 5 1 [u 126,u 3,u 1,u 10,u 2,u 0,u 2,u 0,u 91,u 102,u 126])),(6068,some (.gr 5 1 [u 126,u 3,u 1,u 10,u 2,u 0,u 2,u 0,u 91,u 102,u 126]))]
noncomputable def nsg57:Stg:=⟨5551,zFb,(.tp []),6069,zFc⟩
noncomputable def zFd:T O := .ofs zFc [(5141,none),(5446,none),(5809,none),(6068,none),(62,some (.row 237 [i 4,i 5,.h 5142 0 0 1 1 false,i 0])),(66,some (.row 167 [i 512,i 512,.t true,i 4,i 3,i 3,i 0,i 0,i 1,.t false,.t false,.p 62 0,.p 63 0,.nl,.nl])),(68,some (.row 156 [.t false,.nl,i 12,i 0,i 0,i 0,i 0,.nl])),(69,some (.row 96 [.p 66 0,.p 68 0,i 1,.nl])),(162,some (.row 237 [i 4,i 5,.h 5447 0 0 1 1 false,i 0])),(166,some (.row 167 [i 512,i 512,.t true,i 4,i 3,i 3,i 0,i 0,i 1,.t false,.t false,.p 162 0,.p 163 0,.nl,.nl])),(168,some (.row 156 [.t false,.nl,i 12,i 0,i 0,i 0,i 0,.nl])),(169,some (.row 96 [.p 166 0,.p 168 0,i 1,.nl])),(5142,some (.gr 30 1 [.nl])),(5447,some (.gr 30 1 [.nl]))]
noncomputable def nsg58:Stg:=⟨6069,zFc,(.tp []),6129,zFd⟩
noncomputable def zLg:T O := .ofs zFd []
noncomputable def nsg59:Stg:=⟨6129,zFd,(.tp []),6141,zLg⟩
end
section
theorem zJr:nsg0.ok (run primsN zy 1000 40 F.zj) zmC=true:=by kernel_rfl
theorem zJs:nsg1.ok (run primsN zy 1000 40 F.zj) zmD=true:=by kernel_rfl
theorem zJt:nsg2.ok (run primsN zy 1000 40 F.zi) zaz=true:=by kernel_rfl
theorem zJu:nsg3.ok (run primsN zy 1000 40 F.zi) zaz=true:=by kernel_rfl
theorem zJv:nsg4.ok (run primsN zy 1000 40 F.zi) zaz=true:=by kernel_rfl
theorem zJw:nsg5.ok (run primsN zy 1000 40 F.zj) zmC=true:=by kernel_rfl
theorem zJx:nsg6.ok (run primsN zy 1000 40 F.zj) zmD=true:=by kernel_rfl
theorem zJy:nsg7.ok (run primsN zy 1000 40 F.zi) zaz=true:=by kernel_rfl
theorem zJz:nsg8.ok (run primsN zy 1000 40 F.zi) zaz=true:=by kernel_rfl
theorem zJA:nsg9.ok (run primsN zy 1000 40 F.zi) zaz=true:=by kernel_rfl
theorem zHp:nsg10.ok (run primsN zy 1000 40 F.zj) zmC=true:=by kernel_rfl
theorem zHq:nsg11.ok (run primsN zy 1000 40 F.zj) zmD=true:=by kernel_rfl
theorem zHr:nsg12.ok (run primsN zy 1000 40 F.zi) zaz=true:=by kernel_rfl
theorem zHs:nsg13.ok (run primsN zy 1000 40 F.zi) zaz=true:=by kernel_rfl
theorem zHt:nsg14.ok (run primsN zy 1000 40 F.zi) zaz=true:=by kernel_rfl
end
section
theorem zHu:nsg15.ok (run primsN zy 1000 40 F.zj) zmC=true:=by kernel_rfl
theorem zHv:nsg16.ok (run primsN zy 1000 40 F.zj) zmD=true:=by kernel_rfl
theorem zHw:nsg17.ok (run primsN zy 1000 40 F.zi) zaz=true:=by kernel_rfl
theorem zHx:nsg18.ok (run primsN zy 1000 40 F.zi) zaz=true:=by kernel_rfl
theorem zHy:nsg19.ok (run primsN zy 1000 40 F.zi) zaz=true:=by kernel_rfl
theorem zHz:nsg20.ok (run primsN zy 1000 40 F.zj) zmC=true:=by kernel_rfl
theorem zHA:nsg21.ok (run primsN zy 1000 40 F.zj) zmD=true:=by kernel_rfl
theorem zHB:nsg22.ok (run primsN zy 1000 40 F.zi) zaz=true:=by kernel_rfl
theorem zHC:nsg23.ok (run primsN zy 1000 40 F.zi) zaz=true:=by kernel_rfl
theorem zHD:nsg24.ok (run primsN zy 1000 40 F.zi) zaz=true:=by kernel_rfl
theorem zHE:nsg25.ok (run primsN zy 1000 40 F.zj) zmC=true:=by kernel_rfl
theorem zHF:nsg26.ok (run primsN zy 1000 40 F.zj) zmD=true:=by kernel_rfl
theorem zHG:nsg27.ok (run primsN zy 1000 40 F.zi) zaz=true:=by kernel_rfl
theorem zHH:nsg28.ok (run primsN zy 1000 40 F.zi) zaz=true:=by kernel_rfl
theorem zHI:nsg29.ok (run primsN zy 1000 40 F.zi) zaz=true:=by kernel_rfl
end
section
theorem zHJ:nsg30.ok (run primsN zy 1000 40 F.zj) zmC=true:=by kernel_rfl
theorem zHK:nsg31.ok (run primsN zy 1000 40 F.zj) zmD=true:=by kernel_rfl
theorem zHL:nsg32.ok (run primsN zy 1000 40 F.zi) zaz=true:=by kernel_rfl
theorem zHM:nsg33.ok (run primsN zy 1000 40 F.zi) zaz=true:=by kernel_rfl
theorem zHN:nsg34.ok (run primsN zy 1000 40 F.zi) zaz=true:=by kernel_rfl
theorem zHO:nsg35.ok (run primsN zy 1000 40 F.zj) zmC=true:=by kernel_rfl
theorem zHP:nsg36.ok (run primsN zy 1000 40 F.zj) zmD=true:=by kernel_rfl
theorem zHQ:nsg37.ok (run primsN zy 1000 40 F.zi) zaz=true:=by kernel_rfl
theorem zHR:nsg38.ok (run primsN zy 1000 40 F.zi) zaz=true:=by kernel_rfl
theorem zHS:nsg39.ok (run primsN zy 1000 40 F.zi) zaz=true:=by kernel_rfl
theorem zHT:nsg40.ok (run primsN zy 1000 40 F.zj) zmC=true:=by kernel_rfl
theorem zHU:nsg41.ok (run primsN zy 1000 40 F.zj) zmD=true:=by kernel_rfl
theorem zHV:nsg42.ok (run primsN zy 1000 40 F.zi) zaz=true:=by kernel_rfl
theorem zHW:nsg43.ok (run primsN zy 1000 40 F.zi) zaz=true:=by kernel_rfl
theorem zHX:nsg44.ok (run primsN zy 1000 40 F.zi) zaz=true:=by kernel_rfl
end
section
theorem zHY:nsg45.ok (run primsN zy 1000 40 F.zj) zmC=true:=by kernel_rfl
theorem zHZ:nsg46.ok (run primsN zy 1000 40 F.zj) zmD=true:=by kernel_rfl
theorem zH0:nsg47.ok (run primsN zy 1000 40 F.zi) zaz=true:=by kernel_rfl
theorem zH1:nsg48.ok (run primsN zy 1000 40 F.zi) zaz=true:=by kernel_rfl
theorem zH2:nsg49.ok (run primsN zy 1000 40 F.zi) zaz=true:=by kernel_rfl
theorem zH3:nsg50.ok (run primsN zy 1000 40 F.zj) zmC=true:=by kernel_rfl
theorem zH4:nsg51.ok (run primsN zy 1000 40 F.zj) zmD=true:=by kernel_rfl
theorem zH5:nsg52.ok (run primsN zy 1000 40 F.zi) zaz=true:=by kernel_rfl
theorem zH6:nsg53.ok (run primsN zy 1000 40 F.zi) zaz=true:=by kernel_rfl
theorem zH7:nsg54.ok (run primsN zy 1000 40 F.zi) zaz=true:=by kernel_rfl
theorem zH8:nsg55.ok (run primsN zy 1000 40 F.zj) zmC=true:=by kernel_rfl
theorem zH9:nsg56.ok (run primsN zy 1000 40 F.zj) zmD=true:=by kernel_rfl
theorem zIa:nsg57.ok (run primsN zy 1000 40 F.zi) zaz=true:=by kernel_rfl
theorem zIb:nsg58.ok (run primsN zy 1000 40 F.zi) zaz=true:=by kernel_rfl
theorem zIc:nsg59.ok (run primsN zy 1000 40 F.zi) zaz=true:=by kernel_rfl
end
end Go.Proofs.YtdogcflaekkdkaaGreat
namespace Go.Proofs.YtdogcflaekkdkaaGreat
open Go Go.Vm Go.Vm.Rn Go.Vm.Rn.Q
set_option maxRecDepth 100000
noncomputable def primsM:T (List W→Nat→T O→R) := .n (.n (.e) none (.n (.e) none (.n (.n (.e) (some (orP (zq0 zmC [nsg0,nsg5,nsg10,nsg15,nsg20,nsg25,nsg30,nsg35,nsg40,nsg45,nsg50,nsg55]) (zq0 zmD [nsg1,nsg6,nsg11,nsg16,nsg21,nsg26,nsg31,nsg36,nsg41,nsg46,nsg51,nsg56]))) (.e)) none (.e)))) none (.n (.n (.n (.n (.n (.e) (some (zq0 zaz [nsg2,nsg3,nsg4,nsg7,nsg8,nsg9,nsg12,nsg13,nsg14,nsg17,nsg18,nsg19,nsg22,nsg23,nsg24,nsg27,nsg28,nsg29,nsg32,nsg33,nsg34,nsg37,nsg38,nsg39,nsg42,nsg43,nsg44,nsg47,nsg48,nsg49,nsg52,nsg53,nsg54,nsg57,nsg58,nsg59])) (.e)) none (.e)) none (.e)) none (.e)) none (.n (.n (.n (.e) none (.n (.e) none (.n (.e) none (.n (.e) (some zt1) (.e))))) none (.n (.e) none (.n (.e) none (.n (.n (.n (.e) (some zrW) (.e)) none (.e)) none (.e))))) none (.n (.e) none (.n (.e) none (.n (.n (.e) (some zpM) (.e)) none (.e))))))
theorem zGw:primsM.All (Prim Tryz.prog) := .no (.no (.nil) (.no (.nil) (.no (.at (zLd (zrV zHe (all_cons zJr <| all_cons zJw <| all_cons zHp <| all_cons zHu <| all_cons zHz <| all_cons zHE <| all_cons zHJ <| all_cons zHO <| all_cons zHT <| all_cons zHY <| all_cons zH3 <| all_cons zH8 <| zyU)) (zrV zHe (all_cons zJs <| all_cons zJx <| all_cons zHq <| all_cons zHv <| all_cons zHA <| all_cons zHF <| all_cons zHK <| all_cons zHP <| all_cons zHU <| all_cons zHZ <| all_cons zH4 <| all_cons zH9 <| zyU))) (.nil) (.nil)) (.nil)))) (.no (.no (.no (.no (.at (zrV zHe (all_cons zJt <| all_cons zJu <| all_cons zJv <| all_cons zJy <| all_cons zJz <| all_cons zJA <| all_cons zHr <| all_cons zHs <| all_cons zHt <| all_cons zHw <| all_cons zHx <| all_cons zHy <| all_cons zHB <| all_cons zHC <| all_cons zHD <| all_cons zHG <| all_cons zHH <| all_cons zHI <| all_cons zHL <| all_cons zHM <| all_cons zHN <| all_cons zHQ <| all_cons zHR <| all_cons zHS <| all_cons zHV <| all_cons zHW <| all_cons zHX <| all_cons zH0 <| all_cons zH1 <| all_cons zH2 <| all_cons zH5 <| all_cons zH6 <| all_cons zH7 <| all_cons zIa <| all_cons zIb <| all_cons zIc <| zyU)) (.nil) (.nil)) (.nil)) (.nil)) (.nil)) (.no (.no (.no (.nil) (.no (.nil) (.no (.nil) (.at zxJ (.nil) (.nil))))) (.no (.nil) (.no (.nil) (.no (.no (.at zvb (.nil) (.nil)) (.nil)) (.nil))))) (.no (.nil) (.no (.nil) (.no (.at ztM (.nil) (.nil)) (.nil))))))
theorem awake_ok {M:Mem}:CallsM Tryz.prog F.za6 [] M fun v M2=>v = .bool true∧M.le M2:=zLf (run_ok zGw zCX 1000 40) (f:=F.za6) (ws:=[]) (by kernel_rfl) trivial
end Go.Proofs.YtdogcflaekkdkaaGreat
namespace Go.Proofs.YtdogcflaekkdkaaGreat
open Go Go.Vm
attribute [local irreducible] Brn Ob Grow CallsM inR zh4 zfz Mem.row Mem.cells Mem.setCells Mem.upd Go.Vm.Own ziw znx zmE zjF New ziu zaq NewSl Mem.textAt Mem.mapAt Mem.iterAt zd5 kfind Wr zm5 zpq
set_option maxRecDepth 10000
variable {M M':Mem}
set_option maxRecDepth 100000 in
theorem zBI (a b c d s w t r i y:Int):CallsM Tryz.prog F.zf2 [zGM a b c d s w t r i y] M fun v M'=>v = .bool true∧M.le M':=by
 refine zqv (by simp) ?_
 refine zR ?_
 refine(zGN a b c d s w t r i y).mono ?_
 rintro v M1 ⟨rfl,hle1⟩
 refine zT (hle1) ?_
 (conv=>whnf);refine(zFF a b c d s w t r i y).mono ?_
 rintro v _ ⟨rfl,rfl⟩
 refine zT (hle1) ?_
 (conv=>whnf);refine brn_t (by simp) ?_
 refine zR ?_
 refine awake_ok.mono ?_
 rintro v M2 ⟨rfl,hle2⟩
 refine zT ((Mem.le_trans hle1 hle2)) ?_
 refine zR ?_
 (conv=>whnf)
 exact⟨rfl,Mem.le_trans hle1 hle2⟩
end Go.Proofs.YtdogcflaekkdkaaGreat
namespace Go.Proofs.YtdogcflaekkdkaaGreat.nodeSettings
open Go.ChangeShapes Go.WideShapes Go.ChangeAt Go.RowKit Go.Vm Go.Proofs.YtdogcflaekkdkaaGreat.Br
set_option linter.unusedVariables false
set_option maxRecDepth 100000
theorem contract (H:Type) (enc:TypeId×Value→H) (W:World) (base:Nat) (args:Array Value) (ds gs:List (DataW H)) (before:List MemPlace)
  (hval:∀ (j:Nat) t v,Tryz.f3.params[j]? = some t→args[j]? = some v→Value.okWide Tryz.prog W .any base t v)
  (hW:DataW.Whole enc Tryz.prog Tryz.f3.params.toList Rows.nodeSettingsSpec.vars false W args.toList ds gs before) (hk:Rows.uptoSmall H (ds++gs)=true) :
  Calls Tryz.prog F.zf2 args W fun e W'=>∃ v,e = .returned v∧Rows.nodeSettingsSpec.post enc Tryz.prog Tryz.f3 false true false false W args v W':=by
 refine zKP (s:=Rows.nodeSettingsSpec) (fn:=Tryz.f3) (fun H ds h=>by match ds,h with|[d0],_=>exact⟨rfl,rfl,rfl⟩) rfl rfl (by kernel_rfl) H enc W args ds gs before hW ?_
 obtain⟨p,q,hA,hV, -, -, -⟩:=hW
 obtain⟨rfl,rfl⟩:=trodVars_none hV
 have hb:=zKQ hk
 rw[Tryz.params3] at hA hval
 obtain⟨v0,vs0,d0,ds0,p0,q0,hargs0,rfl,rfl,⟨n0,h0⟩,r0⟩:=trodAll_cons hA
 obtain⟨rfl,rfl,rfl⟩:=trodAll_nil r0
 obtain rfl:args = #[v0]:=by cases args;simp_all
 obtain⟨-, x,hx⟩:=zIX H enc W _ _ _ _ h0 (hb _ (by simp))
 have hv0:=hval 0 _ v0 rfl rfl
 have hv:=zDo Tryz.underlying25 hv0
 rw[hx] at hv
 subst hv
 exact zBI _ _ _ _ _ _ _ _ _ _
set_option maxRecDepth 100000 in
theorem lifted (os:Os) (started:os.Started) (H:Type) (enc:TypeId×Value→H) (F:Stop.Interp) :
  ReturnsInHanded {} Tryz.checked os 3 .any ((Rows.OpenSpec.upto Rows.nodeSettingsSpec).pre6 enc Tryz.prog Tryz.f3 Rows.nodeSettingsUptoRow.domain false) (((Rows.OpenSpec.upto Rows.nodeSettingsSpec).at F).post enc Tryz.prog Tryz.f3 false true false false):=by
 refine returnsInHanded_of_cond (C:=Tryz.checked) (s:=Rows.OpenSpec.upto Rows.nodeSettingsSpec) (k:=Rows.uptoSmall) rfl own started (by kernel_rfl) Tryz.func3
  (OpenSpec.witness (enc:=enc) (C:=Tryz.checked) (s:=Rows.OpenSpec.upto Rows.nodeSettingsSpec) (k:=Rows.uptoSmall) rfl false ⟨#[], #[.agg #[.int .i64 0,.int .i64 0,.int .i64 0,.int .i64 0,.int .i64 0,.int .i64 0,.int .i64 0,.int .i64 0,.int .i64 0,.int .i64 0]],[]⟩ 12 (by kernel_rfl) (by kernel_rfl) (by kernel_rfl)
   (x:=([.agg [.agg [.lit (.int .i64 0),.lit (.int .i64 0),.lit (.int .i64 0)],.lit (.int .i64 0),.lit (.int .i64 0),.lit (.int .i64 0),.lit (.int .i64 0),.lit (.int .i64 0),.lit (.int .i64 0),.lit (.int .i64 0)]],[],[])) (by kernel_rfl) rfl (by kernel_rfl)) ?_
 intro W base args ds gs before hval hW _ hk _
 exact contract H enc W base args ds gs before hval hW hk
noncomputable abbrev Q:Program:=Tryz.pinned.checked.prog
abbrev C:OpenClaim:=Rows.nodeSettingsUptoRow
theorem k2:laidOutB Q=true:=by kernel_rfl
theorem k3:mapsRowed Q=true:=by kernel_rfl
theorem k10:(C.inPlace == Q.inPlace 3)=true:=by kernel_rfl
theorem k11:(C.unfollowed == Q.unfollowed 3)=true:=by kernel_rfl
theorem k12:(C.recurses == Q.recurses 3)=true:=by kernel_rfl
theorem k13:(C.named == Q.varsNamed 3)=true:=by kernel_rfl
theorem k22:(C.plainKeys == Q.plainKeys)=true:=by kernel_rfl
theorem zLy:Q.stopsHeard=true:=by kernel_rfl
theorem k24:Q.mayEnter=true:=by kernel_rfl
theorem zLz:(C.lifted == Q.liftsFinal)=true:=by kernel_rfl
theorem zLA:(Q.make == some C.make)=true:=by kernel_rfl
theorem zKG:joinedFacts Q 3 Tryz.f3 (Rows.OpenSpec.upto Rows.nodeSettingsSpec).bare C=true:=by
 simp only[joinedFacts,Bool.and_eq_true]
 exact⟨⟨⟨⟨⟨⟨⟨⟨⟨⟨⟨⟨⟨⟨⟨⟨⟨⟨⟨⟨⟨⟨⟨⟨⟨⟨⟨⟨⟨⟨⟨(by kernel_rfl),k2⟩,k3⟩,(by kernel_rfl)⟩,(by kernel_rfl)⟩,(by kernel_rfl)⟩,(by kernel_rfl)⟩,(by kernel_rfl)⟩,(by kernel_rfl)⟩,k10⟩,k11⟩,k12⟩,k13⟩,(by kernel_rfl)⟩,(by kernel_rfl)⟩,(by kernel_rfl)⟩,(by kernel_rfl)⟩,(by kernel_rfl)⟩,(by kernel_rfl)⟩,(by kernel_rfl)⟩,(by kernel_rfl)⟩,(by kernel_rfl)⟩,k22⟩,(by kernel_rfl)⟩,zLy⟩,k24⟩,zLz⟩,zLA⟩,(by kernel_rfl)⟩,(by kernel_rfl)⟩,(by kernel_rfl)⟩,(by kernel_rfl)⟩
theorem over:Rows.nodeSettingsUptoRow.holds Tryz.pinned (Rows.OpenSpec.upto Rows.nodeSettingsSpec):=
 OpenClaim.holds_of_cond 3 Tryz.f3 rfl rfl rfl rfl rfl rfl rfl ⟨rfl,rfl,rfl,rfl,rfl⟩ rfl rfl rfl rfl rfl (by kernel_rfl) Tryz.func3 zKG
  (Zd0 (by kernel_rfl)) (by unfold Func.isWrapper;first|(rw[if_pos (by decide +kernel)];kernel_rfl)|(rw[if_neg (by decide +kernel)];exact⟨rfl,rfl⟩))
  (fun os started H enc _ F=>lifted os started H enc F)
theorem proved:Rows.NodeSettingsUptoSaid:=
 over
end Go.Proofs.YtdogcflaekkdkaaGreat.nodeSettings
