/- A part of the proof: plain logic, contracts and laws over the given program. -/
import Derived.Test.YtflgockgjnddnaaGreatDoorProg
import Derived.Lib.MapLaws
import Derived.Lib.Strings
import Derived.Lib.Bytealg
import Derived.Lib.Index
import Derived.Lib.SlTrimSet
import Derived.Lib.Small
import Derived.Test.YtflgockgjnddnaaGreatDoorShelf
import Derived.Shelf.Strings.SlTrimAscii
import Derived.Shelf.Strings.Builder1
import Derived.Shelf.RegionOpenPlain
import Derived.Lib.Walk
import Derived.Lib.UnsafeStr
import Derived.Lib.Builder
import Derived.WalkKit
import Derived.Laws.Externs
import Derived.Lib.IndexAny
import Derived.Test.YtflgockgjnddnaaGreatDoorK04
set_option linter.unusedVariables false
set_option linter.unusedSimpArgs false
set_option linter.all false
set_option maxRecDepth 100000
set_option maxHeartbeats 16000000
section
namespace Go.PM.Lex
open Go.Proofs
def ZhK:Tab:=(.node (.node (.node (.node (.node (.node (.node (.node (.node .leaf 0 ⟨1,0,.other,[],false⟩ .leaf) 1 ⟨1,8,.func,[.d .nilf],false⟩ .leaf) 2 ⟨1,8,.int .i64,[.d (.int .i64 (0))],true⟩ (.node (.node .leaf 3 ⟨1,8,.int .i64,[.d (.int .i64 (0))],true⟩ .leaf) 4 ⟨1,1,.bool,[.d (.bool false)],false⟩ .leaf)) 5 ⟨1,1,.int .u8,[.d (.int .u8 (0))],true⟩ (.node (.node (.node .leaf 6 ⟨1,1,.int .u8,[.d (.int .u8 (0))],true⟩ .leaf) 7 ⟨4,24,.struct [(0,2),(1,3),(2,4),(3,6)],[.d (.int .i64 (0)),.d (.int .i64 (0)),.d (.bool false),.d (.int .u8 (0))],false⟩ .leaf) 8 ⟨4,24,.struct [(0,2),(1,3),(2,4),(3,6)],[.d (.int .i64 (0)),.d (.int .i64 (0)),.d (.bool false),.d (.int .u8 (0))],false⟩ (.node (.node .leaf 9 ⟨1,16,.string,[.d (.str [])],false⟩ .leaf) 10 ⟨1,16,.string,[.d (.str [])],false⟩ .leaf))) 11 ⟨1,16,.string,[.d (.str [])],false⟩ (.node (.node (.node (.node .leaf 12 ⟨1,8,.int .u64,[.d (.int .u64 (0))],true⟩ .leaf) 13 ⟨2,24,.struct [(0,9),(1,12)],[.d (.str []),.d (.int .u64 (0))],false⟩ .leaf) 14 ⟨2,24,.struct [(0,9),(1,12)],[.d (.str []),.d (.int .u64 (0))],false⟩ (.node (.node .leaf 15 ⟨1,8,.ptr 356,[.d .nilp],false⟩ .leaf) 16 ⟨1,8,.ptr 359,[.d .nilp],false⟩ .leaf)) 17 ⟨1,8,.ptr 366,[.d .nilp],false⟩ (.node (.node (.node .leaf 18 ⟨1,8,.struct [(0,17)],[.d .nilp],false⟩ .leaf) 19 ⟨1,8,.struct [(0,17)],[.d .nilp],false⟩ .leaf) 20 ⟨1,16,.iface,[.d .nili],false⟩ (.node .leaf 21 ⟨1,4,.int .i32,[.d (.int .i32 (0))],true⟩ .leaf)))) 22 ⟨1,24,.slice 24,[.nils 24],false⟩ (.node (.node (.node (.node (.node .leaf 23 ⟨5,64,.struct [(0,5),(1,9),(2,2),(3,22),(4,3)],[.d (.int .u8 (0)),.d (.str []),.d (.int .i64 (0)),.nils 24,.d (.int .i64 (0))],false⟩ .leaf) 24 ⟨5,64,.struct [(0,5),(1,9),(2,2),(3,22),(4,3)],[.d (.int .u8 (0)),.d (.str []),.d (.int .i64 (0)),.nils 24,.d (.int .i64 (0))],false⟩ .leaf) 25 ⟨1,8,.func,[.d .nilf],false⟩ (.node (.node .leaf 26 ⟨1,8,.func,[.d .nilf],false⟩ .leaf) 27 ⟨1,8,.int .i64,[.d (.int .i64 (0))],true⟩ .leaf)) 28 ⟨1,0,.other,[],false⟩ (.node (.node (.node .leaf 29 ⟨1,8,.func,[.d .nilf],false⟩ .leaf) 30 ⟨1,0,.other,[],false⟩ .leaf) 31 ⟨1,8,.func,[.d .nilf],false⟩ (.node (.node .leaf 32 ⟨1,8,.func,[.d .nilf],false⟩ .leaf) 33 ⟨1,8,.func,[.d .nilf],false⟩ .leaf))) 34 ⟨1,8,.func,[.d .nilf],false⟩ (.node (.node (.node (.node .leaf 35 ⟨1,8,.func,[.d .nilf],false⟩ .leaf) 36 ⟨1,8,.func,[.d .nilf],false⟩ .leaf) 37 ⟨1,24,.slice 64,[.nils 64],false⟩ (.node (.node .leaf 38 ⟨1,24,.slice 68,[.nils 68],false⟩ .leaf) 39 ⟨1,24,.slice 50,[.nils 50],false⟩ .leaf)) 40 ⟨1,24,.slice 71,[.nils 71],false⟩ (.node (.node (.node .leaf 41 ⟨1,24,.slice 73,[.nils 73],false⟩ .leaf) 42 ⟨1,24,.slice 75,[.nils 75],false⟩ .leaf) 43 ⟨6,144,.struct [(0,37),(1,38),(2,39),(3,40),(4,41),(5,42)],[.nils 64,.nils 68,.nils 50,.nils 71,.nils 73,.nils 75],false⟩ (.node .leaf 44 ⟨6,144,.struct [(0,37),(1,38),(2,39),(3,40),(4,41),(5,42)],[.nils 64,.nils 68,.nils 50,.nils 71,.nils 73,.nils 75],false⟩ .leaf))))) 45 ⟨1,8,.func,[.d .nilf],false⟩ (.node (.node (.node (.node (.node (.node .leaf 46 ⟨1,8,.func,[.d .nilf],false⟩ .leaf) 47 ⟨1,8,.func,[.d .nilf],false⟩ .leaf) 48 ⟨1,24,.slice 60,[.nils 60],false⟩ (.node (.node .leaf 49 ⟨4,72,.struct [(0,9),(1,22),(2,48),(3,3)],[.d (.str []),.nils 24,.nils 60,.d (.int .i64 (0))],false⟩ .leaf) 50 ⟨4,72,.struct [(0,9),(1,22),(2,48),(3,3)],[.d (.str []),.nils 24,.nils 60,.d (.int .i64 (0))],false⟩ .leaf)) 51 ⟨1,8,.func,[.d .nilf],false⟩ (.node (.node (.node .leaf 52 ⟨1,8,.func,[.d .nilf],false⟩ .leaf) 53 ⟨1,8,.func,[.d .nilf],false⟩ .leaf) 54 ⟨1,8,.func,[.d .nilf],false⟩ (.node (.node .leaf 55 ⟨1,8,.func,[.d .nilf],false⟩ .leaf) 56 ⟨1,8,.func,[.d .nilf],false⟩ .leaf))) 57 ⟨1,0,.other,[],false⟩ (.node (.node (.node (.node .leaf 58 ⟨1,8,.func,[.d .nilf],false⟩ .leaf) 59 ⟨5,80,.struct [(0,5),(1,9),(2,22),(3,48),(4,3)],[.d (.int .u8 (0)),.d (.str []),.nils 24,.nils 60,.d (.int .i64 (0))],false⟩ .leaf) 60 ⟨5,80,.struct [(0,5),(1,9),(2,22),(3,48),(4,3)],[.d (.int .u8 (0)),.d (.str []),.nils 24,.nils 60,.d (.int .i64 (0))],false⟩ (.node (.node .leaf 61 ⟨1,24,.slice 66,[.nils 66],false⟩ .leaf) 62 ⟨1,24,.slice 148,[.nils 148],false⟩ .leaf)) 63 ⟨6,96,.struct [(0,5),(1,9),(2,9),(3,61),(4,62),(5,3)],[.d (.int .u8 (0)),.d (.str []),.d (.str []),.nils 66,.nils 148,.d (.int .i64 (0))],false⟩ (.node (.node (.node .leaf 64 ⟨6,96,.struct [(0,5),(1,9),(2,9),(3,61),(4,62),(5,3)],[.d (.int .u8 (0)),.d (.str []),.d (.str []),.nils 66,.nils 148,.d (.int .i64 (0))],false⟩ .leaf) 65 ⟨2,32,.struct [(0,9),(1,9)],[.d (.str []),.d (.str [])],false⟩ .leaf) 66 ⟨2,32,.struct [(0,9),(1,9)],[.d (.str []),.d (.str [])],true⟩ (.node .leaf 67 ⟨6,56,.struct [(0,9),(1,61),(2,4),(3,4),(4,4),(5,3)],[.d (.str []),.nils 66,.d (.bool false),.d (.bool false),.d (.bool false),.d (.int .i64 (0))],false⟩ .leaf)))) 68 ⟨6,56,.struct [(0,9),(1,61),(2,4),(3,4),(4,4),(5,3)],[.d (.str []),.nils 66,.d (.bool false),.d (.bool false),.d (.bool false),.d (.int .i64 (0))],false⟩ (.node (.node (.node (.node (.node .leaf 69 ⟨1,24,.slice 9,[.nils 9],false⟩ .leaf) 70 ⟨11,232,.struct [(0,9),(1,69),(2,9),(3,69),(4,44),(10,3)],[.d (.str []),.nils 9,.d (.str []),.nils 9,.nils 64,.nils 68,.nils 50,.nils 71,.nils 73,.nils 75,.d (.int .i64 (0))],false⟩ .leaf) 71 ⟨11,232,.struct [(0,9),(1,69),(2,9),(3,69),(4,44),(10,3)],[.d (.str []),.nils 9,.d (.str []),.nils 9,.nils 64,.nils 68,.nils 50,.nils 71,.nils 73,.nils 75,.d (.int .i64 (0))],false⟩ (.node (.node .leaf 72 ⟨4,64,.struct [(0,9),(1,9),(2,69),(3,3)],[.d (.str []),.d (.str []),.nils 9,.d (.int .i64 (0))],false⟩ .leaf) 73 ⟨4,64,.struct [(0,9),(1,9),(2,69),(3,3)],[.d (.str []),.d (.str []),.nils 9,.d (.int .i64 (0))],false⟩ .leaf)) 74 ⟨2,24,.struct [(0,9),(1,3)],[.d (.str []),.d (.int .i64 (0))],false⟩ (.node (.node (.node .leaf 75 ⟨2,24,.struct [(0,9),(1,3)],[.d (.str []),.d (.int .i64 (0))],true⟩ .leaf) 76 ⟨1,24,.slice 44,[.nils 44],false⟩ .leaf) 77 ⟨1,8,.func,[.d .nilf],false⟩ (.node (.node .leaf 78 ⟨1,8,.ptr 84,[.d .nilp],false⟩ .leaf) 79 ⟨1,8,.ptr 82,[.d .nilp],false⟩ .leaf))) 80 ⟨1,24,.slice 5,[.nils 5],false⟩ (.node (.node (.node (.node .leaf 81 ⟨2,32,.struct [(0,79),(1,80)],[.d .nilp,.nils 5],false⟩ .leaf) 82 ⟨2,32,.struct [(0,79),(1,80)],[.d .nilp,.nils 5],false⟩ .leaf) 83 ⟨2,32,.struct [(0,82)],[.d .nilp,.nils 5],false⟩ (.node (.node .leaf 84 ⟨2,32,.struct [(0,82)],[.d .nilp,.nils 5],false⟩ .leaf) 85 ⟨1,8,.func,[.d .nilf],false⟩ .leaf)) 86 ⟨1,8,.func,[.d .nilf],false⟩ (.node (.node (.node .leaf 87 ⟨1,8,.func,[.d .nilf],false⟩ .leaf) 88 ⟨1,0,.other,[],false⟩ .leaf) 89 ⟨1,8,.func,[.d .nilf],false⟩ (.node .leaf 90 ⟨1,8,.ptr 143,[.d .nilp],false⟩ .leaf)))))) 91 ⟨1,8,.func,[.d .nilf],false⟩ (.node (.node (.node (.node (.node (.node (.node .leaf 92 ⟨1,8,.func,[.d .nilf],false⟩ .leaf) 93 ⟨1,8,.func,[.d .nilf],false⟩ .leaf) 94 ⟨1,8,.func,[.d .nilf],false⟩ (.node (.node .leaf 95 ⟨3,72,.struct [(0,37),(1,38),(2,39)],[.nils 64,.nils 68,.nils 50],false⟩ .leaf) 96 ⟨3,72,.struct [(0,37),(1,38),(2,39)],[.nils 64,.nils 68,.nils 50],false⟩ .leaf)) 97 ⟨1,8,.func,[.d .nilf],false⟩ (.node (.node (.node .leaf 98 ⟨1,8,.func,[.d .nilf],false⟩ .leaf) 99 ⟨1,8,.func,[.d .nilf],false⟩ .leaf) 100 ⟨1,8,.func,[.d .nilf],false⟩ (.node (.node .leaf 101 ⟨1,8,.func,[.d .nilf],false⟩ .leaf) 102 ⟨1,8,.func,[.d .nilf],false⟩ .leaf))) 103 ⟨1,8,.func,[.d .nilf],false⟩ (.node (.node (.node (.node .leaf 104 ⟨1,8,.func,[.d .nilf],false⟩ .leaf) 105 ⟨1,8,.func,[.d .nilf],false⟩ .leaf) 106 ⟨1,8,.func,[.d .nilf],false⟩ (.node (.node .leaf 107 ⟨1,8,.func,[.d .nilf],false⟩ .leaf) 108 ⟨1,8,.func,[.d .nilf],false⟩ .leaf)) 109 ⟨1,8,.func,[.d .nilf],false⟩ (.node (.node (.node .leaf 110 ⟨1,8,.func,[.d .nilf],false⟩ .leaf) 111 ⟨1,8,.func,[.d .nilf],false⟩ .leaf) 112 ⟨1,8,.func,[.d .nilf],false⟩ (.node .leaf 113 ⟨1,8,.func,[.d .nilf],false⟩ .leaf)))) 114 ⟨1,8,.func,[.d .nilf],false⟩ (.node (.node (.node (.node (.node .leaf 115 ⟨1,8,.func,[.d .nilf],false⟩ .leaf) 116 ⟨1,8,.func,[.d .nilf],false⟩ .leaf) 117 ⟨1,8,.func,[.d .nilf],false⟩ (.node (.node .leaf 118 ⟨1,8,.func,[.d .nilf],false⟩ .leaf) 119 ⟨1,8,.func,[.d .nilf],false⟩ .leaf)) 120 ⟨1,8,.func,[.d .nilf],false⟩ (.node (.node (.node .leaf 121 ⟨1,8,.func,[.d .nilf],false⟩ .leaf) 122 ⟨3,32,.struct [(0,3),(1,9),(2,3)],[.d (.int .i64 (0)),.d (.str []),.d (.int .i64 (0))],false⟩ .leaf) 123 ⟨3,32,.struct [(0,3),(1,9),(2,3)],[.d (.int .i64 (0)),.d (.str []),.d (.int .i64 (0))],true⟩ (.node (.node .leaf 124 ⟨1,8,.func,[.d .nilf],false⟩ .leaf) 125 ⟨1,0,.other,[],false⟩ .leaf))) 126 ⟨1,8,.func,[.d .nilf],false⟩ (.node (.node (.node (.node .leaf 127 ⟨1,8,.func,[.d .nilf],false⟩ .leaf) 128 ⟨1,8,.func,[.d .nilf],false⟩ .leaf) 129 ⟨1,8,.func,[.d .nilf],false⟩ (.node (.node .leaf 130 ⟨1,8,.func,[.d .nilf],false⟩ .leaf) 131 ⟨1,8,.int .u64,[.d (.int .u64 (0))],true⟩ .leaf)) 132 ⟨1,8,.func,[.d .nilf],false⟩ (.node (.node (.node .leaf 133 ⟨1,8,.ptr 5,[.d .nilp],false⟩ .leaf) 134 ⟨1,24,.slice 218,[.nils 218],false⟩ .leaf) 135 ⟨1,0,.other,[],false⟩ (.node .leaf 136 ⟨1,8,.func,[.d .nilf],false⟩ .leaf))))) 137 ⟨2,16,.struct [(0,3),(1,27)],[.d (.int .i64 (0)),.d (.int .i64 (0))],false⟩ (.node (.node (.node (.node (.node (.node .leaf 138 ⟨2,16,.struct [(0,3),(1,27)],[.d (.int .i64 (0)),.d (.int .i64 (0))],true⟩ .leaf) 139 ⟨1,0,.other,[],false⟩ .leaf) 140 ⟨3,40,.struct [(0,134),(1,3),(2,3)],[.nils 218,.d (.int .i64 (0)),.d (.int .i64 (0))],false⟩ (.node (.node .leaf 141 ⟨3,40,.struct [(0,134),(1,3),(2,3)],[.nils 218,.d (.int .i64 (0)),.d (.int .i64 (0))],false⟩ .leaf) 142 ⟨4,48,.struct [(0,141),(3,3)],[.nils 218,.d (.int .i64 (0)),.d (.int .i64 (0)),.d (.int .i64 (0))],false⟩ .leaf)) 143 ⟨4,48,.struct [(0,141),(3,3)],[.nils 218,.d (.int .i64 (0)),.d (.int .i64 (0)),.d (.int .i64 (0))],false⟩ (.node (.node (.node .leaf 144 ⟨1,8,.func,[.d .nilf],false⟩ .leaf) 145 ⟨1,8,.func,[.d .nilf],false⟩ .leaf) 146 ⟨1,8,.func,[.d .nilf],false⟩ (.node (.node .leaf 147 ⟨2,40,.struct [(0,9),(1,61)],[.d (.str []),.nils 66],false⟩ .leaf) 148 ⟨2,40,.struct [(0,9),(1,61)],[.d (.str []),.nils 66],false⟩ .leaf))) 149 ⟨1,8,.func,[.d .nilf],false⟩ (.node (.node (.node (.node .leaf 150 ⟨1,8,.func,[.d .nilf],false⟩ .leaf) 151 ⟨1,8,.func,[.d .nilf],false⟩ .leaf) 152 ⟨1,8,.func,[.d .nilf],false⟩ (.node (.node .leaf 153 ⟨1,8,.func,[.d .nilf],false⟩ .leaf) 154 ⟨1,8,.func,[.d .nilf],false⟩ .leaf)) 155 ⟨1,8,.func,[.d .nilf],false⟩ (.node (.node (.node .leaf 156 ⟨1,8,.func,[.d .nilf],false⟩ .leaf) 157 ⟨1,8,.func,[.d .nilf],false⟩ .leaf) 158 ⟨1,8,.func,[.d .nilf],false⟩ (.node .leaf 159 ⟨1,8,.func,[.d .nilf],false⟩ .leaf)))) 160 ⟨1,8,.func,[.d .nilf],false⟩ (.node (.node (.node (.node (.node .leaf 161 ⟨1,8,.func,[.d .nilf],false⟩ .leaf) 162 ⟨1,8,.ptr 226,[.d .nilp],false⟩ .leaf) 163 ⟨1,0,.other,[],false⟩ (.node (.node .leaf 164 ⟨1,8,.func,[.d .nilf],false⟩ .leaf) 165 ⟨1,8,.func,[.d .nilf],false⟩ .leaf)) 166 ⟨1,8,.func,[.d .nilf],false⟩ (.node (.node (.node .leaf 167 ⟨1,8,.func,[.d .nilf],false⟩ .leaf) 168 ⟨1,8,.func,[.d .nilf],false⟩ .leaf) 169 ⟨1,8,.func,[.d .nilf],false⟩ (.node (.node .leaf 170 ⟨1,8,.func,[.d .nilf],false⟩ .leaf) 171 ⟨1,8,.func,[.d .nilf],false⟩ .leaf))) 172 ⟨1,8,.func,[.d .nilf],false⟩ (.node (.node (.node (.node .leaf 173 ⟨1,8,.func,[.d .nilf],false⟩ .leaf) 174 ⟨1,8,.func,[.d .nilf],false⟩ .leaf) 175 ⟨1,8,.func,[.d .nilf],false⟩ (.node (.node .leaf 176 ⟨1,8,.func,[.d .nilf],false⟩ .leaf) 177 ⟨1,8,.func,[.d .nilf],false⟩ .leaf)) 178 ⟨1,8,.func,[.d .nilf],false⟩ (.node (.node (.node .leaf 179 ⟨1,8,.func,[.d .nilf],false⟩ .leaf) 180 ⟨1,8,.func,[.d .nilf],false⟩ .leaf) 181 ⟨1,8,.func,[.d .nilf],false⟩ (.node .leaf 182 ⟨1,8,.func,[.d .nilf],false⟩ .leaf))))))) 183 ⟨1,8,.func,[.d .nilf],false⟩ (.node (.node (.node (.node (.node (.node (.node (.node .leaf 184 ⟨1,8,.func,[.d .nilf],false⟩ .leaf) 185 ⟨1,8,.func,[.d .nilf],false⟩ .leaf) 186 ⟨1,8,.func,[.d .nilf],false⟩ (.node (.node .leaf 187 ⟨1,8,.func,[.d .nilf],false⟩ .leaf) 188 ⟨1,8,.func,[.d .nilf],false⟩ .leaf)) 189 ⟨1,8,.func,[.d .nilf],false⟩ (.node (.node (.node .leaf 190 ⟨1,8,.func,[.d .nilf],false⟩ .leaf) 191 ⟨1,8,.func,[.d .nilf],false⟩ .leaf) 192 ⟨1,8,.func,[.d .nilf],false⟩ (.node (.node .leaf 193 ⟨1,8,.func,[.d .nilf],false⟩ .leaf) 194 ⟨3,3,.array 3 4,[.d (.bool false),.d (.bool false),.d (.bool false)],false⟩ .leaf))) 195 ⟨3,48,.array 3 9,[.d (.str []),.d (.str []),.d (.str [])],false⟩ (.node (.node (.node (.node .leaf 196 ⟨1,8,.func,[.d .nilf],false⟩ .leaf) 197 ⟨1,8,.func,[.d .nilf],false⟩ .leaf) 198 ⟨1,8,.func,[.d .nilf],false⟩ (.node (.node .leaf 199 ⟨1,8,.func,[.d .nilf],false⟩ .leaf) 200 ⟨1,8,.func,[.d .nilf],false⟩ .leaf)) 201 ⟨1,8,.func,[.d .nilf],false⟩ (.node (.node (.node .leaf 202 ⟨1,8,.func,[.d .nilf],false⟩ .leaf) 203 ⟨1,8,.func,[.d .nilf],false⟩ .leaf) 204 ⟨1,8,.func,[.d .nilf],false⟩ (.node .leaf 205 ⟨1,16,.iface,[.d .nili],false⟩ .leaf)))) 206 ⟨1,16,.iface,[.d .nili],false⟩ (.node (.node (.node (.node (.node .leaf 207 ⟨1,8,.func,[.d .nilf],false⟩ .leaf) 208 ⟨1,8,.func,[.d .nilf],false⟩ .leaf) 209 ⟨1,0,.other,[],false⟩ (.node (.node .leaf 210 ⟨1,8,.func,[.d .nilf],false⟩ .leaf) 211 ⟨1,8,.func,[.d .nilf],false⟩ .leaf)) 212 ⟨1,8,.func,[.d .nilf],false⟩ (.node (.node (.node .leaf 213 ⟨1,8,.func,[.d .nilf],false⟩ .leaf) 214 ⟨1,8,.func,[.d .nilf],false⟩ .leaf) 215 ⟨1,8,.func,[.d .nilf],false⟩ (.node (.node .leaf 216 ⟨1,8,.func,[.d .nilf],false⟩ .leaf) 217 ⟨5,48,.struct [(0,5),(1,9),(2,2),(3,3),(4,3)],[.d (.int .u8 (0)),.d (.str []),.d (.int .i64 (0)),.d (.int .i64 (0)),.d (.int .i64 (0))],false⟩ .leaf))) 218 ⟨5,48,.struct [(0,5),(1,9),(2,2),(3,3),(4,3)],[.d (.int .u8 (0)),.d (.str []),.d (.int .i64 (0)),.d (.int .i64 (0)),.d (.int .i64 (0))],true⟩ (.node (.node (.node (.node .leaf 219 ⟨2,16,.struct [(0,3),(1,27)],[.d (.int .i64 (0)),.d (.int .i64 (0))],false⟩ .leaf) 220 ⟨2,16,.struct [(0,3),(1,27)],[.d (.int .i64 (0)),.d (.int .i64 (0))],true⟩ .leaf) 221 ⟨1,0,.other,[],false⟩ (.node (.node .leaf 222 ⟨1,8,.func,[.d .nilf],false⟩ .leaf) 223 ⟨1,0,.other,[],false⟩ .leaf)) 224 ⟨1,8,.func,[.d .nilf],false⟩ (.node (.node (.node .leaf 225 ⟨6,64,.struct [(0,134),(1,3),(2,3),(3,3),(4,27),(5,3)],[.nils 218,.d (.int .i64 (0)),.d (.int .i64 (0)),.d (.int .i64 (0)),.d (.int .i64 (0)),.d (.int .i64 (0))],false⟩ .leaf) 226 ⟨6,64,.struct [(0,134),(1,3),(2,3),(3,3),(4,27),(5,3)],[.nils 218,.d (.int .i64 (0)),.d (.int .i64 (0)),.d (.int .i64 (0)),.d (.int .i64 (0)),.d (.int .i64 (0))],false⟩ .leaf) 227 ⟨1,0,.other,[],false⟩ (.node .leaf 228 ⟨1,8,.func,[.d .nilf],false⟩ .leaf))))) 229 ⟨1,8,.func,[.d .nilf],false⟩ (.node (.node (.node (.node (.node (.node .leaf 230 ⟨1,8,.func,[.d .nilf],false⟩ .leaf) 231 ⟨1,8,.func,[.d .nilf],false⟩ .leaf) 232 ⟨6,96,.array 6 9,[.d (.str []),.d (.str []),.d (.str []),.d (.str []),.d (.str []),.d (.str [])],false⟩ (.node (.node .leaf 233 ⟨4,64,.array 4 9,[.d (.str []),.d (.str []),.d (.str []),.d (.str [])],false⟩ .leaf) 234 ⟨1,8,.func,[.d .nilf],false⟩ .leaf)) 235 ⟨1,8,.func,[.d .nilf],false⟩ (.node (.node (.node .leaf 236 ⟨1,8,.func,[.d .nilf],false⟩ .leaf) 237 ⟨1,8,.func,[.d .nilf],false⟩ .leaf) 238 ⟨1,8,.func,[.d .nilf],false⟩ (.node (.node .leaf 239 ⟨1,8,.ptr 141,[.d .nilp],false⟩ .leaf) 240 ⟨1,8,.func,[.d .nilf],false⟩ .leaf))) 241 ⟨1,8,.func,[.d .nilf],false⟩ (.node (.node (.node (.node .leaf 242 ⟨1,8,.func,[.d .nilf],false⟩ .leaf) 243 ⟨1,8,.func,[.d .nilf],false⟩ .leaf) 244 ⟨1,8,.func,[.d .nilf],false⟩ (.node (.node .leaf 245 ⟨1,8,.func,[.d .nilf],false⟩ .leaf) 246 ⟨1,8,.func,[.d .nilf],false⟩ .leaf)) 247 ⟨1,8,.func,[.d .nilf],false⟩ (.node (.node (.node .leaf 248 ⟨1,8,.func,[.d .nilf],false⟩ .leaf) 249 ⟨1,8,.ptr 251,[.d .nilp],false⟩ .leaf) 250 ⟨2,24,.struct [(0,9),(1,3)],[.d (.str []),.d (.int .i64 (0))],false⟩ (.node .leaf 251 ⟨2,24,.struct [(0,9),(1,3)],[.d (.str []),.d (.int .i64 (0))],true⟩ .leaf)))) 252 ⟨1,8,.func,[.d .nilf],false⟩ (.node (.node (.node (.node (.node .leaf 253 ⟨1,8,.func,[.d .nilf],false⟩ .leaf) 254 ⟨1,8,.func,[.d .nilf],false⟩ .leaf) 255 ⟨1,8,.func,[.d .nilf],false⟩ (.node (.node .leaf 256 ⟨1,8,.func,[.d .nilf],false⟩ .leaf) 257 ⟨256,256,.other,[],false⟩ .leaf)) 258 ⟨2,2,.struct [(0,5),(1,5)],[.d (.int .u8 (0)),.d (.int .u8 (0))],false⟩ (.node (.node (.node .leaf 259 ⟨2,2,.struct [(0,5),(1,5)],[.d (.int .u8 (0)),.d (.int .u8 (0))],false⟩ .leaf) 260 ⟨32,32,.array 16 259,[.d (.int .u8 (0)),.d (.int .u8 (0)),.d (.int .u8 (0)),.d (.int .u8 (0)),.d (.int .u8 (0)),.d (.int .u8 (0)),.d (.int .u8 (0)),.d (.int .u8 (0)),.d (.int .u8 (0)),.d (.int .u8 (0)),.d (.int .u8 (0)),.d (.int .u8 (0)),.d (.int .u8 (0)),.d (.int .u8 (0)),.d (.int .u8 (0)),.d (.int .u8 (0)),.d (.int .u8 (0)),.d (.int .u8 (0)),.d (.int .u8 (0)),.d (.int .u8 (0)),.d (.int .u8 (0)),.d (.int .u8 (0)),.d (.int .u8 (0)),.d (.int .u8 (0)),.d (.int .u8 (0)),.d (.int .u8 (0)),.d (.int .u8 (0)),.d (.int .u8 (0)),.d (.int .u8 (0)),.d (.int .u8 (0)),.d (.int .u8 (0)),.d (.int .u8 (0))],false⟩ .leaf) 261 ⟨1,8,.int .u64,[.d (.int .u64 (0))],true⟩ (.node (.node .leaf 262 ⟨1,8,.func,[.d .nilf],false⟩ .leaf) 263 ⟨1,8,.func,[.d .nilf],false⟩ .leaf))) 264 ⟨1,8,.func,[.d .nilf],false⟩ (.node (.node (.node (.node .leaf 265 ⟨1,8,.func,[.d .nilf],false⟩ .leaf) 266 ⟨1,8,.func,[.d .nilf],false⟩ .leaf) 267 ⟨1,8,.func,[.d .nilf],false⟩ (.node (.node .leaf 268 ⟨24,24,.array 24 5,[.d (.int .u8 (0)),.d (.int .u8 (0)),.d (.int .u8 (0)),.d (.int .u8 (0)),.d (.int .u8 (0)),.d (.int .u8 (0)),.d (.int .u8 (0)),.d (.int .u8 (0)),.d (.int .u8 (0)),.d (.int .u8 (0)),.d (.int .u8 (0)),.d (.int .u8 (0)),.d (.int .u8 (0)),.d (.int .u8 (0)),.d (.int .u8 (0)),.d (.int .u8 (0)),.d (.int .u8 (0)),.d (.int .u8 (0)),.d (.int .u8 (0)),.d (.int .u8 (0)),.d (.int .u8 (0)),.d (.int .u8 (0)),.d (.int .u8 (0)),.d (.int .u8 (0))],false⟩ .leaf) 269 ⟨1,8,.func,[.d .nilf],false⟩ .leaf)) 270 ⟨1,8,.func,[.d .nilf],false⟩ (.node (.node (.node .leaf 271 ⟨1,0,.other,[],false⟩ .leaf) 272 ⟨1,8,.func,[.d .nilf],false⟩ .leaf) 273 ⟨1,8,.func,[.d .nilf],false⟩ (.node .leaf 274 ⟨1,0,.other,[],false⟩ .leaf)))))) 275 ⟨1,8,.func,[.d .nilf],false⟩ (.node (.node (.node (.node (.node (.node (.node .leaf 276 ⟨2,24,.struct [(0,9),(1,5)],[.d (.str []),.d (.int .u8 (0))],false⟩ .leaf) 277 ⟨4,48,.array 2 276,[.d (.str []),.d (.int .u8 (0)),.d (.str []),.d (.int .u8 (0))],false⟩ .leaf) 278 ⟨1,8,.func,[.d .nilf],false⟩ (.node (.node .leaf 279 ⟨1,8,.func,[.d .nilf],false⟩ .leaf) 280 ⟨1,8,.func,[.d .nilf],false⟩ .leaf)) 281 ⟨1,8,.func,[.d .nilf],false⟩ (.node (.node (.node .leaf 282 ⟨1,8,.func,[.d .nilf],false⟩ .leaf) 283 ⟨1,8,.func,[.d .nilf],false⟩ .leaf) 284 ⟨1,8,.func,[.d .nilf],false⟩ (.node (.node .leaf 285 ⟨1,8,.func,[.d .nilf],false⟩ .leaf) 286 ⟨1,8,.func,[.d .nilf],false⟩ .leaf))) 287 ⟨1,8,.func,[.d .nilf],false⟩ (.node (.node (.node (.node .leaf 288 ⟨1,8,.func,[.d .nilf],false⟩ .leaf) 289 ⟨1,8,.func,[.d .nilf],false⟩ .leaf) 290 ⟨1,8,.func,[.d .nilf],false⟩ (.node (.node .leaf 291 ⟨1,8,.func,[.d .nilf],false⟩ .leaf) 292 ⟨1,8,.func,[.d .nilf],false⟩ .leaf)) 293 ⟨1,8,.func,[.d .nilf],false⟩ (.node (.node (.node .leaf 294 ⟨1,8,.func,[.d .nilf],false⟩ .leaf) 295 ⟨1,8,.func,[.d .nilf],false⟩ .leaf) 296 ⟨1,8,.func,[.d .nilf],false⟩ (.node .leaf 297 ⟨1,8,.func,[.d .nilf],false⟩ .leaf)))) 298 ⟨1,8,.func,[.d .nilf],false⟩ (.node (.node (.node (.node (.node .leaf 299 ⟨1,8,.func,[.d .nilf],false⟩ .leaf) 300 ⟨1,8,.other,[.d .nilp],false⟩ .leaf) 301 ⟨1,8,.func,[.d .nilf],false⟩ (.node (.node .leaf 302 ⟨1,4,.int .u32,[.d (.int .u32 (0))],true⟩ .leaf) 303 ⟨1,8,.func,[.d .nilf],false⟩ .leaf)) 304 ⟨20,160,.array 20 131,[.d (.int .u64 (0)),.d (.int .u64 (0)),.d (.int .u64 (0)),.d (.int .u64 (0)),.d (.int .u64 (0)),.d (.int .u64 (0)),.d (.int .u64 (0)),.d (.int .u64 (0)),.d (.int .u64 (0)),.d (.int .u64 (0)),.d (.int .u64 (0)),.d (.int .u64 (0)),.d (.int .u64 (0)),.d (.int .u64 (0)),.d (.int .u64 (0)),.d (.int .u64 (0)),.d (.int .u64 (0)),.d (.int .u64 (0)),.d (.int .u64 (0)),.d (.int .u64 (0))],false⟩ (.node (.node (.node .leaf 305 ⟨65,65,.other,[],false⟩ .leaf) 306 ⟨1,8,.func,[.d .nilf],false⟩ .leaf) 307 ⟨1,8,.func,[.d .nilf],false⟩ (.node (.node .leaf 308 ⟨1,8,.func,[.d .nilf],false⟩ .leaf) 309 ⟨1,8,.func,[.d .nilf],false⟩ .leaf))) 310 ⟨1,0,.other,[],false⟩ (.node (.node (.node (.node .leaf 311 ⟨1,8,.func,[.d .nilf],false⟩ .leaf) 312 ⟨1,0,.other,[],false⟩ .leaf) 313 ⟨1,8,.func,[.d .nilf],false⟩ (.node (.node .leaf 314 ⟨1,8,.func,[.d .nilf],false⟩ .leaf) 315 ⟨1,8,.func,[.d .nilf],false⟩ .leaf)) 316 ⟨1,8,.func,[.d .nilf],false⟩ (.node (.node (.node .leaf 317 ⟨1,8,.func,[.d .nilf],false⟩ .leaf) 318 ⟨256,256,.other,[],false⟩ .leaf) 319 ⟨256,256,.other,[],false⟩ (.node .leaf 320 ⟨1,0,.other,[],false⟩ .leaf))))) 321 ⟨1,8,.func,[.d .nilf],false⟩ (.node (.node (.node (.node (.node (.node .leaf 322 ⟨1,8,.func,[.d .nilf],false⟩ .leaf) 323 ⟨1,8,.ptr 319,[.d .nilp],false⟩ .leaf) 324 ⟨5,80,.array 5 9,[.d (.str []),.d (.str []),.d (.str []),.d (.str []),.d (.str [])],false⟩ (.node (.node .leaf 325 ⟨1,0,.other,[],false⟩ .leaf) 326 ⟨1,8,.func,[.d .nilf],false⟩ .leaf)) 327 ⟨1,8,.func,[.d .nilf],false⟩ (.node (.node (.node .leaf 328 ⟨1,0,.other,[],false⟩ .leaf) 329 ⟨1,8,.func,[.d .nilf],false⟩ .leaf) 330 ⟨1,0,.other,[],false⟩ (.node (.node .leaf 331 ⟨1,8,.func,[.d .nilf],false⟩ .leaf) 332 ⟨1,8,.func,[.d .nilf],false⟩ .leaf))) 333 ⟨32,32,.array 32 5,[.d (.int .u8 (0)),.d (.int .u8 (0)),.d (.int .u8 (0)),.d (.int .u8 (0)),.d (.int .u8 (0)),.d (.int .u8 (0)),.d (.int .u8 (0)),.d (.int .u8 (0)),.d (.int .u8 (0)),.d (.int .u8 (0)),.d (.int .u8 (0)),.d (.int .u8 (0)),.d (.int .u8 (0)),.d (.int .u8 (0)),.d (.int .u8 (0)),.d (.int .u8 (0)),.d (.int .u8 (0)),.d (.int .u8 (0)),.d (.int .u8 (0)),.d (.int .u8 (0)),.d (.int .u8 (0)),.d (.int .u8 (0)),.d (.int .u8 (0)),.d (.int .u8 (0)),.d (.int .u8 (0)),.d (.int .u8 (0)),.d (.int .u8 (0)),.d (.int .u8 (0)),.d (.int .u8 (0)),.d (.int .u8 (0)),.d (.int .u8 (0)),.d (.int .u8 (0))],false⟩ (.node (.node (.node (.node .leaf 334 ⟨64,64,.array 64 5,[.d (.int .u8 (0)),.d (.int .u8 (0)),.d (.int .u8 (0)),.d (.int .u8 (0)),.d (.int .u8 (0)),.d (.int .u8 (0)),.d (.int .u8 (0)),.d (.int .u8 (0)),.d (.int .u8 (0)),.d (.int .u8 (0)),.d (.int .u8 (0)),.d (.int .u8 (0)),.d (.int .u8 (0)),.d (.int .u8 (0)),.d (.int .u8 (0)),.d (.int .u8 (0)),.d (.int .u8 (0)),.d (.int .u8 (0)),.d (.int .u8 (0)),.d (.int .u8 (0)),.d (.int .u8 (0)),.d (.int .u8 (0)),.d (.int .u8 (0)),.d (.int .u8 (0)),.d (.int .u8 (0)),.d (.int .u8 (0)),.d (.int .u8 (0)),.d (.int .u8 (0)),.d (.int .u8 (0)),.d (.int .u8 (0)),.d (.int .u8 (0)),.d (.int .u8 (0)),.d (.int .u8 (0)),.d (.int .u8 (0)),.d (.int .u8 (0)),.d (.int .u8 (0)),.d (.int .u8 (0)),.d (.int .u8 (0)),.d (.int .u8 (0)),.d (.int .u8 (0)),.d (.int .u8 (0)),.d (.int .u8 (0)),.d (.int .u8 (0)),.d (.int .u8 (0)),.d (.int .u8 (0)),.d (.int .u8 (0)),.d (.int .u8 (0)),.d (.int .u8 (0)),.d (.int .u8 (0)),.d (.int .u8 (0)),.d (.int .u8 (0)),.d (.int .u8 (0)),.d (.int .u8 (0)),.d (.int .u8 (0)),.d (.int .u8 (0)),.d (.int .u8 (0)),.d (.int .u8 (0)),.d (.int .u8 (0)),.d (.int .u8 (0)),.d (.int .u8 (0)),.d (.int .u8 (0)),.d (.int .u8 (0)),.d (.int .u8 (0)),.d (.int .u8 (0))],false⟩ .leaf) 335 ⟨1,8,.func,[.d .nilf],false⟩ .leaf) 336 ⟨1,8,.func,[.d .nilf],false⟩ (.node (.node .leaf 337 ⟨1,8,.func,[.d .nilf],false⟩ .leaf) 338 ⟨1,8,.func,[.d .nilf],false⟩ .leaf)) 339 ⟨1,8,.func,[.d .nilf],false⟩ (.node (.node (.node .leaf 340 ⟨1,8,.func,[.d .nilf],false⟩ .leaf) 341 ⟨1,0,.other,[],false⟩ .leaf) 342 ⟨1,8,.func,[.d .nilf],false⟩ (.node .leaf 343 ⟨1,8,.int .i64,[.d (.int .i64 (0))],true⟩ .leaf)))) 344 ⟨1,8,.func,[.d .nilf],false⟩ (.node (.node (.node (.node (.node .leaf 345 ⟨1,8,.ptr 350,[.d .nilp],false⟩ .leaf) 346 ⟨1,8,.func,[.d .nilf],false⟩ .leaf) 347 ⟨1,8,.func,[.d .nilf],false⟩ (.node (.node .leaf 348 ⟨1,8,.func,[.d .nilf],false⟩ .leaf) 349 ⟨3,48,.struct [(0,9),(1,9),(2,206)],[.d (.str []),.d (.str []),.d .nili],false⟩ .leaf)) 350 ⟨3,48,.struct [(0,9),(1,9),(2,206)],[.d (.str []),.d (.str []),.d .nili],false⟩ (.node (.node (.node .leaf 351 ⟨1,8,.func,[.d .nilf],false⟩ .leaf) 352 ⟨1,8,.ptr 354,[.d .nilp],false⟩ .leaf) 353 ⟨1,16,.struct [(0,9)],[.d (.str [])],false⟩ (.node (.node .leaf 354 ⟨1,16,.struct [(0,9)],[.d (.str [])],false⟩ .leaf) 355 ⟨4,40,.struct [(0,17),(1,17),(2,17),(3,9)],[.d .nilp,.d .nilp,.d .nilp,.d (.str [])],false⟩ .leaf))) 356 ⟨4,40,.struct [(0,17),(1,17),(2,17),(3,9)],[.d .nilp,.d .nilp,.d .nilp,.d (.str [])],false⟩ (.node (.node (.node (.node .leaf 357 ⟨0,0,.other,[],false⟩ .leaf) 358 ⟨0,0,.other,[],false⟩ .leaf) 359 ⟨0,0,.other,[],false⟩ (.node (.node .leaf 360 ⟨1,1,.int .u8,[.d (.int .u8 (0))],true⟩ .leaf) 361 ⟨1,1,.int .u8,[.d (.int .u8 (0))],true⟩ .leaf)) 362 ⟨1,8,.func,[.d .nilf],false⟩ (.node (.node (.node .leaf 363 ⟨1,4,.int .i32,[.d (.int .i32 (0))],true⟩ .leaf) 364 ⟨1,4,.int .i32,[.d (.int .i32 (0))],true⟩ .leaf) 365 ⟨11,48,.struct [(0,12),(1,12),(2,302),(3,360),(4,5),(5,5),(6,361),(7,362),(8,133),(9,363),(10,364)],[.d (.int .u64 (0)),.d (.int .u64 (0)),.d (.int .u32 (0)),.d (.int .u8 (0)),.d (.int .u8 (0)),.d (.int .u8 (0)),.d (.int .u8 (0)),.d .nilf,.d .nilp,.d (.int .i32 (0)),.d (.int .i32 (0))],false⟩ (.node .leaf 366 ⟨11,48,.struct [(0,12),(1,12),(2,302),(3,360),(4,5),(5,5),(6,361),(7,362),(8,133),(9,363),(10,364)],[.d (.int .u64 (0)),.d (.int .u64 (0)),.d (.int .u32 (0)),.d (.int .u8 (0)),.d (.int .u8 (0)),.d (.int .u8 (0)),.d (.int .u8 (0)),.d .nilf,.d .nilp,.d (.int .i32 (0)),.d (.int .i32 (0))],false⟩ .leaf))))))))
theorem Y6:TabOK ZhK Tryz.prog:=by unfold TabOK;kernel_rfl
theorem mixed:Tryz.prog.follows .mixedOrders=true:=by kernel_rfl
end Go.PM.Lex
end

section
namespace Go.PM.Lex
abbrev Bs:=List UInt8
def Zl (c:Int):Bool:=decide (48≤c∧c≤57)
def Zg (c:Int):Bool:=decide (c=95∨128≤c∨(97≤c∧c≤122)∨(65≤c∧c≤90))
def pk (r:Bs):Int×Nat:=if r=[]∨Lib.decodeL r=(65533,1) then (-1,1) else ((Lib.decodeL r).1,(Lib.decodeL r).2)
def ZI:Nat→Bs→Nat
 | 0,_=>0
 | f+1,r=>if (pk r).1=46 then (if Zg (pk (r.drop 1)).1=true then (pk r).2+ZI f (r.drop (pk r).2) else 0)
   else if Zg (pk r).1=true∨Zl (pk r).1=true then (pk r).2+ZI f (r.drop (pk r).2) else 0
def Y7 (r:Bs):Nat:=ZI (r.length+1) r
def ZS:Nat→Bs→Bool×Nat
 | 0,_=>(false,0)
 | f+1,r =>
  let rest:=Lib.trimLeftS r [32,9,13,10]
  let k:=r.length - rest.length
  if Lib.hasPrefix rest [47,47]=true then
   let n:=if Lib.indexByte rest 10<0 then rest.length else (Lib.indexByte rest 10).toNat
   let t:=ZS f (rest.drop n)
   (t.1,k+n+t.2)
  else if Lib.hasPrefix rest [47,42]=true then
   if Lib.index (rest.drop 2) [42,47]<0 then (false,k) else
   let n:=(Lib.index (rest.drop 2) [42,47]).toNat+4
   let t:=ZS f (rest.drop n)
   (t.1,k+n+t.2)
  else (true,k)
def YC (r:Bs):Bool×Nat:=ZS (r.length+1) r
def Wl (hex:Bool) (b:UInt8):Bool:=Zl b.toNat || (hex && decide ((97≤b.toNat∧b.toNat≤102)∨(65≤b.toNat∧b.toNat≤70)))
def Ze0 (b:UInt8):Nat:=if b.toNat≤57 then b.toNat - 48 else if b.toNat≤70 then b.toNat - 55 else b.toNat - 87
def Wz (base:Nat) (l:Bs):Nat:=l.foldl (fun n b=>n * base+Ze0 b) 0
def Xq (r:Bs):Bool:=Lib.hasPrefix r [48,120]
def Ze (r:Bs):Bs:=(r.drop (if Xq r then 2 else 0)).takeWhile (Wl (Xq r))
def Zm (r:Bs):Nat:=(if Xq r then 2 else 0)+(Ze r).length
def ZE (r:Bs):Option Nat :=
 if Ze r=[] then none
 else if (if Xq r then 18446744073709551616 else 9223372036854775808)≤Wz (if Xq r then 16 else 10) (Ze r) then none
 else if Zg (pk (r.drop (Zm r))).1=true∨Zl (pk (r.drop (Zm r))).1=true∨(Xq r=true∧16<(Ze r).length) then none
 else some (Wz (if Xq r then 16 else 10) (Ze r))
def ZnH (c:Nat):Option UInt8:=if c=110 then some 10 else if c=116 then some 9 else if c=34 then some 34 else if c=92 then some 92 else none
inductive TR where
 | err (at':Nat) | ok (txt:Bs) (len:Nat)
 deriving DecidableEq
def ZD:Nat→Bs→Bool→Bs→Nat→TR
 | 0,_,_,_,_=>.err 0
 | f+1,r,esc,acc,p =>
  if r=[] then .err 0
  else if esc=true then (match ZnH (Lib.decodeL r).1 with
   | none=>.err (p - 1)
   | some b=>ZD f (r.drop (Lib.decodeL r).2) false (acc++[b]) (p+(Lib.decodeL r).2))
  else if (Lib.decodeL r).1=34 then .ok acc (p+1)
  else if (Lib.decodeL r).1=92 then ZD f (r.drop (Lib.decodeL r).2) true acc (p+(Lib.decodeL r).2)
  else if (pk r).1<32 then .err p
  else ZD f (r.drop (Lib.decodeL r).2) false (acc++Lib.encodeRune (Lib.decodeL r).1) (p+(Lib.decodeL r).2)
def Wf (r:Bs):TR:=ZD (r.length+1) (r.drop 1) false [] 1
def twos:List Bs:=[[58,45],[33,61],[60,61],[62,61],[60,58]]
def ones:Bs:=[40,41,91,93,123,125,44,46,58,33,61,60,62,43,45,42,47,37,124,36,126]
def YF (r:Bs):Nat:=if twos.any (Lib.hasPrefix r) then 2 else if ones.contains (r.getD 0 0) then 1 else 0
structure Tok where
 kind:Nat
 text:Bs
 n:Int
 at':Nat
 fin:Nat
 deriving DecidableEq
inductive NR where
 | bad (at':Nat) (e:Nat) | tok (t:Tok)
 deriving DecidableEq
def Xw (a:Nat) (r:Bs):NR:=match ZE r with | none=>.bad a 142 | some n=>.tok ⟨2,[],IntKind.i64.wrap n,a,a+Zm r⟩
def Zae (a:Nat) (r:Bs):NR:=match Wf r with | .err p=>.bad (a+p) 141 | .ok t l=>.tok ⟨3,t,0,a,a+l⟩
def VS (a:Nat) (r:Bs) (room:Bool):NR :=
 let c:=(pk r).1
 let n:=YF r
 if n=0∧c≠34∧Zg c=false∧Zl c=false then .bad a 140
 else if room=false then .bad a 3
 else if 0<n then .tok ⟨4,r.take n,0,a,a+n⟩
 else if c=34 then Zae a r
 else if Zl c=true then Xw a r
 else .tok ⟨1,r.take (Y7 r),0,a,a+Y7 r⟩
def Wm:Nat→Int→Nat→Bs→List Tok×(Nat×Nat)
 | 0,_,_,_=>([],(0,0))
 | f+1,most,a,r =>
  if (YC r).1=false then ([],(a+(YC r).2,140))
  else
   let a:=a+(YC r).2
   let r:=r.drop (YC r).2
   if r=[] then ([],(0,0))
   else match VS a r (decide (0<most)) with
    | .bad p e=>([],(p,e))
    | .tok t=>let u:=Wm f (most - 1) t.fin (r.drop (t.fin - a));(t::u.1,u.2)
def ZdD (s:Bs) (most:Int):List Tok×(Nat×Nat):=Wm (s.length+1) most 0 s
end Go.PM.Lex
end

section
noncomputable section
namespace Go.PM.Lex
open Go.Proofs
abbrev GG (w0:World) (nG:Nat):GE:=⟨Tryz.prog,w0,nG⟩
theorem pc {w0:World} {nG:Nat} {tbl:Tbl} {sp:Zu} {g:FuncId} {fn:Func} {c:Code} (ht:TblOK (GG w0 nG) tbl) (hf:Tryz.prog.funcs[g]?=some fn) (h:∀args σ K,sp args σ K→∃loops keep own,σ.bx.length≤keep∧args.length≤fn.ntmps∧WF (ctx ZhK tbl loops) fn keep own args σ K) (hb:fn.body=some c:=by rfl) (hn:(fn.name == "runtime.NumGoroutine") = false:=by kernel_rfl) (hk:Zw fn.ntmps c=true:=by kernel_rfl):PCalls (GG w0 nG) g sp:=Zf9 Y6 mixed ht hf hb hn hk h
theorem Zei (s:Bs) (pos:Nat):decodeL s pos=Lib.decodeL (s.drop pos):=by
 have:=Lib.decodeL_drop ⟨s.toArray⟩ pos
 simpa [decodeL] using this.symm
def YL:Zu:=fun args σ K=>match args with
 | [.d (.str s),.d (.str p)]=>K (.ret (.d (.bool (Lib.hasPrefix s p)))) σ
 | _=>False
def Xf:Zu:=fun args σ K=>match args with
 | [.d (.str s),.d (.int .u8 c)]=>K (.ret (.d (.int .i64 (Lib.indexByte s c.toNat.toUInt8)))) σ
 | _=>False
def ZcE:Zu:=fun args σ K=>match args with
 | [.d (.str s),.d (.str p)]=>s.length<4294967281∧K (.ret (.d (.int .i64 (Lib.index s p)))) σ
 | _=>False
def Ur:Zu:=fun args σ K=>match args with
 | [.d (.int .i32 c)]=>K (.ret (.d (.int .i64 (Lib.runeLen c)))) σ
 | _=>False
def Vu:Zu:=fun args σ K=>match args with
 | [.d (.str s),.d (.str p)]=>(p.length<4294967281∧∀(j:Nat) b,p[j]?=some b→b.toNat<128)∧K (.ret (.d (.str (Lib.trimLeftS s p)))) σ
 | _=>False
theorem Xc:Zc YL:=fun args σ K K' hK h=>by
 unfold YL at h ⊢;split at h <;> first | exact hK _ _ h | exact h.elim
theorem Wg:Zc Xf:=fun args σ K K' hK h=>by
 unfold Xf at h ⊢;split at h <;> first | exact hK _ _ h | exact h.elim
theorem Zga:Zc ZcE:=fun args σ K K' hK h=>by
 unfold ZcE at h ⊢;split at h <;> first | exact ⟨h.1,hK _ _ h.2⟩ | exact h.elim
theorem ZdE:Zc Ur:=fun args σ K K' hK h=>by
 unfold Ur at h ⊢;split at h <;> first | exact hK _ _ h | exact h.elim
theorem ZcF:Zc Vu:=fun args σ K K' hK h=>by
 unfold Vu at h ⊢;split at h <;> first | exact ⟨h.1,hK _ _ h.2⟩ | exact h.elim
abbrev ZdF (k:Int) (x:Bs) (n a f:Int):PV:=.agg [.d (.int .u8 k),.d (.str x),.d (.int .i64 n),.d (.int .i64 a),.d (.int .i64 f)]
abbrev Zgb (a e:Int):PV:=.agg [.d (.int .i64 a),.d (.int .i64 e)]
def NR.t:NR→Tok | .bad _ _=>⟨0,[],0,0,0⟩ | .tok t=>t
def NR.p:NR→Nat | .bad p _=>p | .tok _=>0
def NR.e:NR→Nat | .bad _ e=>e | .tok _=>0
abbrev ZwG (x:NR):PV:=.tuple [ZdF x.t.kind x.t.text x.t.n x.t.at' x.t.fin,Zgb x.p x.e]
def W3:Zu:=fun args σ K=>match args,σ with
 | [.d (.int .i32 c)],⟨[],[],0⟩=>(-1≤c∧c<2147483648)∧K (.ret (.d (.bool (Zg c)))) ⟨[],[],0⟩
 | _,_=>False
def JD:Zu:=fun args σ K=>match args,σ with
 | [.d (.int .i32 c)],⟨[],[],0⟩=>K (.ret (.d (.bool (Zl c)))) ⟨[],[],0⟩
 | _,_=>False
def Jg:Zu:=fun args σ K=>match args,σ with
 | [.ptr 0 0,.d (.int .i64 at')],⟨[.cells t [.d (.str s),.d (.int .i64 a)]],[],0⟩=>(0≤at'∧s.length<4611686018427387904) ∧
   K (.ret (.tuple [.d (.int .i32 (pk (s.drop at'.toNat)).1),.d (.int .i64 (pk (s.drop at'.toNat)).2)])) ⟨[.cells t [.d (.str s),.d (.int .i64 a)]],[],0⟩
 | _,_=>False
def ZcG:Zu:=fun args σ K=>match args,σ with
 | [.ptr 0 0],⟨[.cells t [.d (.str s),.d (.int .i64 a)]],[],0⟩=>(0≤a∧a≤s.length∧s.length<4294967281) ∧
   K (.ret (ZdF 1 ((s.drop a.toNat).take (Y7 (s.drop a.toNat))) 0 a (a+Y7 (s.drop a.toNat)))) ⟨[.cells t [.d (.str s),.d (.int .i64 a)]],[],0⟩
 | _,_=>False
def ZaX:Zu:=fun args σ K=>match args,σ with
 | [.ptr 0 0],⟨[.cells t [.d (.str s),.d (.int .i64 a)]],[],0⟩=>(0≤a∧a≤s.length∧s.length<4294967281) ∧
   K (.ret (.d (.bool (YC (s.drop a.toNat)).1))) ⟨[.cells t [.d (.str s),.d (.int .i64 (a+(YC (s.drop a.toNat)).2))]],[],0⟩
 | _,_=>False
def Zej:Zu:=fun args σ K=>match args,σ with
 | [.ptr 0 0],⟨[.cells t [.d (.str s),.d (.int .i64 a)]],[],0⟩=>(0≤a∧a<s.length∧s.length<4294967281) ∧
   K (.ret (.d (.int .i64 (YF (s.drop a.toNat))))) ⟨[.cells t [.d (.str s),.d (.int .i64 a)]],[],0⟩
 | _,_=>False
theorem Wn:Zc W3:=fun args σ K K' hK h=>by
 unfold W3 at h ⊢;split at h <;> first | exact ⟨h.1,hK _ _ h.2⟩ | exact h.elim
theorem Us:Zc JD:=fun args σ K K' hK h=>by
 unfold JD at h ⊢;split at h <;> first | exact hK _ _ h | exact h.elim
theorem WC:Zc Jg:=fun args σ K K' hK h=>by
 unfold Jg at h ⊢;split at h <;> first | exact ⟨h.1,hK _ _ h.2⟩ | exact h.elim
theorem ZcH:Zc ZcG:=fun args σ K K' hK h=>by
 unfold ZcG at h ⊢;split at h <;> first | exact ⟨h.1,hK _ _ h.2⟩ | exact h.elim
theorem Zgc:Zc ZaX:=fun args σ K K' hK h=>by
 unfold ZaX at h ⊢;split at h <;> first | exact ⟨h.1,hK _ _ h.2⟩ | exact h.elim
theorem ZhL:Zc Zej:=fun args σ K K' hK h=>by
 unfold Zej at h ⊢;split at h <;> first | exact ⟨h.1,hK _ _ h.2⟩ | exact h.elim
end Go.PM.Lex
end
end

section
noncomputable section
namespace Go.PM
theorem Yu {G:GE} {g:FuncId} {sp:Zu} (hent:WZ G.P g)
  (h:∀args σ K,sp args σ K→∀(e:Env) (w:World) (vs:Array Value),SRel G e σ w→ArgsRel G e σ w args vs→∃pv,K (.ret pv) σ∧∃v,(∀w',Grows w w'→VRel G e σ w' pv v)∧Calls G.P g vs w fun en w'=>en=.returned v∧Grows w w'):PCalls G g sp where
 enters:=hent
 calls:=fun args σ K hs n e w vs hS ha=>by
  obtain ⟨pv,hK,v,hv,hc⟩:=h args σ K hs e w vs hS ha
  refine CallsIn.mono (callsIn_wide.2 hc) fun en w' ⟨he,hg⟩=>?_
  subst he
  exact ⟨.ret pv,σ,e,hK,⟨v,rfl,hv w' hg⟩,hS.grow hg,(hg.stepped e σ).toLater⟩
theorem Zyx {w w':World} (h:RowKit.Below w.heap.size w w'):Grows w w':=⟨h.os,h.tape,h.output,h.size,h.block⟩
section
variable {G:GE} {e:Env} {σ:St} {w:World} {vs:Array Value}
theorem Zgd {x:PV} (h:ArgsRel G e σ w [x] vs):∃u,vs=#[u]∧VRel G e σ w x u:=by
 obtain ⟨hs,hr⟩:=h
 obtain ⟨l⟩:=vs
 match l,hs with
 | [u],_=>exact ⟨u,rfl,hr 0 x u rfl rfl⟩
theorem Zge {x y:PV} (h:ArgsRel G e σ w [x,y] vs):∃u v,vs=#[u,v]∧VRel G e σ w x u∧VRel G e σ w y v:=by
 obtain ⟨hs,hr⟩:=h
 obtain ⟨l⟩:=vs
 match l,hs with
 | [u,v],_=>exact ⟨u,v,rfl,hr 0 x u rfl rfl,hr 1 y v rfl rfl⟩
end
end Go.PM
namespace Go.PM.Lex
open Go.Proofs
variable {w0:World} {nG:Nat}
theorem W4:PCalls (GG w0 nG) 267 YL:=Yu (Zj Tryz.func267 (by kernel_rfl) rfl) fun args σ K h e w vs hS ha=>by
 unfold YL at h
 split at h
 ·obtain ⟨u,v,rfl,hu,hv⟩:=Zge ha
  cases hu.dstr;cases hv.dstr
  exact ⟨_,h,_,fun _ _=>.mkbool,(Tryz.strings_HasPrefix _ _ w).mono fun en w' ⟨h1,h2⟩=>⟨h1,by rw [h2];exact Grows.refl _⟩⟩
 ·exact h.elim
theorem Ut:PCalls (GG w0 nG) 215 Xf:=Yu (Zj Tryz.func215 (by kernel_rfl) rfl) fun args σ K h e w vs hS ha=>by
 unfold Xf at h
 split at h
 ·obtain ⟨u,v,rfl,hu,hv⟩:=Zge ha
  cases hu.dstr;cases hv.dint
  exact ⟨_,h,_,fun _ _=>.mkint,(Tryz.strings_IndexByte _ _ w).mono fun en w' ⟨h1,h2⟩=>⟨h1,by rw [h2];exact Grows.refl _⟩⟩
 ·exact h.elim
theorem ZjY:PCalls (GG w0 nG) 266 Ur:=Yu (Zj Tryz.func266 (by kernel_rfl) rfl) fun args σ K h e w vs hS ha=>by
 unfold Ur at h
 split at h
 ·obtain ⟨u,rfl,hu⟩:=Zgd ha
  cases hu.dint
  exact ⟨_,h,_,fun _ _=>.mkint,(Tryz.utf8_RuneLen _ w).mono fun en w' ⟨h1,h2⟩=>⟨h1,by rw [h2];exact Grows.refl _⟩⟩
 ·exact h.elim
theorem ZnI (h2:2<nG) (hm:∃m,w0.cell? ⟨2,0,none⟩=some (.int .i64 m)):PCalls (GG w0 nG) 278 ZcE:=Yu (Zj Tryz.func278 (by kernel_rfl) rfl) fun args σ K h e w vs hS ha=>by
 unfold ZcE at h
 split at h
 ·rename_i s p
  obtain ⟨u,v,rfl,hu,hv⟩:=Zge ha
  cases hu.dstr;cases hv.dstr
  obtain ⟨m,hm⟩:=hm
  have hm':w.cell? ⟨2,0,none⟩=some (.int .i64 m):=by
   have:=hS.glob 2 h2
   simpa [World.cell?,this] using hm
  exact ⟨_,h.2,_,fun _ _=>.mkint,(Tryz.strings_Index ⟨s.toArray⟩ ⟨p.toArray⟩ m w (show s.toArray.size<_ by simpa using h.1) hm').mono fun en w' ⟨h1,h2⟩=>⟨h1,by rw [h2];exact Grows.refl _⟩⟩
 ·exact h.elim
theorem ZhM:PCalls (GG w0 nG) 277 Vu:=Yu (Zj Tryz.func277 (by kernel_rfl) rfl) fun args σ K h e w vs hS ha=>by
 unfold Vu at h
 split at h
 ·rename_i s p
  obtain ⟨u,v,rfl,hu,hv⟩:=Zge ha
  cases hu.dstr;cases hv.dstr
  refine ⟨_,h.2,_,fun _ _=>.mkstr,(Any.strings_TrimLeft_laid Tryz.lays161 (by kernel_rfl) ⟨s.toArray⟩ ⟨p.toArray⟩ w (show p.toArray.size<_ by simpa using h.1.1) h.1.2).mono fun en w' ⟨h1,h2⟩=>⟨h1,Zyx h2⟩⟩
 ·exact h.elim
end Go.PM.Lex
end
end

section
noncomputable section
namespace Go.PM.Lex
open Go.Proofs
def Zi (l:Bs):List (List D):=l.map fun b=>[.int .u8 b.toNat]
def WE:Zu:=fun args σ K=>match args,σ with
 | [.d (.str l),.d (.int .i64 base),.d (.int .i64 bits)],⟨[],[],0⟩=>∃hex:Bool,((l.all (Wl hex)=true∧l.length<4294967281)∧base=(if hex then 16 else 10)∧bits=(if hex then 64 else 63)) ∧
   ((l=[]∨(if hex then 18446744073709551616 else 9223372036854775808)≤Wz (if hex then 16 else 10) l)→∀n,K (.ret (.tuple [.d (.int .u64 n),.iface 345 .undef])) ⟨[],[],0⟩) ∧
   (¬(l=[]∨(if hex then 18446744073709551616 else 9223372036854775808)≤Wz (if hex then 16 else 10) l)→K (.ret (.tuple [.d (.int .u64 (Wz (if hex then 16 else 10) l)),.d .nili])) ⟨[],[],0⟩)
 | _,_=>False
theorem ZbU:Zc WE:=fun args σ K K' hK h=>by
 unfold WE at h ⊢
 split at h
 ·obtain ⟨x,h1,h2,h3⟩:=h;exact ⟨x,h1,fun g n=>hK _ _ (h2 g n),fun g=>hK _ _ (h3 g)⟩
 ·exact h.elim
def XM:Zu:=fun args σ K=>match args,σ with
 | [.ptr 0 0,.d (.int .u8 c)],⟨[.cells t [p,.sl 0 e rows]],[0],1⟩=>((p=.d .nilp∨p=.ptr 0 0)∧t=82∧e=5∧(∀r∈rows,r.length=1)∧rows.length<70368744177664) ∧
   K (.ret (.d .nili)) ⟨[.cells t [.ptr 0 0,.sl 0 e (rows++[[.int .u8 c]])]],[0],1⟩
 | _,_=>False
theorem V9:Zc XM:=fun args σ K K' hK h=>by
 unfold XM at h ⊢;split at h <;> first | exact ⟨h.1,hK _ _ h.2⟩ | exact h.elim
def XN:Zu:=fun args σ K=>match args,σ with
 | [.ptr 0 0,.d (.int .i32 c)],⟨[.cells t [p,.sl 0 e rows]],[0],1⟩=>((p=.d .nilp∨p=.ptr 0 0)∧t=82∧e=5∧(∀r∈rows,r.length=1)∧rows.length<70368744177664∧0≤c∧c≤1114111) ∧
   K (.ret (.tuple [.d (.int .i64 (((rows++Zi (Lib.encodeRune c)).length:Int) - (rows.length:Int))),.d .nili])) ⟨[.cells t [.ptr 0 0,.sl 0 e (rows++Zi (Lib.encodeRune c))]],[0],1⟩
 | _,_=>False
theorem Ua:Zc XN:=fun args σ K K' hK h=>by
 unfold XN at h ⊢;split at h <;> first | exact ⟨h.1,hK _ _ h.2⟩ | exact h.elim
def UX:Zu:=fun args σ K=>match args,σ with
 | [.ptr 0 0],⟨[.cells t [p,.sl 0 e rows]],[0],1⟩=>∃l:Bs,(rows=Zi l∧t=82∧e=5∧(p=.d .nilp∨p=.ptr 0 0)∧l.length<70368744177664)∧K (.ret (.d (.str l))) ⟨[.cells t [p,.d (.sl rows)]],[],0⟩
 | _,_=>False
theorem Zaf:Zc UX:=fun args σ K K' hK h=>by
 unfold UX at h ⊢
 split at h
 ·obtain ⟨x,h1,h2⟩:=h;exact ⟨x,h1,hK _ _ h2⟩
 ·exact h.elim
def ZcI (s:Bs) (c:Int):Int:=if c<128 then Lib.indexByte s c.toNat.toUInt8 else -1
def Xg:Zu:=fun args σ K=>match args,σ with
 | [.d (.str s),.d (.int .i32 c)],⟨[],[],0⟩=>((s=[110,116,34,92]∨s=[10,9,34,92])∧0≤c∧c≤1114111)∧K (.ret (.d (.int .i64 (ZcI s c)))) ⟨[],[],0⟩
 | _,_=>False
theorem Ub:Zc Xg:=fun args σ K K' hK h=>by
 unfold Xg at h ⊢;split at h <;> first | exact ⟨h.1,hK _ _ h.2⟩ | exact h.elim
def UY:Zu:=fun args σ K=>match args,σ with
 | [.ptr 0 0],⟨[.cells t [.d (.str s),.d (.int .i64 a)]],[],0⟩=>(0≤a∧a<s.length∧s.length<4294967281) ∧
   K (.ret (ZwG (Xw a.toNat (s.drop a.toNat)))) ⟨[.cells t [.d (.str s),.d (.int .i64 a)]],[],0⟩
 | _,_=>False
def Zek:Zu:=fun args σ K=>match args,σ with
 | [.ptr 0 0],⟨[.cells t [.d (.str s),.d (.int .i64 a)]],[],0⟩=>(0≤a∧a<s.length∧s.length<4294967281) ∧
   K (.ret (ZwG (Zae a.toNat (s.drop a.toNat)))) ⟨[.cells t [.d (.str s),.d (.int .i64 a)]],[],0⟩
 | _,_=>False
def Zel:Zu:=fun args σ K=>match args,σ with
 | [.ptr 0 0,.d (.bool room)],⟨[.cells t [.d (.str s),.d (.int .i64 a)]],[],0⟩=>(0≤a∧a<s.length∧s.length<4294967281) ∧
   K (.ret (ZwG (VS a.toNat (s.drop a.toNat) room))) ⟨[.cells t [.d (.str s),.d (.int .i64 a)]],[],0⟩
 | _,_=>False
theorem Ze1:Zc UY:=fun args σ K K' hK h=>by
 unfold UY at h ⊢;split at h <;> first | exact ⟨h.1,hK _ _ h.2⟩ | exact h.elim
theorem ZhN:Zc Zek:=fun args σ K K' hK h=>by
 unfold Zek at h ⊢;split at h <;> first | exact ⟨h.1,hK _ _ h.2⟩ | exact h.elim
theorem ZhO:Zc Zel:=fun args σ K K' hK h=>by
 unfold Zel at h ⊢;split at h <;> first | exact ⟨h.1,hK _ _ h.2⟩ | exact h.elim
end Go.PM.Lex
end
end

section
namespace Go.PM
theorem VT {G:GE} {g:FuncId} {sp:Zu} (hent:WZ G.P g)
  (h:∀args σ K,sp args σ K→∀(e:Env) (w:World) (vs:Array Value),SRel G e σ w→ArgsRel G e σ w args vs→∃pv σ' v,K (.ret pv) σ'∧Calls G.P g vs w fun en w'=>en=.returned v∧VRel G e σ' w' pv v∧SRel G e σ' w'∧Later e σ w e σ' w'):PCalls G g sp where
 enters:=hent
 calls:=fun args σ K hs n e w vs hS ha=>by
  obtain ⟨pv,σ',v,hK,hc⟩:=h args σ K hs e w vs hS ha
  refine CallsIn.mono (callsIn_wide.2 hc) fun en w' ⟨he,hv,hS',hL⟩=>?_
  subst he
  exact ⟨.ret pv,σ',e,hK,⟨v,rfl,hv⟩,hS',hL⟩
section
variable {G:GE} {T:Tab} {e:Env} {σ:St} {w:World}
theorem ZcJ (hT:TabOK T G.P) (hS:SRel G e σ w) {t:TypeId} {b off:Nat} {x:PV} {v:Value} {l cs:List PV} {ty:TypeId} (hb:σ.bx[b]?=some (.cells ty cs)) (hx:VRel G e σ w x v) (hl:x.cells=some l)
  (hlen:l.length=(T.get t).size) (hfit:off+l.length≤cs.length) (hk:(T.get t).kind≠.other) :
  Stepped e σ w e (σ.set b (.cells ty (ZJ cs off l))) (w.setCells (e.β b) off v.cells.toList)∧SRel G e (σ.set b (.cells ty (ZJ cs off l))) (w.setCells (e.β b) off v.cells.toList):=by
 obtain ⟨w1,hr,h1,h2⟩:=Ju hT hS hb hx hl hlen hfit hk
 obtain ⟨i,d,z,hi,hd,hs,hby,hkd,hz,hz2,_⟩:=(hT.get hk).ex
 obtain ⟨vs,hv1,hv2,hv3⟩:=hS.box b _ hb
 obtain ⟨hc1,hc2⟩:=Vm hx hl
 have hvc:v.cells.toList.length=l.length:=by simpa using hc1
 have hone:∀u∈v.cells.toList,u.oneCell'=true:=fun u hu=>by
  exact m131
 have hrun:=run_storeCells_cells (P:=G.P) (e.β b) off v.cells.toList 0 w (fun j hj=>by
   have:off+j<vs.size:=by omega
   simp [World.cell?,hv1,this]) (fun j hj=>by simp [World.frozen?,hv1]) hone
 simp only [SC] at hrun
 have hr2:(Instr.storeAt t (.pointer (some ⟨e.β b,off,none⟩)) v).run G.P w=.ok () (w.setCells (e.β b) off v.cells.toList):=by
  have h1':v.cells.size=i.size:=by rw [hc1,hlen,hs]
  exact m67
 rw [hr2] at hr
 cases hr
 exact ⟨h1,h2⟩
end
end Go.PM
namespace Go.PM.Lex
open Go.Proofs Go.Shelf
variable {w0:World} {nG:Nat}
theorem u50:Tryz.prog.underlying 79=some (.pointer 82):=by kernel_rfl
theorem u95:Tryz.prog.underlying 300=some .unsafePointer:=by kernel_rfl
theorem i53:∃j,Tryz.prog.info? 82=some j∧j.size=2:=by
 have h:(Tryz.prog.info? 82).map (·.size)=some 2:=by kernel_rfl
 obtain ⟨j,h1,h2⟩:=Option.map_eq_some_iff.1 h
 exact ⟨j,h1,h2⟩
theorem ZtL:liesAt Tryz.prog Tryz.prog.depth 82 (2 / Tryz.prog.cellsOf 82) 0 82 1=true:=by kernel_rfl
theorem Zgf (b:Nat) (w:World) (h0:w.cell? ⟨b,0,none⟩=some (.pointer (some ⟨b,0,none⟩))) :
  Calls Tryz.prog 214 #[.pointer (some ⟨b,0,none⟩)] w fun e w'=>e=.returned (.tuple #[])∧w'=w:=by
 obtain ⟨j,hj,hjs⟩:=i53
 go_enter Tryz.func214,Tryz.ntmps214
 go_wp2
 rw [Go.Lib.run_neq_ptr_same w _ u50 hj]
 go_wp2
 go_end0
 exact ⟨rfl,rfl⟩
theorem ZjZ (b:Nat) (w:World) (h0:w.cell? ⟨b,0,none⟩=some (.pointer none)) (hsh:w.shape? b=some (82,2)) (hfz:w.frozen? ⟨b,0,none⟩=false) :
  Calls Tryz.prog 214 #[.pointer (some ⟨b,0,none⟩)] w fun e w'=>e=.returned (.tuple #[])∧w'=w.setCell ⟨b,0,none⟩ (.pointer (some ⟨b,0,none⟩)):=by
 obtain ⟨j,hj,hjs⟩:=i53
 go_enter Tryz.func214,Tryz.ntmps214
 go_wp2
 rw [Go.Lib.run_to_unsafe w ⟨b,0,none⟩ u50 u95 hj (by rw [hjs];decide) hsh (Nat.zero_lt_succ 1)]
 simp only [Result.andThen]
 rw [Oper.upon_value]
 go_wp2
 rw [run_callFunc_extern Tryz.func269 (by kernel_rfl) (by kernel_rfl) (by kernel_rfl) (e:=Extern.AbiNoEscape.same) (by kernel_rfl)]
 rw [Go.Lib.run_noEscape]
 simp only [Result.andThen]
 rw [Oper.upon_value]
 go_wp2
 rw [Go.Lib.run_from_unsafe w ⟨b,0,none⟩ u95 u50 hj hsh ZtL]
 simp only [Result.andThen]
 rw [Oper.upon_value]
 go_wp2
 go_end0
 exact ⟨rfl,rfl⟩
noncomputable def XO:Zu:=fun args σ K=>match args,σ with
 | [.ptr 0 0],⟨[.cells t [p,q]],tk,nx⟩=>((p=.d .nilp∨p=.ptr 0 0)∧t=82)∧K (.ret (.tuple [])) ⟨[.cells t [.ptr 0 0,q]],tk,nx⟩
 | _,_=>False
theorem Uc:Zc XO:=fun args σ K K' hK h=>by
 unfold XO at h ⊢;split at h <;> first | exact ⟨h.1,hK _ _ h.2⟩ | exact h.elim
theorem Zbx:PCalls (GG w0 nG) 214 XO:=VT (Zj Tryz.func214 (by kernel_rfl) rfl) fun args σ K h e w vs hS ha=>by
 unfold XO at h
 split at h
 ·rename_i t p q tk nx
  obtain ⟨⟨hp,rfl⟩,hK⟩:=h
  obtain ⟨u,rfl,hu⟩:=Zgd ha
  obtain ⟨cv,hc1,hc2,hc3⟩:=hS.box 0 _ rfl
  have hcs:cv.size=2:=hc2
  obtain ⟨x0,hx0⟩:∃x,cv[0]?=some x:=⟨cv[0]'(by omega),by simp [hcs]⟩
  have hr0:=(hc3 0 p x0 rfl hx0).1
  cases hu with
  | ptr b off hb =>
  refine ⟨_,_,.tuple #[],hK,?_⟩
  rcases hp with rfl | rfl
  ·cases hr0 with
   | d _ _ hd =>
   cases hd
   refine Calls.mono (ZjZ (e.β 0) w ?_ ?_ ?_) fun en w' ⟨h1,h2⟩=>?_
   ·simp [World.cell?,hc1,hx0]
   ·simp only [World.shape?,hc1,hcs]
   ·simp [World.frozen?,hc1]
   ·have hst:=ZcJ (G:=GG w0 nG) (T:=ZhK) Y6 hS (t:=79) (b:=0) (off:=0) (x:=.ptr 0 0) (v:=.pointer (some ⟨e.β 0,0,none⟩)) (l:=[.ptr 0 0]) (cs:=[.d .nilp,q]) (ty:=82) rfl (.ptr 0 0 hb) rfl rfl (by simp) (by intro h;cases h)
    rw [h2]
    exact ⟨h1,.tuple [] #[] rfl (fun i x u hx=>by simp at hx),hst.2,hst.1.toLater⟩
  ·exact m80
 ·exact h.elim
theorem ZlA {P:Program} {ρ:Ren} (L:Lays.n169 P ρ) (X:Builder.Extra P ρ) (b g cap:Nat) (p:Value) (cur:Array Value) (fz:Nat×Nat) (l:Bs) (w:World) (h0:l≠[])
  (hbk:w.heap[b]?=some (.cells #[p,.slice (some ⟨g,0,none⟩) l.length cap] (ρ.t 72) (0,0))) (hg:w.heap[g]?=some (.cells cur (ρ.t 5) fz)) (hn:l.length≤cur.size) (hcap:cap≠0) (hbig:l.length≤9223372036854775807)
  (hcell:∀j x,l[j]?=some x→w.cell? ⟨g,j,none⟩=some (.int .u8 x.toNat)) :
  Calls P (ρ.f 169) #[.pointer (some ⟨b,0,none⟩)] w fun e w'=>e=.returned (.string ⟨l.toArray⟩)∧w'=w.drew.freeze ⟨g,0,none⟩ l.length:=by
 have c1:w.drew.cell? ⟨b,1,none⟩=some (.slice (some ⟨g,0,none⟩) l.length cap):=by
  have:w.drew.heap[b]?=some (.cells #[p,.slice (some ⟨g,0,none⟩) l.length cap] (ρ.t 72) (0,0)):=hbk
  rw [Go.Lib.cell_of_heap this];rfl
 have hSD:(Builtin.unsafeSliceData_ #[(ρ.t 37)] (ρ.t 127) #[.slice (some ⟨g,0,none⟩) l.length cap]).run P w.drew=.ok (.pointer (some ⟨g,0,none⟩)) w.drew :=
  Go.Lib.run_unsafeSliceData_row _ _ _ _ _ _ hcap
 have hUS:(Builtin.unsafeString_ #[(ρ.t 127),(ρ.t 3)] (ρ.t 9) #[.pointer (some ⟨g,0,none⟩),.int .i64 l.length]).run P w.drew=.ok (.string ⟨l.toArray⟩) (w.drew.freeze ⟨g,0,none⟩ l.length):=by
  exact m68
 have mixed:=L.mixed
 have t72:=L.t72;have a72:=L.a72;have z72:=L.z72;have v72:=L.v72;have u72:=run_underlying L.t72
 have t70:=L.t70;have a70:=L.a70;have z70:=L.z70;have v70:=L.v70;have u70:=run_underlying L.t70
 have t37:=L.t37;have a37:=L.a37;have z37:=L.z37;have v37:=L.v37;have u37:=run_underlying L.t37
 have t127:=L.t127;have a127:=L.a127;have z127:=L.z127;have v127:=L.v127;have u127:=run_underlying L.t127
 have t3:=L.t3;have a3:=L.a3;have z3:=L.z3;have v3:=L.v3;have u3:=run_underlying L.t3
 have t9:=L.t9;have a9:=L.a9;have z9:=L.z9;have v9:=L.v9;have u9:=run_underlying L.t9
 have t5:=X.t5;have a5:=X.a5;have z5:=X.z5;have v5:=X.v5;have u5:=run_underlying X.t5
 go_enter L.f169,Body.n169_ntmps ρ
 go_wp2
 go_region_o
 all_goals (go_wp2;go_ret;exact ⟨rfl,rfl⟩)
theorem VU (w:World) (g n k:Nat) (hk:k≠g):(w.drew.freeze ⟨g,0,none⟩ n).heap[k]?=w.heap[k]?:=by
 unfold World.freeze
 split
 ·rfl
 ·simp only [Array.getElem?_modify];rw [Te (fun h=>hk h.symm)];rfl
theorem ZhP (w:World) (g n:Nat) {cs:Array Value} {ty:TypeId} {fz:Nat×Nat} (h:w.heap[g]?=some (.cells cs ty fz)):∃fz',(w.drew.freeze ⟨g,0,none⟩ n).heap[g]?=some (.cells cs ty fz'):=by
 have h':w.drew.heap[g]?=some (.cells cs ty fz):=h
 unfold World.freeze
 split
 ·exact ⟨fz,h'⟩
 ·simp only [Array.getElem?_modify,if_true,h',So]
  exact ⟨_,rfl⟩
theorem ZtM {G:GE} {e:Env} {w w':World} {t:TypeId} {p:PV} {rows:List (List D)} (hp:p=.d .nilp∨p=.ptr 0 0) (hS:SRel G e ⟨[.cells t [p,.sl 0 5 rows]],[0],1⟩ w)
  (hsz:w.heap.size≤w'.heap.size) (hos:w'.os=w.os) (htp:w'.tape=w.tape) (hout:w'.output=w.output)
  (hcell:∀b off u,w.cell? ⟨b,off,none⟩=some u→w'.cell? ⟨b,off,none⟩=some u)
  (hblk:∀b,b<w.heap.size→(∀q,e.M 0=some q→q.1≠b)→w'.heap[b]?=w.heap[b]?) :
  SRel G e ⟨[.cells t [p,.d (.sl rows)]],[],0⟩ w'∧Later e ⟨[.cells t [p,.sl 0 5 rows]],[0],1⟩ w e ⟨[.cells t [p,.d (.sl rows)]],[],0⟩ w':=by
 have hL:Later e ⟨[.cells t [p,.sl 0 5 rows]],[0],1⟩ w e ⟨[.cells t [p,.d (.sl rows)]],[],0⟩ w':={
  len:=Tp _
  beta:=fun _ _=>rfl
  X:=rfl
  pres:=fun b off u hu ho=>⟨⟨ho.1,ho.2.1,fun x hx=>by cases hx⟩,hcell b off u hu⟩
  blocks:=fun b hb h1 h2=>hblk b hb fun q hq=>h2 0 (by simp) q hq
  size:=hsz
  os:=hos
  tape:=htp
  output:=hout
  fresh:=fun i h1 h2=>by simp at h1 h2;omega
  ftok:=fun x hx=>by cases hx }
 have hlt:=hS.lt (i:=0) (by simp)
 have hblk0:w'.heap[e.β 0]?=w.heap[e.β 0]?:=hblk _ hlt fun q hq=>fun h=>(hS.own 0 (by simp) q hq).2.1 0 (by simp) h.symm
 refine ⟨?_,hL⟩
 exact {
  inj:=hS.inj
  box:=fun i x hx=>by
   match i,hx with
   | 0,hx =>
    cases hx
    obtain ⟨cv,h1,h2,h3⟩:=hS.box 0 _ rfl
    refine ⟨cv,hblk0.trans h1,h2,fun j y u hy hu=>?_⟩
    match j,hy with
    | 0,hy =>
     exact m86
    | 1,hy =>
     cases hy
     obtain ⟨q1,q2⟩:=h3 1 (.sl 0 5 rows) u rfl hu
     refine ⟨?_,q2⟩
     cases q1 with
     | sl _ _ _ _ hn hd ht=>exact .d _ _ (hd.later hL)
    | j+2,hy=>simp at hy
   | i+1,hx=>simp at hx
  low:=hS.low
  tkn:=fun x hx=>by cases hx
  own:=fun x hx=>by cases hx
  dis:=fun x y hx=>by cases hx
  xlt:=fun b off hx=>TB (hS.xlt b off hx) hsz
  xown:=fun x hx=>by cases hx
  glob:=fun b hb=>by
   exact m137
  big:=Sc hS.big hsz }
theorem Xh (l:Bs):(Zi l).length=l.length:=by simp [Zi]
theorem ZtN:(Tryz.prog.info? 5).map (·.size)=some 1:=by kernel_rfl
theorem Zgg:PCalls (GG w0 nG) 31 UX:=VT (Zj Tryz.func31 (by kernel_rfl) rfl) fun args σ K h e w vs hS ha=>by
 unfold UX at h
 split at h
 ·rename_i t p el rows
  obtain ⟨l,⟨rfl,rfl,rfl,hp,hbig⟩,hK⟩:=h
  obtain ⟨u,rfl,hu⟩:=Zgd ha
  obtain ⟨cv,hc1,hc2,hc3⟩:=hS.box 0 _ rfl
  have hcs:cv.size=2:=hc2
  obtain ⟨v0,v1,rfl⟩:∃v0 v1,cv=#[v0,v1]:=by
   obtain ⟨lst⟩:=cv
   match lst,hcs with
   | [a,b],_=>exact ⟨a,b,rfl⟩
  have hr1:=(hc3 1 (.sl 0 5 (Zi l)) v1 rfl rfl).1
  cases hu with
  | ptr b off hb =>
  refine ⟨_,_,.string ⟨l.toArray⟩,hK,?_⟩
  have fin:∀w',w.heap.size≤w'.heap.size→w'.os=w.os→w'.tape=w.tape→w'.output=w.output →
    (∀b off u,w.cell? ⟨b,off,none⟩=some u→w'.cell? ⟨b,off,none⟩=some u) →
    (∀b,b<w.heap.size→(∀q,e.M 0=some q→q.1≠b)→w'.heap[b]?=w.heap[b]?) →
    VRel (GG w0 nG) e ⟨[.cells 82 [p,.d (.sl (Zi l))]],[],0⟩ w' (.d (.str l)) (.string ⟨l.toArray⟩)∧SRel (GG w0 nG) e ⟨[.cells 82 [p,.d (.sl (Zi l))]],[],0⟩ w'∧Later e ⟨[.cells 82 [p,.sl 0 5 (Zi l)]],[0],1⟩ w e ⟨[.cells 82 [p,.d (.sl (Zi l))]],[],0⟩ w':=fun w' h1 h2 h3 h4 h5 h6 =>
   ⟨.mkstr,ZtM hp hS h1 h2 h3 h4 h5 h6⟩
  have grown:∀w',Grows w w'→_:=fun w' g=>fin w' g.size g.os g.tape g.output (fun b off u hu=>(g.cell (VM hu)).trans hu) (fun b hb _=>g.old b hb)
  cases hr1 with
  | sl _ _ _ _ hn hd ht =>
  rcases ht (by simp) with ⟨rfl,hrows,hM⟩ | ⟨sz,g1,g2,g3,g,off,cap,cs,ty,fz,rfl,g4,g5,g6,⟨g7,rfl,rfl,g8⟩,g9,hM⟩
  ·have hl:l=[]:=by simpa [Zi] using hrows
   subst hl
   refine (Any.Builder_String_nil Tryz.lays169 Tryz.Builder_Extra_169 w.heap.size (e.β 0) v0 w hc1).mono fun en w' ⟨h1,h2⟩=>?_
   exact ⟨h1,grown w' (Zyx h2)⟩
  ·have hsz1:sz=1:=by
    have:(Tryz.prog.info? 5).map (·.size)=some sz:=g1
    rw [ZtN] at this;cases this;rfl
   subst hsz1
   rw [Xh] at g5 hc1 g9 hM hd
   by_cases hl:l=[]
   ·subst hl
    refine (Any.Builder_String_room Tryz.lays169 Tryz.Builder_Extra_169 w.heap.size (e.β 0) g cap v0 w (by omega) hc1).mono fun en w' ⟨h1,h2⟩=>?_
    exact ⟨h1,grown w' (Zyx h2)⟩
   ·have hcell:∀j x,l[j]?=some x→w.cell? ⟨g,j,none⟩=some (.int .u8 x.toNat):=by
     exact m28
    obtain ⟨fz',hfz'⟩:=ZhP w g l.length g6
    refine (ZlA Tryz.lays169 Tryz.Builder_Extra_169 (e.β 0) g cap v0 cs fz l w hl hc1 g6 (by omega) (by omega) (by omega) hcell).mono fun en w' ⟨h1,h2⟩=>?_
    rw [h2]
    refine ⟨h1,fin _ ?_ ?_ ?_ ?_ ?_ ?_⟩
    ·unfold World.freeze;split <;> first | exact Tp _ | (simp only [Array.size_modify];exact Tp _)
    ·exact m136
    ·exact m136
    ·exact m136
    ·exact m102
    ·intro b hb hq
     exact VU w g l.length b fun h=>hq _ hM h.symm
 ·exact h.elim
end Go.PM.Lex
end

section
namespace Go.PM.Lex
open Go.Proofs
variable {w0:World} {nG:Nat}
theorem orB (n:Fin 128):Zh .or .i32 (n.val:Int) 32=((n.val ||| 32:Nat):Int):=by rw [Yl];revert n;decide +kernel
theorem orM:Zh .or .i32 (-1) 32=-1:=by rw [Yl];decide +kernel
theorem orL:∀n:Fin 128,(97≤(n.val ||| 32)∧(n.val ||| 32)≤122)↔((97≤n.val∧n.val≤122)∨(65≤n.val∧n.val≤90)):=by decide +kernel
theorem ZlB {c:Int} (h0:-1≤c) (h1:c<128):(97≤Zh .or .i32 c 32∧Zh .or .i32 c 32≤122)↔((97≤c∧c≤122)∨(65≤c∧c≤90)):=by
 by_cases hc:c=-1
 ·subst hc;rw [orM];omega
 ·obtain ⟨n,rfl⟩:∃n:Nat,c=n:=⟨c.toNat,by omega⟩
  have hn:n<128:=by omega
  have h2:=orB ⟨n,hn⟩
  have h3:=orL ⟨n,hn⟩
  simp only at h2 h3
  rw [h2]
  omega
theorem ZiM {K:PEnd→St→Prop} {b b':Bool} {σ:St} (h:K (.ret (.d (.bool b))) σ) (h1:b=b'):K (.ret (.d (.bool b'))) σ:=by subst h1;exact h
theorem Ze2:PCalls (GG w0 nG) 268 JD:=by
 refine pc (tbl:=[]) trivial Tryz.func268 ?_
 ·intro args σ K h
  unfold JD at h
  split at h
  ·rename_i c
   refine ⟨Zb [],0,false,by decide,Tb rfl,?_⟩
   refine Zyq (fun h1=>?_) (fun h1=>?_)
   ·refine ZiM h ?_
    simp only [Zl,decide_eq_decide];omega
   ·refine ZiM h ?_
    simp only [Zl,decide_eq_false_iff_not];omega
  ·exact h.elim
theorem Zag:PCalls (GG w0 nG) 210 W3:=by
 refine pc (tbl:=[]) trivial Tryz.func210 ?_
 ·intro args σ K h
  unfold W3 at h
  split at h
  ·rename_i c
   obtain ⟨⟨h0,_⟩,h⟩:=h
   refine ⟨Zb [],0,false,by decide,Tb rfl,?_⟩
   repeat' ((conv=>whnf);refine Zyq (fun h1=>?_) (fun h1=>?_))
   all_goals (conv=>whnf)
   all_goals (try (have hl:=ZlB (c:=c) h0 (by omega)))
   all_goals (refine ZiM h ?_;simp only [Zg,Tz,decide_eq_false_iff_not,decide_eq_decide];omega)
  ·exact h.elim
end Go.PM.Lex
end

section
namespace Go.PM.Lex
theorem ZxY (r:Bs):Lib.hasPrefix r [239,191,189]=true↔2<r.length∧(r.getD 0 0).toNat=239∧(r.getD 1 0).toNat=191∧(r.getD 2 0).toNat=189:=by
 unfold Lib.hasPrefix
 match r with
 | []=>simp
 | [a]=>simp [List.isPrefixOf]
 | [a,b]=>simp [List.isPrefixOf]
 | a::b::c::l =>
  have ha:=UInt8.toNat_inj (a:=239) (b:=a)
  have hb:=UInt8.toNat_inj (a:=191) (b:=b)
  have hc:=UInt8.toNat_inj (a:=189) (b:=c)
  simp only [List.isPrefixOf,Bool.and_true,Tj,beq_iff_eq,Tc,Sv,Sw]
  rw [← ha,← hb,← hc]
  have e1:(239:UInt8).toNat=239:=rfl
  have e2:(191:UInt8).toNat=191:=rfl
  have e3:(189:UInt8).toNat=189:=rfl
  rw [e1,e2,e3]
  omega
theorem ZxE (r:Bs) (hv:(Lib.decodeL r).1=65533):(Lib.hasPrefix r [239,191,189]=true∧(Lib.decodeL r).2=3)∨(¬Lib.hasPrefix r [239,191,189]=true∧(Lib.decodeL r).2=1):=by
 rw [ZxY]
 rw [Lib.decodeL_N] at hv ⊢
 have k0:=(r.getD 0 0).toNat_lt
 have k1:=(r.getD 1 0).toNat_lt
 have k2:=(r.getD 2 0).toNat_lt
 have k3:=(r.getD 3 0).toNat_lt
 by_cases hp:2<r.length∧(r.getD 0 0).toNat=239∧(r.getD 1 0).toNat=191∧(r.getD 2 0).toNat=189
 ·left
  refine ⟨hp,?_⟩
  obtain ⟨p0,p1,p2,p3⟩:=hp
  rw [p1,p2,p3]
  unfold Lib.decodeN
  have hl:1<r.length:=by omega
  simp [p0,hl]
 ·right
  refine ⟨hp,?_⟩
  rcases Lib.decodeN_shape r.length (r.getD 0 0).toNat (r.getD 1 0).toNat (r.getD 2 0).toNat (r.getD 3 0).toNat with ⟨c,e⟩ | ⟨c1,c2,c3,cv,e⟩ | ⟨c1,c2,c3,c4,cv,cs,e⟩ | ⟨c1,c2,c3,c4,c5,cv,cw,e⟩ | e
  all_goals (rw [e] at hv)
  all_goals (dsimp only at hv)
  ·omega
  ·omega
  ·exact absurd ⟨c2,by omega,by omega,by omega⟩ hp
  ·omega
  ·rw [e]
theorem Zem:pk []=(-1,1):=by simp [pk]
theorem ZnJ (r:Bs) (h0:0<r.length) (hv:¬(Lib.decodeL r).1=65533):pk r=(((Lib.decodeL r).1:Int),(Lib.decodeL r).2):=by
 have hne:r≠[]:=fun h=>by subst h;simp at h0
 have:Lib.decodeL r≠(65533,1):=fun h=>hv (by rw [h])
 simp [pk,hne,this]
theorem ZpT (r:Bs) (h0:0<r.length) (hp:Lib.hasPrefix r [239,191,189]=true) (hv:(Lib.decodeL r).1=65533):pk r=(65533,3):=by
 have hne:r≠[]:=fun h=>by subst h;simp at h0
 rcases ZxE r hv with ⟨_,h2⟩ | ⟨h1,_⟩
 ·have:Lib.decodeL r≠(65533,1):=fun h=>by rw [h] at h2;simp at h2
  simp [pk,hne,this,hv,h2]
 ·exact absurd hp h1
theorem ZtO (r:Bs) (hp:¬Lib.hasPrefix r [239,191,189]=true) (hv:(Lib.decodeL r).1=65533):pk r=(-1,1):=by
 rcases ZxE r hv with ⟨h1,h2⟩ | ⟨_,h2⟩
 ·exact absurd h1 hp
 ·have:Lib.decodeL r=(65533,1):=Prod.ext hv h2
  simp [pk,this]
theorem ZlC (r:Bs):1≤(pk r).2∧(pk r).2≤4:=by
 unfold pk
 split
 ·simp
 ·rename_i h
  simp only [not_or] at h
  simp only
  rw [Lib.decodeL_N]
  rcases Lib.decodeN_shape r.length (r.getD 0 0).toNat (r.getD 1 0).toNat (r.getD 2 0).toNat (r.getD 3 0).toNat with ⟨c,e⟩ | ⟨c1,c2,c3,cv,e⟩ | ⟨c1,c2,c3,c4,cv,cs,e⟩ | ⟨c1,c2,c3,c4,c5,cv,cw,e⟩ | e
  all_goals (rw [e];simp)
theorem W5 (r:Bs):-1≤(pk r).1∧(pk r).1≤1114111:=by
 unfold pk
 split
 ·simp
 ·simp only
  exact m63
theorem ZnK (r:Bs) (h:(pk r).1≠-1):1≤(pk r).2∧(pk r).2≤r.length∧r≠[]:=by
 have hl:=ZlC r
 unfold pk at h hl ⊢
 split at h
 ·exact absurd rfl h
 ·rename_i h1
  simp only [not_or] at h1
  rw [Te (by simp only [not_or];exact h1)] at hl ⊢
  exact ⟨hl.1,Lib.decodeL_le r h1.1,h1.1⟩
end Go.PM.Lex
end

section
namespace Go.PM.Lex
open Go.Proofs
variable {w0:World} {nG:Nat}
theorem Uu {s:Bs} {n:Nat}:cut s n s.length=s.drop n:=by simp [cut]
noncomputable def ZpU:Tbl:=[(266,Ur),(267,YL)]
theorem ZpV (ht:TblOK (GG w0 nG) ZpU):PCalls (GG w0 nG) 209 Jg:=by
 refine pc ht Tryz.func209 ?_
 intro args σ K h
 unfold Jg at h
 split at h
 ·rename_i at' t s a
  obtain ⟨⟨h0,hs⟩,h⟩:=h
  refine ⟨Zb [(2,⟨[],[0,1,21],fun vs σ=>vs=[]∧σ=⟨[.cells t [.d (.str s),.d (.int .i64 a)],.iter (s.drop at'.toNat) 0],[],0⟩,fun _ _=>0⟩)],1,false,by simp,Tb rfl,?_⟩
  have hcut:cut s (min at' (s.length:Int)).toNat s.length=s.drop at'.toNat:=by
   rw [Uu]
   by_cases hl:at'≤s.length
   ·rw [Int.min_eq_left hl]
   ·rw [Int.min_eq_right (by omega),TP (by omega),TP (by omega)]
  conv=>whnf
  refine ⟨by omega,?_⟩
  conv=>whnf
  refine ⟨by omega,?_⟩
  conv=>whnf
  refine ⟨⟨rfl,?_⟩,?_⟩
  ·rw [hcut];rfl
  intro vs σ1 hI
  obtain ⟨rfl,rfl⟩:=hI
  refine Zyq (fun h1=>?_) (fun h1=>?_)
  ·conv=>whnf
   refine Zyv (fun h2=>?_) (fun h2=>?_)
   ·conv=>whnf
    rw [Zei] at h2
    have hl:0<(s.drop at'.toNat).length:=by simpa using h1
    rw [List.drop_zero] at h2
    have hne:¬(Lib.decodeL (s.drop at'.toNat)).1=65533:=by omega
    rw [ZnJ _ hl hne] at h
    rw [Zei,List.drop_zero]
    have hr:=Lib.runeLen_decode _ hne
    rw [hr]
    exact h
   ·conv=>whnf
    rw [Zei] at h2
    have hl:0<(s.drop at'.toNat).length:=by simpa using h1
    have hd:(Lib.decodeL (s.drop at'.toNat)).1=65533:=by rw [List.drop_zero] at h2;omega
    refine ⟨h0,by simp at hl;omega,?_⟩
    conv=>whnf
    refine Zyu (fun h3=>?_) (fun h3=>?_)
    ·conv=>whnf
     rw [Uu] at h3
     rw [ZpT _ hl h3 hd] at h
     rw [Zei,List.drop_zero,hd]
     exact h
    ·conv=>whnf
     rw [Uu] at h3
     rw [ZtO _ (by rw [h3];simp) hd] at h
     exact h
  ·conv=>whnf
   have:s.drop at'.toNat=[]:=by simp at h1;exact TP (by omega)
   rw [this,Zem] at h
   exact h
 ·exact h.elim
end Go.PM.Lex
end

section
namespace Go.PM.Lex
open Go.Proofs
variable {w0:World} {nG:Nat}
def muI (B:Int):List PV→St→Nat:=fun vs _=>match vs with | .d (.int _ n)::_=>(B - n).toNat | _=>0
noncomputable def ZpW:Tbl:=[(267,YL),(215,Xf)]
theorem ZpX (ht:TblOK (GG w0 nG) ZpW):PCalls (GG w0 nG) 279 Zej:=by
 refine pc ht Tryz.func279 ?_
 intro args σ K h
 unfold Zej at h
 split at h
 ·rename_i t s a
  obtain ⟨⟨h0,h1,hs⟩,h⟩:=h
  refine ⟨Zb [(3,⟨[16],[0,3,15],fun vs σ=>σ=⟨[.cells t [.d (.str s),.d (.int .i64 a)]],[],0⟩∧∃i:Nat,i≤5∧vs=[.d (.int .i64 i)]∧(twos.take i).any (Lib.hasPrefix (s.drop a.toNat))=false,muI 5⟩)],1,false,by simp,Tb rfl,?_⟩
  conv=>whnf
  refine ⟨h0,by omega,?_⟩
  conv=>whnf
  rw [Uu]
  refine ⟨⟨rfl,0,by omega,rfl,rfl⟩,?_⟩
  intro vs σ1 hI
  obtain ⟨rfl,i,hi,rfl,hn⟩:=hI
  match i,hi,hn with
  | 0,hi,hn =>
   conv=>whnf
   refine ⟨by omega,by omega,?_⟩
   conv=>whnf
   refine Zyu (fun h2=>?_) (fun h2=>?_)
   ·exact m31
   ·conv=>whnf
    refine oiO ?_
    conv=>whnf
    refine ⟨⟨rfl,1,by omega,rfl,?_⟩,?_⟩
    ·have h2':Lib.hasPrefix (s.drop a.toNat) (twos.getD 0 [])=false:=h2
     exact m51
    ·exact (show (5 - (((0:Nat):Int)+1)).toNat<(5 - ((0:Nat):Int)).toNat by omega)
  | 1,hi,hn =>
   conv=>whnf
   refine ⟨by omega,by omega,?_⟩
   conv=>whnf
   refine Zyu (fun h2=>?_) (fun h2=>?_)
   ·exact m31
   ·conv=>whnf
    refine oiO ?_
    conv=>whnf
    refine ⟨⟨rfl,2,by omega,rfl,?_⟩,?_⟩
    ·have h2':Lib.hasPrefix (s.drop a.toNat) (twos.getD 1 [])=false:=h2
     exact m51
    ·exact (show (5 - (((1:Nat):Int)+1)).toNat<(5 - ((1:Nat):Int)).toNat by omega)
  | 2,hi,hn =>
   conv=>whnf
   refine ⟨by omega,by omega,?_⟩
   conv=>whnf
   refine Zyu (fun h2=>?_) (fun h2=>?_)
   ·exact m31
   ·conv=>whnf
    refine oiO ?_
    conv=>whnf
    refine ⟨⟨rfl,3,by omega,rfl,?_⟩,?_⟩
    ·have h2':Lib.hasPrefix (s.drop a.toNat) (twos.getD 2 [])=false:=h2
     exact m51
    ·exact (show (5 - (((2:Nat):Int)+1)).toNat<(5 - ((2:Nat):Int)).toNat by omega)
  | 3,hi,hn =>
   conv=>whnf
   refine ⟨by omega,by omega,?_⟩
   conv=>whnf
   refine Zyu (fun h2=>?_) (fun h2=>?_)
   ·exact m31
   ·conv=>whnf
    refine oiO ?_
    conv=>whnf
    refine ⟨⟨rfl,4,by omega,rfl,?_⟩,?_⟩
    ·have h2':Lib.hasPrefix (s.drop a.toNat) (twos.getD 3 [])=false:=h2
     exact m51
    ·exact (show (5 - (((3:Nat):Int)+1)).toNat<(5 - ((3:Nat):Int)).toNat by omega)
  | 4,hi,hn =>
   conv=>whnf
   refine ⟨by omega,by omega,?_⟩
   conv=>whnf
   refine Zyu (fun h2=>?_) (fun h2=>?_)
   ·exact m31
   ·conv=>whnf
    refine oiO ?_
    conv=>whnf
    refine ⟨⟨rfl,5,by omega,rfl,?_⟩,?_⟩
    ·have h2':Lib.hasPrefix (s.drop a.toNat) (twos.getD 4 [])=false:=h2
     exact m51
    ·exact (show (5 - (((4:Nat):Int)+1)).toNat<(5 - ((4:Nat):Int)).toNat by omega)
  | 5,hi,hn =>
   conv=>whnf
   refine ⟨by omega,by simp;omega,?_⟩
   conv=>whnf
   refine Zyq (fun h2=>?_) (fun h2=>?_)
   ·conv=>whnf
    have e:YF (s.drop a.toNat)=1:=by
     have hc:ones.contains ((s.drop a.toNat).getD 0 0)=true:=by
      rw [Lib.contains_iff_indexByte]
      simpa [ones] using h2
     rw [YF,Te (by simpa [twos] using hn),Ti hc]
    rw [e] at h
    exact h
   ·conv=>whnf
    have e:YF (s.drop a.toNat)=0:=by
     have hc:ones.contains ((s.drop a.toNat).getD 0 0)=false:=by
      rw [Lib.contains_iff_indexByte]
      simpa [ones] using h2
     rw [YF,Te (by simpa [twos] using hn),Te (by rw [hc];simp)]
    rw [e] at h
    exact h
 ·exact h.elim
end Go.PM.Lex
end

section
namespace Go.PM.Lex
open Go.Proofs
variable {w0:World} {nG:Nat}
theorem Uv:Zg (-1)=false:=by decide
theorem JE:Zl (-1)=false:=by decide
theorem ZaY {f:Nat} {r:Bs} (h1:(pk r).1=46) (h2:Zg (pk (r.drop 1)).1=true):ZI (f+1) r=(pk r).2+ZI f (r.drop (pk r).2):=by rw [ZI,Ti h1,Ti h2]
theorem Zah {f:Nat} {r:Bs} (h1:(pk r).1=46) (h2:Zg (pk (r.drop 1)).1=false):ZI (f+1) r=0:=by rw [ZI,Ti h1,Te (by rw [h2];simp)]
theorem Vv {f:Nat} {r:Bs} (h1:¬(pk r).1=46) (h2:Zg (pk r).1=true∨Zl (pk r).1=true):ZI (f+1) r=(pk r).2+ZI f (r.drop (pk r).2):=by rw [ZI,Te h1,Ti h2]
theorem ZaZ {f:Nat} {r:Bs} (h1:¬(pk r).1=46) (h2:Zg (pk r).1=false) (h3:Zl (pk r).1=false):ZI (f+1) r=0:=by rw [ZI,Te h1,Te (by simp [h2,h3])]
theorem Ze3 {s:Bs} {a b:Nat}:cut s a b=(s.drop a).take (b - a):=by simp [cut,List.drop_take]
noncomputable def ZpY:Tbl:=[(209,Jg),(210,W3),(268,JD)]
theorem ZpZ (ht:TblOK (GG w0 nG) ZpY):PCalls (GG w0 nG) 211 ZcG:=by
 refine pc ht Tryz.func211 ?_
 intro args σ K h
 unfold ZcG at h
 split at h
 ·rename_i t s a
  obtain ⟨⟨h0,h1,hs⟩,h⟩:=h
  obtain ⟨a,rfl⟩:∃n:Nat,a=n:=⟨a.toNat,by omega⟩
  simp only [TF] at h
  refine ⟨Zb [(2,⟨[3],[0,2],fun vs σ=>σ=⟨[.cells t [.d (.str s),.d (.int .i64 a)],.cells 218 [.d (.int .u8 0),.d (.str []),.d (.int .i64 0),.d (.int .i64 0),.d (.int .i64 0)]],[],0⟩ ∧
   ∃e f:Nat,a≤e∧e≤s.length∧vs=[.d (.int .i64 e)]∧s.length<e+f∧e+ZI f (s.drop e)=a+Y7 (s.drop a),muI s.length⟩)],1,false,by simp,Tb rfl,?_⟩
  conv=>whnf
  refine ⟨⟨rfl,a,s.length - a+1,by omega,by omega,rfl,by omega,by simp [Y7]⟩,?_⟩
  intro vs σ1 hI
  obtain ⟨rfl,e,f,he1,he2,rfl,hf,hn⟩:=hI
  obtain ⟨f,rfl⟩:∃g,f=g+1:=⟨f - 1,by omega⟩
  have hpr:=W5 (s.drop e)
  have hpl:=ZlC (s.drop e)
  have hple:=ZnK (s.drop e)
  have hp2:=W5 (s.drop ((e:Int)+1).toNat)
  have hend:ZI (f+1) (s.drop e)=0→K (.ret (ZdF 1 (cut s a e) 0 a e)) ⟨[.cells t [.d (.str s),.d (.int .i64 a)]],[],0⟩:=fun h3=>by
   have e2:Y7 (s.drop a)=e - a:=by rw [h3] at hn;omega
   rw [e2,show (a:Int)+((e - a:Nat):Int)=(e:Int) by omega,← Ze3] at h
   exact h
  have hgo:∀n:Nat,1≤n→e+n≤s.length→ZI (f+1) (s.drop e)=n+ZI f ((s.drop e).drop n)→a≤e+n∧e+n≤s.length∧s.length<(e+n)+f∧(e+n)+ZI f (s.drop (e+n))=a+Y7 (s.drop a):=fun n h1 h2 h3=>by
   rw [TL] at h3
   exact ⟨by omega,h2,by omega,by rw [← hn,h3];omega⟩
  conv=>whnf
  refine ⟨⟨by omega,by omega⟩,?_⟩
  conv=>whnf
  refine Zyq (fun h2=>?_) (fun h2=>?_)
  ·conv=>whnf
   refine oiO ?_
   conv=>whnf
   refine ⟨⟨by omega,by omega⟩,?_⟩
   conv=>whnf
   refine ⟨⟨by omega,by omega⟩,?_⟩
   conv=>whnf
   have hw:((e:Int)+1).toNat=e+1:=by omega
   refine Zyu (fun h3=>?_) (fun h3=>?_)
   ·rw [hw] at h3
    conv=>whnf
    refine ⟨by omega,by omega,by omega,?_⟩
    conv=>whnf
    exact hend (Zah h2 (by rw [TL];simpa using h3))
   ·rw [hw] at h3
    conv=>whnf
    have hne:(pk (s.drop e)).1≠-1:=by have:(pk (s.drop e)).1=46:=h2;omega
    obtain ⟨g1,g2,g3⟩:=hple hne
    have g2':e+(pk (s.drop e)).2≤s.length:=by rw [Tt] at g2;omega
    refine Or.inl ⟨InR.i64 (by simp only [TF];omega) (by simp only [TF];omega),?_⟩
    conv=>whnf
    obtain ⟨k1,k2,k3,k4⟩:=hgo _ g1 g2' (ZaY h2 (by rw [TL];simpa using h3))
    exact m55
  ·have h2':¬(pk (s.drop e)).1=46:=h2
   have fin:∀(h4:Zg (pk (s.drop e)).1=true∨Zl (pk (s.drop e)).1=true),a≤e+(pk (s.drop e)).2∧e+(pk (s.drop e)).2≤s.length∧s.length<(e+(pk (s.drop e)).2)+f∧(e+(pk (s.drop e)).2)+ZI f (s.drop (e+(pk (s.drop e)).2))=a+Y7 (s.drop a):=fun h4=>by
    have hne:(pk (s.drop e)).1≠-1:=fun h5=>by rw [h5,Uv,JE] at h4;simp at h4
    obtain ⟨g1,g2,g3⟩:=hple hne
    have g2':e+(pk (s.drop e)).2≤s.length:=by rw [Tt] at g2;omega
    exact hgo _ g1 g2' (Vv h2' h4)
   conv=>whnf
   refine ⟨⟨hpr.1,by simp only [TF];omega⟩,?_⟩
   conv=>whnf
   refine Zyu (fun h3=>?_) (fun h3=>?_)
   ·have h3':Zg (pk (s.drop e)).1=false:=by simpa using h3
    conv=>whnf
    refine Zyu (fun h4=>?_) (fun h4=>?_)
    ·have h4':Zl (pk (s.drop e)).1=false:=by simpa using h4
     conv=>whnf
     refine ⟨by omega,by omega,by omega,?_⟩
     conv=>whnf
     exact hend (ZaZ h2' h3' h4')
    ·have h4':Zl (pk (s.drop e)).1=true:=by simpa using h4
     conv=>whnf
     obtain ⟨k1,k2,k3,k4⟩:=fin (.inr h4')
     exact m179
   ·have h3':Zg (pk (s.drop e)).1=true:=by simpa using h3
    conv=>whnf
    obtain ⟨k1,k2,k3,k4⟩:=fin (.inl h3')
    exact m179
 ·exact h.elim
end Go.PM.Lex
end

section
namespace Go.PM.Lex
open Go.Proofs
variable {w0:World} {nG:Nat}
def ZxZ (B:Int):List PV→St→Nat:=fun _ σ=>match σ.bx with | .cells _ (_::.d (.int _ n)::_)::_=>(B - n).toNat | _=>0
theorem Uw (p:UInt8→Bool):∀r:Bs,r.dropWhile p=r.drop (r.length - (r.dropWhile p).length)∧(r.dropWhile p).length≤r.length
 | []=>by simp
 | x::r=>by
  have ih:=Uw p r
  by_cases hx:p x=true
  ·simp only [List.dropWhile_cons,hx,if_true,Tc]
   refine ⟨?_,by omega⟩
   rw [show r.length+1 - (r.dropWhile p).length=(r.length - (r.dropWhile p).length)+1 by omega,List.drop_succ_cons]
   exact ih.1
  ·simp [List.dropWhile_cons,hx]
theorem Ux (c:UInt8):∀l:Bs,Lib.indexByte l c<l.length∨Lib.indexByte l c=-1
 | []=>.inr rfl
 | b::l=>by
  have ih:=Ux c l
  unfold Lib.indexByte
  split
  ·left;simp
  ·split
   ·exact .inr rfl
   ·rename_i h1 h2
    rcases ih with h | h
    ·left;simp;omega
    ·rw [h] at h2;simp at h2
theorem Ze4 (p:Bs):∀l:Bs,0≤Lib.index l p→Lib.index l p+p.length≤l.length
 | [],h=>by
  unfold Lib.index at h ⊢
  split at h
  ·rename_i hp
   simp at hp;subst hp;simp
  ·omega
 | b::l,h=>by
  have ih:=Ze4 p l
  unfold Lib.index at h ⊢
  split at h
  ·rename_i hp
   have:=List.IsPrefix.length_le (List.isPrefixOf_iff_prefix.1 hp)
   simp only [hp,if_true]
   simp only [Tc] at this ⊢;omega
  ·split at h
   ·omega
   ·rename_i h1 h2
    have:=Lib.index_ge l p
    have h3:Lib.index l p≠-1:=by simpa using h2
    simp only [h1,h2,To,if_false]
    have:=ih (by omega)
    simp only [Tc];omega
theorem Yj {r:Bs} {a b:UInt8} (h:Lib.hasPrefix r [a,b]=true):2≤r.length∧r=a::b::r.drop 2:=by
 obtain ⟨t,rfl⟩:=List.isPrefixOf_iff_prefix.1 h
 simp
theorem Ze5 {r:Bs} {a b c:UInt8} (h:Lib.hasPrefix r [a,b]=true) (ha:a≠c) (hb:b≠c) (h0:0≤Lib.indexByte r c):2≤Lib.indexByte r c:=by
 rw [(Yj h).2] at h0 ⊢
 have h1:(a == c)=false:=by simpa using ha
 have h2:(b == c)=false:=by simpa using hb
 have hg:=Lib.indexByte_ge (r.drop 2) c
 simp only [Lib.indexByte,h1,h2,To,if_false] at h0 ⊢
 by_cases hm:Lib.indexByte (r.drop 2) c=-1
 ·rw [hm] at h0;simp at h0
 ·have hm':(Lib.indexByte (r.drop 2) c == -1)=false:=by simpa using hm
  simp only [hm',To,if_false] at h0 ⊢
  have:(Lib.indexByte (r.drop 2) c+1 == -1)=false:=by simp;omega
  simp only [this,To,if_false]
  omega
theorem ZtP:∀(j:Nat) (b:UInt8),([32,9,13,10]:Bs)[j]?=some b→b.toNat<128
 | 0,b,h=>by simp at h;subst h;decide
 | 1,b,h=>by simp at h;subst h;decide
 | 2,b,h=>by simp at h;subst h;decide
 | 3,b,h=>by simp at h;subst h;decide
 | j+4,b,h=>by simp at h
noncomputable def ZnL:Tbl:=[(277,Vu),(267,YL),(215,Xf),(278,ZcE)]
theorem ZnM (ht:TblOK (GG w0 nG) ZnL):PCalls (GG w0 nG) 226 ZaX:=by
 refine pc ht Tryz.func226 ?_
 intro args σ K h
 unfold ZaX at h
 split at h
 ·rename_i t s a
  obtain ⟨⟨h0,h1,hs⟩,h⟩:=h
  obtain ⟨a,rfl⟩:∃n:Nat,a=n:=⟨a.toNat,by omega⟩
  simp only [TF] at h
  refine ⟨Zb [(1,⟨[],[0],fun vs σ=>vs=[] ∧
   ∃e f:Nat,σ=⟨[.cells t [.d (.str s),.d (.int .i64 e)]],[],0⟩∧a≤e∧e≤s.length∧s.length<e+f∧(ZS f (s.drop e)).1=(YC (s.drop a)).1∧e+(ZS f (s.drop e)).2=a+(YC (s.drop a)).2,ZxZ s.length⟩)],1,false,by simp,Tb rfl,?_⟩
  conv=>whnf
  refine ⟨⟨rfl,a,s.length - a+1,rfl,by omega,by omega,by omega,by simp [YC],by simp [YC]⟩,?_⟩
  intro vs σ1 hI
  obtain ⟨rfl,e,f,rfl,he1,he2,hf,hn1,hn2⟩:=hI
  obtain ⟨f,rfl⟩:∃g,f=g+1:=⟨f - 1,by omega⟩
  conv=>whnf
  refine ⟨by omega,by omega,?_⟩
  conv=>whnf
  refine ⟨⟨by decide,ZtP⟩,?_⟩
  conv=>whnf
  generalize hrest0:Lib.trimLeftS (cut s _ _) _=rest
  have hrest:Lib.trimLeftS (s.drop e) [32,9,13,10]=rest:=by rw [Uu] at hrest0;exact hrest0
  have hdw:=Uw (([32,9,13,10]:Bs).contains ·) (s.drop e)
  have hr1:rest=(s.drop e).drop ((s.drop e).length - rest.length):=by rw [← hrest];exact hdw.1
  have hr2:rest.length≤(s.drop e).length:=by rw [← hrest];exact hdw.2
  rw [Tt] at hr2
  have hr3:rest=s.drop (s.length - rest.length):=by
   rw [TL,Tt,show e+(s.length - e - rest.length)=s.length - rest.length by omega] at hr1
   exact hr1
  have hk:(s.drop e).length - rest.length=s.length - rest.length - e:=by rw [Tt];omega
  have hgo:∀n:Nat,1≤n→n≤rest.length→ZS (f+1) (s.drop e)=((ZS f (rest.drop n)).1,(s.drop e).length - rest.length+n+(ZS f (rest.drop n)).2) →
    a≤s.length - rest.length+n∧s.length - rest.length+n≤s.length∧s.length<(s.length - rest.length+n)+f∧(ZS f (s.drop (s.length - rest.length+n))).1=(YC (s.drop a)).1∧(s.length - rest.length+n)+(ZS f (s.drop (s.length - rest.length+n))).2=a+(YC (s.drop a)).2:=fun n g1 g2 g3=>by
   have g4:rest.drop n=s.drop (s.length - rest.length+n):=by rw [← TL,← hr3]
   rw [g3,g4] at hn1 hn2
   simp only at hn1 hn2
   exact ⟨by omega,by omega,by omega,hn1,by omega⟩
  have hend:∀b:Bool,ZS (f+1) (s.drop e)=(b,(s.drop e).length - rest.length)→K (.ret (.d (.bool b))) ⟨[.cells t [.d (.str s),.d (.int .i64 ((s.length:Int) - rest.length))]],[],0⟩:=fun b g=>by
   rw [g] at hn1 hn2
   simp only at hn1 hn2
   rw [← hn1,show (a:Int)+((YC (s.drop a)).2:Int)=(s.length:Int) - rest.length by omega] at h
   exact h
  have bg1:Lib.hasPrefix rest [47,47]=true→ZS (f+1) (s.drop e)=((ZS f (rest.drop (if Lib.indexByte rest 10<0 then rest.length else (Lib.indexByte rest 10).toNat))).1,(s.drop e).length - rest.length+(if Lib.indexByte rest 10<0 then rest.length else (Lib.indexByte rest 10).toNat)+(ZS f (rest.drop (if Lib.indexByte rest 10<0 then rest.length else (Lib.indexByte rest 10).toNat))).2):=fun g=>by
   simp only [ZS,hrest,g,if_true]
  have bg2:Lib.hasPrefix rest [47,47]=false→Lib.hasPrefix rest [47,42]=true→Lib.index (rest.drop 2) [42,47]<0→ZS (f+1) (s.drop e)=(false,(s.drop e).length - rest.length):=fun g1 g2 g3=>by
   simp only [ZS,hrest,g1,g2,g3,if_true,To,if_false]
  have bg3:Lib.hasPrefix rest [47,47]=false→Lib.hasPrefix rest [47,42]=true→¬Lib.index (rest.drop 2) [42,47]<0→ZS (f+1) (s.drop e)=((ZS f (rest.drop ((Lib.index (rest.drop 2) [42,47]).toNat+4))).1,(s.drop e).length - rest.length+((Lib.index (rest.drop 2) [42,47]).toNat+4)+(ZS f (rest.drop ((Lib.index (rest.drop 2) [42,47]).toNat+4))).2):=fun g1 g2 g3=>by
   simp only [ZS,hrest,g1,g2,g3,if_true,To,if_false]
  have bg4:Lib.hasPrefix rest [47,47]=false→Lib.hasPrefix rest [47,42]=false→ZS (f+1) (s.drop e)=(true,(s.drop e).length - rest.length):=fun g1 g2=>by
   simp only [ZS,hrest,g1,g2,To,if_false]
  refine oiO ?_
  conv=>whnf
  refine Zyu (fun h2=>?_) (fun h2=>?_)
  ·have h2':Lib.hasPrefix rest [47,47]=true:=h2
   have hrl:=(Yj h2').1
   have bg:=bg1 h2'
   conv=>whnf
   have hge:=Lib.indexByte_ge rest 10
   have hlt:=Ux 10 rest
   have h22:=Ze5 (c:=10) h2' (by decide) (by decide)
   refine Zyq (fun h3=>?_) (fun h3=>?_)
   ·have h3':Lib.indexByte rest 10<0:=h3
    simp only [h3',if_true] at bg
    conv=>whnf
    refine oiO ?_
    conv=>whnf
    obtain ⟨k1,k2,k3,k4,k5⟩:=hgo _ (by omega) (by omega) bg
    refine ⟨⟨rfl,_,f,?_,k1,k2,k3,k4,k5⟩,?_⟩
    ·rw [show (s.length:Int) - (rest.length:Int)+(rest.length:Int)=((s.length - rest.length+rest.length:Nat):Int) by omega];rfl
    ·exact (show ((s.length:Int) - ((s.length:Int) - (rest.length:Int)+(rest.length:Int))).toNat<((s.length:Int) - (e:Int)).toNat by omega)
   ·have h3':¬Lib.indexByte rest 10<0:=h3
    simp only [h3',if_false] at bg
    obtain ⟨n,hn⟩:∃n:Nat,Lib.indexByte rest 10=n:=⟨(Lib.indexByte rest 10).toNat,by omega⟩
    have hn':Lib.indexByte rest ((10:Int).toNat.toUInt8)=n:=hn
    conv=>whnf
    rw [hn']
    rw [hn] at h22 hlt
    rw [hn,TF] at bg
    refine oiO ?_
    conv=>whnf
    obtain ⟨k1,k2,k3,k4,k5⟩:=hgo _ (by omega) (by omega) bg
    refine ⟨⟨rfl,_,f,?_,k1,k2,k3,k4,k5⟩,?_⟩
    ·rw [show (s.length:Int) - (rest.length:Int)+(n:Int)=((s.length - rest.length+n:Nat):Int) by omega];rfl
    ·exact (show ((s.length:Int) - ((s.length:Int) - (rest.length:Int)+(n:Int))).toNat<((s.length:Int) - (e:Int)).toNat by omega)
  ·have h2':Lib.hasPrefix rest [47,47]=false:=h2
   conv=>whnf
   refine Zyu (fun h3=>?_) (fun h3=>?_)
   ·have h3':Lib.hasPrefix rest [47,42]=true:=h3
    have hrl:=(Yj h3').1
    conv=>whnf
    refine ⟨by omega,by omega,?_⟩
    conv=>whnf
    rw [Uu]
    have hdl:(rest.drop 2).length=rest.length - 2:=by simp
    refine ⟨by have:(rest.drop ((2:Int).toNat)).length=rest.length - 2:=hdl;omega,?_⟩
    conv=>whnf
    have hge:=Lib.index_ge (rest.drop 2) [42,47]
    have hle:=Ze4 [42,47] (rest.drop 2)
    simp only [Tc,Td,hdl] at hle
    refine Zyq (fun h4=>?_) (fun h4=>?_)
    ·conv=>whnf
     exact hend _ (bg2 h2' h3' h4)
    ·have h4':¬Lib.index (rest.drop 2) [42,47]<0:=h4
     have bg:=bg3 h2' h3' h4'
     obtain ⟨n,hn⟩:∃n:Nat,Lib.index (rest.drop 2) [42,47]=n:=⟨(Lib.index (rest.drop 2) [42,47]).toNat,by omega⟩
     conv=>whnf
     generalize hi:Lib.index _ _=i
     have hi':i=n:=by rw [← hi];exact hn
     subst hi'
     rw [hn] at hle
     rw [hn,TF] at bg
     refine oiO ?_
     conv=>whnf
     refine oiO ?_
     conv=>whnf
     obtain ⟨k1,k2,k3,k4,k5⟩:=hgo _ (by omega) (by omega) bg
     refine ⟨⟨rfl,_,f,?_,k1,k2,k3,k4,k5⟩,?_⟩
     ·rw [show (s.length:Int) - (rest.length:Int)+((n:Int)+4)=((s.length - rest.length+(n+4):Nat):Int) by omega];rfl
     ·exact (show ((s.length:Int) - ((s.length:Int) - (rest.length:Int)+((n:Int)+4))).toNat<((s.length:Int) - (e:Int)).toNat by omega)
   ·conv=>whnf
    exact hend _ (bg4 h2' h3)
 ·exact h.elim
end Go.PM.Lex
end

section
namespace Go.PM.Lex
open Go.Proofs
variable {w0:World} {nG:Nat}
theorem orU (n:Fin 256):Zh .or .u8 (n.val:Int) 32=((n.val ||| 32:Nat):Int):=by rw [Yl];revert n;decide +kernel
theorem orH:∀n:Fin 256,(97≤(n.val ||| 32)∧(n.val ||| 32)≤102)↔((97≤n.val∧n.val≤102)∨(65≤n.val∧n.val≤70)):=by decide +kernel
theorem ZtQ (b:UInt8):(97≤Zh .or .u8 (b.toNat:Int) 32∧Zh .or .u8 (b.toNat:Int) 32≤102)↔((97≤b.toNat∧b.toNat≤102)∨(65≤b.toNat∧b.toNat≤70)):=by
 have h2:=orU ⟨b.toNat,b.toNat_lt⟩
 have h3:=orH ⟨b.toNat,b.toNat_lt⟩
 simp only at h2 h3
 rw [h2]
 omega
theorem XS (p:UInt8→Bool):∀l:Bs,l.takeWhile p=l.take (l.takeWhile p).length
 | []=>rfl
 | x::l=>by
  by_cases h:p x=true
  ·simp only [Sa,h,if_true,Tc,List.take_succ_cons];rw [← XS p l]
  ·simp [Sa,h]
theorem VV (p:UInt8→Bool):∀l:Bs,(l.takeWhile p).all p=true
 | []=>rfl
 | x::l=>by
  by_cases h:p x=true
  ·simp only [Sa,h,if_true,List.all_cons,VV p l,Bool.and_self]
  ·simp [Sa,h]
theorem Uy (p:UInt8→Bool) (l:Bs):(l.takeWhile p).length≤l.length:=List.Sublist.length_le (List.takeWhile_sublist p)
theorem ZlD {s:Bs} {e:Nat} (h:e<s.length):s.drop e=s.getD e 0::s.drop (e+1):=by
 rw [Sq h];simp [List.getD,h]
noncomputable def ZlE:Tbl:=[(267,YL),(268,JD),(312,WE),(209,Jg),(210,W3)]
theorem ZlF (ht:TblOK (GG w0 nG) ZlE):PCalls (GG w0 nG) 281 UY:=by
 refine pc ht Tryz.func281 ?_
 intro args σ K h
 unfold UY at h
 split at h
 ·rename_i t s a
  obtain ⟨⟨h0,h1,hs⟩,h⟩:=h
  obtain ⟨a,rfl⟩:∃n:Nat,a=n:=⟨a.toNat,by omega⟩
  simp only [TF] at h
  refine ⟨Zb [(5,⟨[5],[0,2,3,4,6],fun vs σ=>σ=⟨[.cells t [.d (.str s),.d (.int .i64 a)],.cells 218 [.d (.int .u8 0),.d (.str []),.d (.int .i64 0),.d (.int .i64 0),.d (.int .i64 0)],.cells 220 [.d (.int .i64 0),.d (.int .i64 0)]],[],0⟩ ∧
   ∃e:Nat,vs=[.d (.int .i64 e)]∧a+(if Xq (s.drop a) then 2 else 0)≤e∧e≤s.length∧e - (a+(if Xq (s.drop a) then 2 else 0))+((s.drop e).takeWhile (Wl (Xq (s.drop a)))).length=(Ze (s.drop a)).length,muI s.length⟩)],1,false,by simp,Tb rfl,?_⟩
  have hbad:ZE (s.drop a)=none→K (.ret (.tuple [ZdF 0 [] 0 0 0,Zgb a 142])) ⟨[.cells t [.d (.str s),.d (.int .i64 a)]],[],0⟩:=fun g=>by
   have e1:Xw a (s.drop a)=.bad a 142:=by rw [Xw,g]
   rw [e1] at h;exact h
  have hgood:∀n:Nat,ZE (s.drop a)=some n→K (.ret (.tuple [ZdF 2 [] (IntKind.i64.wrap n) a ((a+Zm (s.drop a):Nat):Int),Zgb 0 0])) ⟨[.cells t [.d (.str s),.d (.int .i64 a)]],[],0⟩:=fun n g=>by
   have e1:Xw a (s.drop a)=.tok ⟨2,[],IntKind.i64.wrap n,a,a+Zm (s.drop a)⟩:=by rw [Xw,g]
   rw [e1] at h;exact h
  conv=>whnf
  refine ⟨by omega,by omega,?_⟩
  conv=>whnf
  rw [Uu]
  refine Zyu (fun hx=>?_) (fun hx=>?_)
  ·have hx':Xq (s.drop a)=true:=hx
   simp only [hx',if_true,To,if_false]
   have hnd:Ze (s.drop a)=(s.drop (a+2)).takeWhile (Wl true):=by simp [Ze,hx',TL]
   have hnl:Zm (s.drop a)=2+(Ze (s.drop a)).length:=by simp [Zm,hx']
   have hl2:=(Yj hx).1
   rw [Tt] at hl2
   conv=>whnf
   refine oiO ?_
   conv=>whnf
   refine ⟨⟨rfl,(a+2),rfl,by omega,by omega,by rw [hnd];simp⟩,?_⟩
   intro vs σ1 hI
   obtain ⟨rfl,e,rfl,he1,he2,hn⟩:=hI
   have htail:∀(g:((s.drop e).takeWhile (Wl true)).length=0),e=a+Zm (s.drop a)∧Ze (s.drop a)=cut s (a+2) e:=fun g=>by
    rw [g] at hn
    refine ⟨by omega,?_⟩
    rw [Ze3,show e - (a+2)=(Ze (s.drop a)).length by omega,hnd]
    exact XS _ _
   have hall:(Ze (s.drop a)).all (Wl true)=true:=by rw [hnd];exact VV _ _
   have hnlen:(Ze (s.drop a)).length≤s.length:=by
    rw [hnd];have:=Uy (Wl true) (s.drop (a+2));rw [Tt] at this;omega
   conv=>whnf
   refine Zyq (fun h2=>?_) (fun h2=>?_)
   ·have h2':e<s.length:=by omega
    have hdr:=ZlD h2'
    have hb:=(s.getD e 0).toNat_lt
    have hstep:Wl true (s.getD e 0)=true→e+1 - (a+2)+((s.drop (e+1)).takeWhile (Wl true)).length=(Ze (s.drop a)).length:=fun g=>by
     rw [← hn,hdr,Sa,Ti g,Tc];omega
    have hstop:Wl true (s.getD e 0)=false→((s.drop e).takeWhile (Wl true)).length=0:=fun g=>by
     rw [hdr,Sa,Te (by rw [g];simp)];rfl
    conv=>whnf
    refine ⟨by omega,by omega,?_⟩
    conv=>whnf
    refine Or.inl ⟨InR.i32 (by omega) (by simp only [TF];omega),?_⟩
    conv=>whnf
    refine Zyu (fun h3=>?_) (fun h3=>?_)
    ·exact m66
    ·have h3':Zl ((s.getD e 0).toNat:Int)=false:=h3
     conv=>whnf
     have hoh:=ZtQ (s.getD e 0)
     refine Zyq (fun h4=>?_) (fun h4=>?_)
     ·conv=>whnf
      refine Zyq (fun h5=>?_) (fun h5=>?_)
      ·have hd:Wl true (s.getD e 0)=true:=by
        have:=hoh.1 ⟨h4,h5⟩
        simp only [Wl,h3',Bool.false_or,TJ,Tz];omega
       conv=>whnf
       refine oiO ?_
       conv=>whnf
       refine ⟨⟨rfl,e+1,rfl,by omega,by omega,hstep hd⟩,?_⟩
       exact (show ((s.length:Int) - ((e:Int)+1)).toNat<((s.length:Int) - (e:Int)).toNat by omega)
      ·have hd:Wl true (s.getD e 0)=false:=by
        have:¬((97≤(s.getD e 0).toNat∧(s.getD e 0).toNat≤102)∨(65≤(s.getD e 0).toNat∧(s.getD e 0).toNat≤70)):=fun g=>h5 (hoh.2 g).2
        simp only [Wl,h3',Bool.false_or,TJ,decide_eq_false_iff_not];exact this
       have hst:=htail (hstop hd)
       exact m2
     ·have hd:Wl true (s.getD e 0)=false:=by
       have:¬((97≤(s.getD e 0).toNat∧(s.getD e 0).toNat≤102)∨(65≤(s.getD e 0).toNat∧(s.getD e 0).toNat≤70)):=fun g=>h4 (hoh.2 g).1
       simp only [Wl,h3',Bool.false_or,TJ,decide_eq_false_iff_not];exact this
      have hst:=htail (hstop hd)
      exact m2
   ·have hd0:((s.drop e).takeWhile (Wl true)).length=0:=by rw [TP (by omega)];rfl
    have hst:=htail (hd0)
    exact m2
  ·have hx':Xq (s.drop a)=false:=hx
   simp only [hx',if_true,To,if_false]
   have hnd:Ze (s.drop a)=(s.drop (a+0)).takeWhile (Wl false):=by simp [Ze,hx',TL]
   have hnl:Zm (s.drop a)=0+(Ze (s.drop a)).length:=by simp [Zm,hx']
   conv=>whnf
   refine ⟨⟨rfl,a,rfl,by omega,by omega,by rw [hnd];simp⟩,?_⟩
   intro vs σ1 hI
   obtain ⟨rfl,e,rfl,he1,he2,hn⟩:=hI
   have htail:∀(g:((s.drop e).takeWhile (Wl false)).length=0),e=a+Zm (s.drop a)∧Ze (s.drop a)=cut s (a+0) e:=fun g=>by
    rw [g] at hn
    refine ⟨by omega,?_⟩
    rw [Ze3,show e - (a+0)=(Ze (s.drop a)).length by omega,hnd]
    exact XS _ _
   have hall:(Ze (s.drop a)).all (Wl false)=true:=by rw [hnd];exact VV _ _
   have hnlen:(Ze (s.drop a)).length≤s.length:=by
    rw [hnd];have:=Uy (Wl false) (s.drop (a+0));rw [Tt] at this;omega
   conv=>whnf
   refine Zyq (fun h2=>?_) (fun h2=>?_)
   ·have h2':e<s.length:=by omega
    have hdr:=ZlD h2'
    have hb:=(s.getD e 0).toNat_lt
    have hstep:Wl false (s.getD e 0)=true→e+1 - (a+0)+((s.drop (e+1)).takeWhile (Wl false)).length=(Ze (s.drop a)).length:=fun g=>by
     rw [← hn,hdr,Sa,Ti g,Tc];omega
    have hstop:Wl false (s.getD e 0)=false→((s.drop e).takeWhile (Wl false)).length=0:=fun g=>by
     rw [hdr,Sa,Te (by rw [g];simp)];rfl
    conv=>whnf
    refine ⟨by omega,by omega,?_⟩
    conv=>whnf
    refine Or.inl ⟨InR.i32 (by omega) (by simp only [TF];omega),?_⟩
    conv=>whnf
    refine Zyu (fun h3=>?_) (fun h3=>?_)
    ·exact m66
    ·have h3':Zl ((s.getD e 0).toNat:Int)=false:=h3
     conv=>whnf
     have hd:Wl false (s.getD e 0)=false:=by simp only [Wl,h3',TT,Sl]
     have hst:=htail (hstop hd)
     exact m8
   ·have hd0:((s.drop e).takeWhile (Wl false)).length=0:=by rw [TP (by omega)];rfl
    have hst:=htail (hd0)
    exact m8
 ·exact h.elim
end Go.PM.Lex
end

section
namespace Go.PM.Lex
open Go.Proofs
variable {w0:World} {nG:Nat}
structure GlobOK (w0:World) (nG:Nat):Prop where
 big:7<nG
 maxLen:∃m,w0.cell? ⟨2,0,none⟩=some (.int .i64 m)
 errSyntax:∃ev,w0.cell? ⟨6,0,none⟩=some ev∧(ev=.nilIface∨∃te pe,ev=.iface te pe)
 errRange:∃ev,w0.cell? ⟨7,0,none⟩=some ev∧(ev=.nilIface∨∃te pe,ev=.iface te pe)
noncomputable def Zgh:Zu:=fun args σ K=>match args with
 | [.d (.str _),.d (.str s)]=>s.length<4294967281∧K (.ret .undef) σ
 | _=>False
theorem Zen:Zc Zgh:=fun args σ K K' hK h=>by
 unfold Zgh at h ⊢;split at h <;> first | exact ⟨h.1,hK _ _ h.2⟩ | exact h.elim
theorem Zgi {e:Env} {σ:St} {w:World} {k:Nat} {u:Value} (hS:SRel (GG w0 nG) e σ w) (hk:k<nG) (h:w0.cell? ⟨k,0,none⟩=some u):w.cell? ⟨k,0,none⟩=some u:=by
 have:=hS.glob k hk
 simpa [World.cell?,this] using h
theorem ZdG (hg:GlobOK w0 nG):PCalls (GG w0 nG) 332 Zgh where
 enters:=Zj Tryz.func332 (by kernel_rfl) rfl
 calls:=fun args σ K hs n e w vs hS ha=>by
  unfold Zgh at hs
  split at hs
  ·rename_i fn s
   obtain ⟨hl,hK⟩:=hs
   obtain ⟨u,v,rfl,hu,hv⟩:=Zge ha
   cases hu.dstr;cases hv.dstr
   obtain ⟨ev,h1,h2⟩:=hg.errSyntax
   refine CallsIn.mono (callsIn_wide.2 (Tryz.strconv_syntaxError _ _ ev w (show s.toArray.size≤_ by simp;omega) (Zgi hS (by have:=hg.big;omega) h1) h2)) fun en w' ⟨N,h3,_,_,h4⟩=>?_
   exact m118
  ·exact hs.elim
theorem Ze6 (hg:GlobOK w0 nG):PCalls (GG w0 nG) 333 Zgh where
 enters:=Zj Tryz.func333 (by kernel_rfl) rfl
 calls:=fun args σ K hs n e w vs hS ha=>by
  unfold Zgh at hs
  split at hs
  ·rename_i fn s
   obtain ⟨hl,hK⟩:=hs
   obtain ⟨u,v,rfl,hu,hv⟩:=Zge ha
   cases hu.dstr;cases hv.dstr
   obtain ⟨ev,h1,h2⟩:=hg.errRange
   refine CallsIn.mono (callsIn_wide.2 (Tryz.strconv_rangeError _ _ ev w (show s.toArray.size≤_ by simp;omega) (Zgi hS (by have:=hg.big;omega) h1) h2)) fun en w' ⟨N,h3,_,_,h4⟩=>?_
   exact m118
  ·exact hs.elim
noncomputable def Uz:Zu:=fun args σ K=>match args,σ with
 | [.d (.str _),.d (.str s),.d (.int .i64 _),.d (.int .i64 _),.iface 343 (.d (.int .i64 c))],⟨[],[],0⟩=>((c=1∨c=2)∧s.length<4294967281)∧K (.ret (.iface 345 .undef)) ⟨[],[],0⟩
 | _,_=>False
theorem ZdH:Zc Uz:=fun args σ K K' hK h=>by
 unfold Uz at h ⊢;split at h <;> first | exact ⟨h.1,hK _ _ h.2⟩ | exact h.elim
noncomputable def ZwH:Tbl:=[(332,Zgh),(333,Zgh)]
theorem Zj0 (hg:GlobOK w0 nG):PCalls (GG w0 nG) 324 Uz:=by
 refine pc (tbl:=ZwH) ⟨⟨ZdG hg,Zen⟩,⟨Ze6 hg,Zen⟩,trivial⟩ Tryz.func324 ?_
 intro args σ K h
 unfold Uz at h
 split at h
 ·rename_i fn s b0 b1 c
  obtain ⟨⟨hc,hl⟩,h⟩:=h
  refine ⟨Zb [],0,false,by simp,Tb rfl,?_⟩
  rcases hc with rfl | rfl
  ·conv=>whnf
   refine ⟨hl,?_⟩
   exact m46
  ·conv=>whnf
   refine ⟨hl,?_⟩
   exact m46
 ·exact h.elim
noncomputable def ZcK:Zu:=fun args σ K=>match args,σ with
 | [.d (.int .u8 c)],⟨[],[],0⟩=>K (.ret (.d (.int .u8 (Zh .or .u8 c 32)))) ⟨[],[],0⟩
 | _,_=>False
theorem Zgj:Zc ZcK:=fun args σ K K' hK h=>by
 unfold ZcK at h ⊢;split at h <;> first | exact hK _ _ h | exact h.elim
theorem ZnN:PCalls (GG w0 nG) 330 ZcK:=by
 refine pc (tbl:=[]) trivial Tryz.func330 ?_
 intro args σ K h
 unfold ZcK at h
 split at h
 ·refine ⟨Zb [],0,false,by simp,Tb rfl,?_⟩
  exact m46
 ·exact h.elim
theorem Zx0:∀n:Fin 256,Wl true (UInt8.ofNat n.val)=true→¬(48≤n.val∧n.val≤57)→Zh .or .u8 (n.val:Int) 32=Ze0 (UInt8.ofNat n.val)+87∧10≤Ze0 (UInt8.ofNat n.val)∧Ze0 (UInt8.ofNat n.val)≤15:=by rw [Yl];decide +kernel
theorem Zgk {b:UInt8} (h:Wl true b=true) (hn:¬(48≤b.toNat∧b.toNat≤57)):Zh .or .u8 (b.toNat:Int) 32=Ze0 b+87∧10≤Ze0 b∧Ze0 b≤15:=by
 have:=Zx0 ⟨b.toNat,b.toNat_lt⟩
 simp only [UInt8.ofNat_toNat] at this
 exact this h hn
theorem Zgl (B:Nat) (l:Bs) (b:UInt8):Wz B (l++[b])=Wz B l * B+Ze0 b:=by simp [Wz,List.foldl_append]
theorem Zgm {l:Bs} {i:Nat} (h:i<l.length):l.take (i+1)=l.take i++[l.getD i 0]:=by
 rw [List.take_succ,Th h];simp [List.getD,h]
theorem ZiN (B:Nat) (hB:1≤B):∀(l:Bs) (n:Nat),n≤l.foldl (fun n b=>n * B+Ze0 b) n
 | [],n=>Tp _
 | b::l,n=>by
  have:=ZiN B hB l (n * B+Ze0 b)
  have h2:n≤n * B:=Nat.le_mul_of_pos_right n hB
  simp only [List.foldl_cons];omega
theorem Zby (B:Nat) (hB:1≤B) (l:Bs) (i:Nat):Wz B (l.take i)≤Wz B l:=by
 conv=>rhs;rw [← List.take_append_drop i l]
 unfold Wz
 rw [List.foldl_append]
 exact ZiN B hB _ _
noncomputable def ZtR:Zu:=fun args σ K=>match args,σ with
 | [.d (.str l),.d (.int .i64 base),.d (.int .i64 bits)],⟨[],[],0⟩=>∃hex:Bool,((l.all (Wl hex)=true∧l.length<4294967281)∧base=(if hex then 16 else 10)∧bits=(if hex then 64 else 63)) ∧
   (l=[]→K (.ret (.tuple [.d (.int .u64 0),.iface 343 (.d (.int .i64 2))])) ⟨[],[],0⟩) ∧
   (l≠[]→(if hex then 18446744073709551616 else 9223372036854775808)≤Wz (if hex then 16 else 10) l→K (.ret (.tuple [.d (.int .u64 (if hex then 18446744073709551615 else 9223372036854775807)),.iface 343 (.d (.int .i64 1))])) ⟨[],[],0⟩) ∧
   (l≠[]→¬(if hex then 18446744073709551616 else 9223372036854775808)≤Wz (if hex then 16 else 10) l→K (.ret (.tuple [.d (.int .u64 (Wz (if hex then 16 else 10) l)),.d .nili])) ⟨[],[],0⟩)
 | _,_=>False
theorem ZlG:Zc ZtR:=fun args σ K K' hK h=>by
 unfold ZtR at h ⊢
 split at h
 ·obtain ⟨x,h1,h2,h3,h4⟩:=h;exact ⟨x,h1,fun g=>hK _ _ (h2 g),fun g g'=>hK _ _ (h3 g g'),fun g g'=>hK _ _ (h4 g g')⟩
 ·exact h.elim
noncomputable def ZwI:Tbl:=[(330,ZcK)]
theorem ZwJ:PCalls (GG w0 nG) 323 ZtR:=by
 refine pc (tbl:=ZwI) ⟨⟨ZnN,Zgj⟩,trivial⟩ Tryz.func323 ?_
 intro args σ K h
 unfold ZtR at h
 split at h
 ·rename_i l base bits
  obtain ⟨hex,⟨⟨hall,hl⟩,rfl,rfl⟩,hnil,hover,hgood⟩:=h
  have hml:((l.map fun b=>[D.int .u8 (b.toNat:Int)]:List (List D))).length=l.length:=by simp
  cases hex with
  | true =>
   simp only [if_true,To,if_false] at hover hgood ⊢
   refine ⟨Zb [(36,⟨[101,13,12],[0,1,8,10,11,99,100],fun vs σ=>σ=⟨[],[],0⟩∧∃i:Nat,vs=[.d (.int .i64 i),.d (.int .u64 (Wz 16 (l.take i))),.d (.bool false)]∧i≤l.length∧Wz 16 (l.take i)<18446744073709551616,muI l.length⟩)],0,false,by simp,Tb rfl,?_⟩
   conv=>whnf
   refine Zyq (fun h0=>?_) (fun h0=>?_)
   ·conv=>whnf
    exact hnil h0
   ·have hne:l≠[]:=h0
    have hov:=hover hne
    have hgd:=hgood hne
    conv=>whnf
    refine oiU ?_
    conv=>whnf
    refine ⟨by decide,Or.inr ?_⟩
    rw [show IntKind.u64.wrap (1 * 2 ^ min (Int.toNat 64) IntKind.u64.bits)=0 from by decide]
    conv=>whnf
    refine Or.inr ?_
    rw [show IntKind.u64.wrap (0 - 1)=18446744073709551615 from by decide]
    conv=>whnf
    refine ⟨⟨rfl,0,rfl,by omega,by simp [Wz]⟩,?_⟩
    intro vs σ1 hI
    obtain ⟨rfl,i,rfl,hi,hN⟩:=hI
    have hle:=Zby 16 (by omega) l
    have hstep:=fun h:i<l.length=>Zgl 16 (l.take i) (l.getD i 0)
    generalize hNN:Wz 16 (l.take i)=N at hN hstep ⊢
    conv=>whnf
    refine Zyq (fun h2=>?_) (fun h2=>?_)
    ·have h2':i<l.length:=by simpa using h2
     have hrow:(l.map fun b=>[D.int .u8 (b.toNat:Int)])[((i:Int)).toNat]?=some [D.int .u8 ((l.getD i 0).toNat:Int)]:=by
      rw [TF,TH,Th h2'];simp [List.getD,h2']
     have hd:Wl true (l.getD i 0)=true:=Tl.1 hall _ (by rw [T2,Th h2'];exact TE h2')
     have hs:=hstep h2'
     rw [← Zgm h2'] at hs
     have hl1:=hle (i+1)
     have hb:=(l.getD i 0).toNat_lt
     generalize hbb:l.getD i 0=b at hrow hd hs hb
     conv=>whnf
     refine ⟨_,by omega,hrow,?_⟩
     conv=>whnf
     refine Zyq (fun h3=>?_) (fun h3=>?_)
     ·have h3':b.toNat=95:=by omega
      simp [Wl,Zl,h3'] at hd
     ·conv=>whnf
      refine Zyq (fun h4=>?_) (fun h4=>?_)
      ·conv=>whnf
       refine Zyq (fun h5=>?_) (fun h5=>?_)
       ·conv=>whnf
        refine oiB ?_
        have hD:(Ze0 b:Int)=(b.toNat:Int) - 48:=by unfold Ze0;rw [Ti (by omega)];omega
        conv=>whnf
        refine oiB ?_
        conv=>whnf
        refine Zyq (fun h6=>?_) (fun h6=>?_)
        ·omega
        ·conv=>whnf
         refine Zyq (fun h7=>?_) (fun h7=>?_)
         ·exact m172
         ·conv=>whnf
          refine oiU ?_
          conv=>whnf
          refine oiU ?_
          conv=>whnf
          refine oiU ?_
          conv=>whnf
          by_cases hbig:(N:Int) * 16+((b.toNat:Int) - 48)≤18446744073709551615
          ·refine oiU ?_
           conv=>whnf
           refine Zyq (fun h8=>?_) (fun h8=>?_)
           ·omega
           ·conv=>whnf
            refine Zyq (fun h9=>?_) (fun h9=>?_)
            ·exact m172
            ·conv=>whnf
             refine oiO ?_
             conv=>whnf
             refine ⟨⟨rfl,i+1,?_,by omega,by omega⟩,?_⟩
             ·have e:((Wz 16 (l.take (i+1)):Nat):Int)=(N:Int) * 16+((b.toNat:Int) - 48):=by omega
              rw [e];rfl
             ·exact m162
          ·have hw:IntKind.u64.wrap ((N:Int) * 16+((b.toNat:Int) - 48))=(N:Int) * 16+((b.toNat:Int) - 48) - 18446744073709551616:=by
            exact m58
           exact m47
       ·skip
        exact m11
      ·skip
       exact m11
    ·exact m108
  | false =>
   simp only [if_true,To,if_false] at hover hgood ⊢
   refine ⟨Zb [(36,⟨[101,13,12],[0,1,8,10,11,99,100],fun vs σ=>σ=⟨[],[],0⟩∧∃i:Nat,vs=[.d (.int .i64 i),.d (.int .u64 (Wz 10 (l.take i))),.d (.bool false)]∧i≤l.length∧Wz 10 (l.take i)<9223372036854775808,muI l.length⟩)],0,false,by simp,Tb rfl,?_⟩
   conv=>whnf
   refine Zyq (fun h0=>?_) (fun h0=>?_)
   ·conv=>whnf
    exact hnil h0
   ·have hne:l≠[]:=h0
    have hov:=hover hne
    have hgd:=hgood hne
    conv=>whnf
    refine oiU ?_
    conv=>whnf
    refine ⟨by decide,Or.inr ?_⟩
    rw [show IntKind.u64.wrap (1 * 2 ^ min (Int.toNat 63) IntKind.u64.bits)=9223372036854775808 from by decide]
    conv=>whnf
    refine Or.inr ?_
    rw [show IntKind.u64.wrap (9223372036854775808 - 1)=9223372036854775807 from by decide]
    conv=>whnf
    refine ⟨⟨rfl,0,rfl,by omega,by simp [Wz]⟩,?_⟩
    intro vs σ1 hI
    obtain ⟨rfl,i,rfl,hi,hN⟩:=hI
    have hle:=Zby 10 (by omega) l
    have hstep:=fun h:i<l.length=>Zgl 10 (l.take i) (l.getD i 0)
    generalize hNN:Wz 10 (l.take i)=N at hN hstep ⊢
    conv=>whnf
    refine Zyq (fun h2=>?_) (fun h2=>?_)
    ·have h2':i<l.length:=by simpa using h2
     have hrow:(l.map fun b=>[D.int .u8 (b.toNat:Int)])[((i:Int)).toNat]?=some [D.int .u8 ((l.getD i 0).toNat:Int)]:=by
      rw [TF,TH,Th h2'];simp [List.getD,h2']
     have hd:Wl false (l.getD i 0)=true:=Tl.1 hall _ (by rw [T2,Th h2'];exact TE h2')
     have hs:=hstep h2'
     rw [← Zgm h2'] at hs
     have hl1:=hle (i+1)
     have hb:=(l.getD i 0).toNat_lt
     generalize hbb:l.getD i 0=b at hrow hd hs hb
     conv=>whnf
     refine ⟨_,by omega,hrow,?_⟩
     conv=>whnf
     refine Zyq (fun h3=>?_) (fun h3=>?_)
     ·have h3':b.toNat=95:=by omega
      simp [Wl,Zl,h3'] at hd
     ·conv=>whnf
      have hd':48≤b.toNat∧b.toNat≤57:=by
       simp only [Wl,TT,Sl,Zl,Tz] at hd;omega
      refine Zyq (fun h4=>?_) (fun h4=>?_)
      ·conv=>whnf
       refine Zyq (fun h5=>?_) (fun h5=>?_)
       ·conv=>whnf
        refine oiB ?_
        have hD:(Ze0 b:Int)=(b.toNat:Int) - 48:=by unfold Ze0;rw [Ti (by omega)];omega
        conv=>whnf
        refine oiB ?_
        conv=>whnf
        refine Zyq (fun h6=>?_) (fun h6=>?_)
        ·omega
        ·conv=>whnf
         refine Zyq (fun h7=>?_) (fun h7=>?_)
         ·exact m172
         ·conv=>whnf
          refine oiU ?_
          conv=>whnf
          refine oiU ?_
          conv=>whnf
          refine oiU ?_
          conv=>whnf
          by_cases hbig:(N:Int) * 10+((b.toNat:Int) - 48)≤18446744073709551615
          ·refine oiU ?_
           conv=>whnf
           refine Zyq (fun h8=>?_) (fun h8=>?_)
           ·omega
           ·conv=>whnf
            refine Zyq (fun h9=>?_) (fun h9=>?_)
            ·exact m172
            ·conv=>whnf
             refine oiO ?_
             conv=>whnf
             refine ⟨⟨rfl,i+1,?_,by omega,by omega⟩,?_⟩
             ·have e:((Wz 10 (l.take (i+1)):Nat):Int)=(N:Int) * 10+((b.toNat:Int) - 48):=by omega
              rw [e];rfl
             ·exact m162
          ·have hw:IntKind.u64.wrap ((N:Int) * 10+((b.toNat:Int) - 48))=(N:Int) * 10+((b.toNat:Int) - 48) - 18446744073709551616:=by
            exact m58
           exact m47
       ·omega
      ·omega
    ·exact m108
 ·exact h.elim
end Go.PM.Lex
end

section
namespace Go.PM.Lex
open Go.Proofs
variable {w0:World} {nG:Nat}
theorem Zp0:∀n:Fin 64,Zh .or .u8 128 (n.val:Int)=128+n.val:=by rw [Yl];decide +kernel
theorem Zp1:∀n:Fin 32,Zh .or .u8 192 (n.val:Int)=192+n.val:=by rw [Yl];decide +kernel
theorem Zp2:∀n:Fin 16,Zh .or .u8 224 (n.val:Int)=224+n.val:=by rw [Yl];decide +kernel
theorem Zp3:∀n:Fin 8,Zh .or .u8 240 (n.val:Int)=240+n.val:=by rw [Yl];decide +kernel
theorem Zp4:∀n:Fin 256,Zh .and .u8 (n.val:Int) 63=n.val % 64:=by rw [Yl];decide +kernel
theorem Zpa {x:Int} (h0:0≤x) (h1:x<64):Zh .or .u8 128 x=128+x:=by obtain ⟨n,rfl⟩:∃n:Nat,x=n:=⟨x.toNat,by omega⟩;exact Zp0 ⟨n,by omega⟩
theorem Zx1 {x:Int} (h0:0≤x) (h1:x<32):Zh .or .u8 192 x=192+x:=by obtain ⟨n,rfl⟩:∃n:Nat,x=n:=⟨x.toNat,by omega⟩;exact Zp1 ⟨n,by omega⟩
theorem ZxF {x:Int} (h0:0≤x) (h1:x<16):Zh .or .u8 224 x=224+x:=by obtain ⟨n,rfl⟩:∃n:Nat,x=n:=⟨x.toNat,by omega⟩;exact Zp2 ⟨n,by omega⟩
theorem Zx2 {x:Int} (h0:0≤x) (h1:x<8):Zh .or .u8 240 x=240+x:=by obtain ⟨n,rfl⟩:∃n:Nat,x=n:=⟨x.toNat,by omega⟩;exact Zp3 ⟨n,by omega⟩
theorem a63 {x:Int} (h0:0≤x) (h1:x<256):Zh .and .u8 x 63=x % 64:=by obtain ⟨n,rfl⟩:∃n:Nat,x=n:=⟨x.toNat,by omega⟩;rw [Zp4 ⟨n,by omega⟩]
theorem wu8 (n:Int):IntKind.u8.wrap n=n % 256:=by simp [IntKind.wrap,IntKind.bits,IntKind.signed]
theorem Wt (c:Int):Zi (Lib.encodeRune c)=(Lib.encodeRuneZ c).map fun x=>[D.int .u8 x]:=by
 have h:=Lib.encodeRuneZ_byte c
 unfold Lib.encodeRune Zi
 rw [TD]
 refine TO fun x hx=>?_
 have:=h x hx
 simp [UInt8.toNat_ofNat']
 omega
noncomputable def X2:Zu:=fun args σ K=>match args,σ with
 | [.sl 0 e rows,.d (.int .i32 c)],⟨[],[0],1⟩=>(e=5∧(∀r∈rows,r.length=1)∧rows.length<70368744177664∧0≤c∧c≤1114111)∧K (.ret (.sl 0 5 (rows++Zi (Lib.encodeRune c)))) ⟨[],[0],1⟩
 | _,_=>False
theorem Za0:Zc X2:=fun args σ K K' hK h=>by
 unfold X2 at h ⊢;split at h <;> first | exact ⟨h.1,hK _ _ h.2⟩ | exact h.elim
noncomputable def Xx:Zu:=fun args σ K=>match args,σ with
 | [.sl 0 e rows,.d (.int .i32 c)],⟨[],[0],1⟩=>(e=5∧(∀r∈rows,r.length=1)∧rows.length<70368744177664∧128≤c∧c≤1114111)∧K (.ret (.sl 0 5 (rows++Zi (Lib.encodeRune c)))) ⟨[],[0],1⟩
 | _,_=>False
theorem Zai:Zc Xx:=fun args σ K K' hK h=>by
 unfold Xx at h ⊢;split at h <;> first | exact ⟨h.1,hK _ _ h.2⟩ | exact h.elim
theorem ZdI:PCalls (GG w0 nG) 271 Xx:=by
 refine pc (tbl:=[]) trivial Tryz.func271 ?_
 intro args σ K h
 unfold Xx at h
 split at h
 ·rename_i e rows c
  obtain ⟨⟨rfl,hr1,hrl,hc0,hc1⟩,h⟩:=h
  refine ⟨Zb [],0,true,by simp,Tb rfl,?_⟩
  have e6:c.fdiv (2 ^ min (Int.toNat 6) IntKind.i32.bits)=c / 64:=by rw [show (2:Int) ^ min (Int.toNat 6) IntKind.i32.bits=64 by decide];exact Int.fdiv_eq_ediv_of_nonneg _ (by omega)
  have e12:c.fdiv (2 ^ min (Int.toNat 12) IntKind.i32.bits)=c / 4096:=by rw [show (2:Int) ^ min (Int.toNat 12) IntKind.i32.bits=4096 by decide];exact Int.fdiv_eq_ediv_of_nonneg _ (by omega)
  have e18:c.fdiv (2 ^ min (Int.toNat 18) IntKind.i32.bits)=c / 262144:=by rw [show (2:Int) ^ min (Int.toNat 18) IntKind.i32.bits=262144 by decide];exact Int.fdiv_eq_ediv_of_nonneg _ (by omega)
  conv=>whnf
  refine Or.inl ⟨InR.u32 (by omega) (by omega),?_⟩
  conv=>whnf
  refine Zyq (fun h1=>?_) (fun h1=>?_)
  ·skip
   have g:K (.ret (.sl 0 5 (rows++[[D.int .u8 (Zh .or .u8 192 (IntKind.u8.wrap (c.fdiv (2 ^ min (Int.toNat 6) IntKind.i32.bits))))],[D.int .u8 (Zh .or .u8 128 (Zh .and .u8 (IntKind.u8.wrap (c)) 63))]]))) ⟨[],[0],1⟩:=by
    have e:Zi (Lib.encodeRune c)=[[D.int .u8 (Zh .or .u8 192 (IntKind.u8.wrap (c.fdiv (2 ^ min (Int.toNat 6) IntKind.i32.bits))))],[D.int .u8 (Zh .or .u8 128 (Zh .and .u8 (IntKind.u8.wrap (c)) 63))]]:=by
     rw [Wt,Lib.encodeRuneZ_two hc0 (by omega)]
     simp only [e6,e12,e18,wu8,TA,TN]
     rw [Zx1 (by omega) (by omega),a63 (by omega) (by omega),Zpa (by omega) (by omega),show c / 64 % 256=c / 64 by omega,show c % 256 % 64=c % 64 by omega]
     all_goals (try omega)
     (try (congr 1 <;> omega))
    rw [e] at h;exact h
   conv=>whnf
   refine ⟨by decide,?_⟩
   conv=>whnf
   refine Or.inr ?_
   conv=>whnf
   refine Or.inr ?_
   conv=>whnf
   refine ⟨fun r hr=>by (simp at hr;rcases hr with rfl | rfl <;> rfl),(show (rows.length+2) * 1≤2 ^ 47 by omega),(show rows.length+2≤2 ^ 47 by omega),?_⟩
   conv=>whnf
   exact g
  ·conv=>whnf
   refine Zyq (fun h2=>?_) (fun h2=>?_)
   ·conv=>whnf
    refine Zyq (fun h2'=>?_) (fun h2'=>absurd h2 h2')
    exact m13
   ·conv=>whnf
    refine Zyq (fun h3=>?_) (fun h3=>?_)
    ·conv=>whnf
     refine Zyq (fun h4=>?_) (fun h4=>?_)
     ·skip
      exact m13
     ·conv=>whnf
      refine Zyq (fun h5=>?_) (fun h5=>?_)
      ·conv=>whnf
       refine Zyq (fun h6=>?_) (fun h6=>?_)
       ·skip
        have g:K (.ret (.sl 0 5 (rows++[[D.int .u8 (Zh .or .u8 240 (IntKind.u8.wrap (c.fdiv (2 ^ min (Int.toNat 18) IntKind.i32.bits))))],[D.int .u8 (Zh .or .u8 128 (Zh .and .u8 (IntKind.u8.wrap (c.fdiv (2 ^ min (Int.toNat 12) IntKind.i32.bits))) 63))],[D.int .u8 (Zh .or .u8 128 (Zh .and .u8 (IntKind.u8.wrap (c.fdiv (2 ^ min (Int.toNat 6) IntKind.i32.bits))) 63))],[D.int .u8 (Zh .or .u8 128 (Zh .and .u8 (IntKind.u8.wrap (c)) 63))]]))) ⟨[],[0],1⟩:=by
         have e:Zi (Lib.encodeRune c)=[[D.int .u8 (Zh .or .u8 240 (IntKind.u8.wrap (c.fdiv (2 ^ min (Int.toNat 18) IntKind.i32.bits))))],[D.int .u8 (Zh .or .u8 128 (Zh .and .u8 (IntKind.u8.wrap (c.fdiv (2 ^ min (Int.toNat 12) IntKind.i32.bits))) 63))],[D.int .u8 (Zh .or .u8 128 (Zh .and .u8 (IntKind.u8.wrap (c.fdiv (2 ^ min (Int.toNat 6) IntKind.i32.bits))) 63))],[D.int .u8 (Zh .or .u8 128 (Zh .and .u8 (IntKind.u8.wrap (c)) 63))]]:=by
          rw [Wt,Lib.encodeRuneZ_four (by omega) (by omega)]
          simp only [e6,e12,e18,wu8,TA,TN]
          rw [Zx2 (by omega) (by omega),a63 (by omega) (by omega),a63 (by omega) (by omega),a63 (by omega) (by omega),Zpa (by omega) (by omega),Zpa (by omega) (by omega),Zpa (by omega) (by omega),show c / 262144 % 256=c / 262144 by omega,show c / 4096 % 256 % 64=c / 4096 % 64 by omega,show c / 64 % 256 % 64=c / 64 % 64 by omega,show c % 256 % 64=c % 64 by omega]
          all_goals (try omega)
          (try (congr 1 <;> omega))
         rw [e] at h;exact h
        conv=>whnf
        refine ⟨by decide,?_⟩
        conv=>whnf
        refine Or.inr ?_
        conv=>whnf
        refine ⟨by decide,?_⟩
        conv=>whnf
        refine Or.inr ?_
        conv=>whnf
        refine ⟨by decide,?_⟩
        conv=>whnf
        refine Or.inr ?_
        conv=>whnf
        refine Or.inr ?_
        conv=>whnf
        refine ⟨fun r hr=>by (simp at hr;rcases hr with rfl | rfl | rfl | rfl <;> rfl),(show (rows.length+4) * 1≤2 ^ 47 by omega),(show rows.length+4≤2 ^ 47 by omega),?_⟩
        conv=>whnf
        exact g
       ·omega
      ·omega
    ·conv=>whnf
     refine Zyq (fun h5=>?_) (fun h5=>?_)
     ·omega
     ·skip
      have g:K (.ret (.sl 0 5 (rows++[[D.int .u8 (239)],[D.int .u8 (191)],[D.int .u8 (189)]]))) ⟨[],[0],1⟩:=by
       have e:Zi (Lib.encodeRune c)=[[D.int .u8 (239)],[D.int .u8 (191)],[D.int .u8 (189)]]:=by
        rw [Wt,Lib.encodeRuneZ_bad (by omega)]
        rfl
       rw [e] at h;exact h
      exact m159
 ·exact h.elim
noncomputable def ZwK:Tbl:=[(271,Xx)]
theorem Ze7:PCalls (GG w0 nG) 219 X2:=by
 refine pc (tbl:=ZwK) ⟨⟨ZdI,Zai⟩,trivial⟩ Tryz.func219 ?_
 intro args σ K h
 unfold X2 at h
 split at h
 ·rename_i e rows c
  obtain ⟨⟨rfl,hr1,hrl,hc0,hc1⟩,h⟩:=h
  refine ⟨Zb [],0,true,by simp,Tb rfl,?_⟩
  conv=>whnf
  refine Or.inl ⟨InR.u32 (by omega) (by omega),?_⟩
  conv=>whnf
  refine Zyq (fun h1=>?_) (fun h1=>?_)
  ·have e:Zi (Lib.encodeRune c)=[[D.int .u8 c]]:=by rw [Wt,Lib.encodeRuneZ_one hc0 h1];rfl
   rw [e] at h
   conv=>whnf
   refine oiB ?_
   exact m143
  ·conv=>whnf
   refine ⟨⟨rfl,hr1,by omega,by omega,by omega⟩,?_⟩
   exact m46
 ·exact h.elim
noncomputable def ZwL:Tbl:=[(214,XO)]
theorem ZnO:TblOK (GG w0 nG) ZwL:=⟨⟨Zbx,Uc⟩,trivial⟩
theorem Zbz:PCalls (GG w0 nG) 150 XM:=by
 refine Zf9 Y6 mixed ZnO Tryz.func150 rfl (by kernel_rfl) (by kernel_rfl) ?_
 intro args σ K h
 unfold XM at h
 split at h
 ·rename_i c t p e rows
  obtain ⟨⟨hp,rfl,rfl,hr1,hrl⟩,h⟩:=h
  refine ⟨Zb [],1,true,by simp,Tb rfl,?_⟩
  rcases hp with rfl | rfl
  ·conv=>whnf
   refine ⟨⟨.inl rfl,rfl⟩,?_⟩
   exact m143
  ·conv=>whnf
   refine ⟨⟨.inr rfl,rfl⟩,?_⟩
   exact m143
 ·exact h.elim
theorem ZwM (c:Int):(Lib.encodeRune c).length≤4:=by unfold Lib.encodeRune;rw [Tf];exact (Lib.encodeRuneZ_length c).2
noncomputable def ZwN:Tbl:=[(214,XO),(219,X2)]
theorem ZnP:TblOK (GG w0 nG) ZwN:=⟨⟨Zbx,Uc⟩,⟨Ze7,Za0⟩,trivial⟩
theorem ZbA:PCalls (GG w0 nG) 152 XN:=by
 refine Zf9 Y6 mixed ZnP Tryz.func152 rfl (by kernel_rfl) (by kernel_rfl) ?_
 intro args σ K h
 unfold XN at h
 split at h
 ·rename_i c t p e rows
  obtain ⟨⟨hp,rfl,rfl,hr1,hrl,hc0,hc1⟩,h⟩:=h
  refine ⟨Zb [],1,true,by simp,Tb rfl,?_⟩
  rcases hp with rfl | rfl
  ·conv=>whnf
   refine ⟨⟨.inl rfl,rfl⟩,?_⟩
   conv=>whnf
   refine ⟨⟨rfl,hr1,hrl,hc0,hc1⟩,?_⟩
   conv=>whnf
   refine Or.inl ⟨InR.i64 (by rw [Ta,Xh];have:=Lib.encodeRuneZ_length c;omega) (by rw [Ta,Xh];have:=ZwM c;omega),?_⟩
   exact m46
  ·conv=>whnf
   refine ⟨⟨.inr rfl,rfl⟩,?_⟩
   conv=>whnf
   refine ⟨⟨rfl,hr1,hrl,hc0,hc1⟩,?_⟩
   conv=>whnf
   refine Or.inl ⟨InR.i64 (by rw [Ta,Xh];omega) (by rw [Ta,Xh];have:=ZwM c;omega),?_⟩
   exact m46
 ·exact h.elim
end Go.PM.Lex
end

section
namespace Go.PM.Lex
open Go.Proofs
variable {w0:World} {nG:Nat}
noncomputable def WG:Zu:=fun args σ K=>match args with
 | [.d (.int .i32 c)]=>K (.ret (.d (.bool (Lib.validRune c)))) σ
 | _=>False
theorem ZbV:Zc WG:=fun args σ K K' hK h=>by
 unfold WG at h ⊢;split at h <;> first | exact hK _ _ h | exact h.elim
theorem ZtS (c:Int) (h:128≤c) (h2:c≤1114111):2≤(Utf8.encode c).data.toList.length∧(Utf8.encode c).data.toList.length≤4∧∀b∈(Utf8.encode c).data.toList,128≤b.toNat:=by
 unfold Utf8.encode
 simp only
 generalize hn:(if Utf8.valid c then c.toNat else Utf8.runeError)=n
 have hn1:128≤n∧n≤1114111:=by
  rw [← hn];split
  ·omega
  ·simp [Utf8.runeError]
 rw [Te (by omega)]
 split
 ·simp [UInt8.toNat_ofNat'];omega
 ·split
  ·simp [UInt8.toNat_ofNat'];omega
  ·simp [UInt8.toNat_ofNat'];omega
theorem ZlH {l:Bs} {c:UInt8} (h:∀b∈l,b.toNat<128) (hc:128≤c.toNat):Lib.indexByte l c=-1:=by
 induction l with
 | nil=>rfl
 | cons b l ih =>
  have h1:=ih (fun x hx=>h x (Tr _ hx))
  have h2:(b == c)=false:=by
   simp only [beq_eq_false_iff_ne];intro e;subst e;have:=h b (by simp);omega
  simp [Lib.indexByte,h1,h2]
theorem ZnQ {s:Bs} (h:∀b∈s,b.toNat<128) (i:Nat):(s.getD i 0).toNat<128:=by
 rw [T2]
 by_cases hi:i<s.length
 ·rw [Th hi];exact h _ (TE hi)
 ·rw [Si (by omega)];decide
theorem ZlI {s:Bs} (h:∀b∈s,128≤b.toNat) {i:Nat} (hi:i<s.length):128≤(s.getD i 0).toNat:=by
 rw [T2,Th hi];exact h _ (TE hi)
theorem ZwO {n:Int} {k:Nat} (h:n=k) (hk:k<256):(n.toNat.toUInt8).toNat=k:=by
 subst h;simp [UInt8.toNat_ofNat'];omega
noncomputable def ZwP:Tbl:=[(215,Xf),(216,WG)]
theorem Zgn (ht:TblOK (GG w0 nG) ZwP):PCalls (GG w0 nG) 151 Xg:=by
 refine pc ht Tryz.func151 ?_
 intro args σ K h
 unfold Xg at h
 split at h
 ·rename_i s c
  obtain ⟨⟨hs,hc0,hc1⟩,h⟩:=h
  have hsl:s.length=4:=by rcases hs with rfl | rfl <;> rfl
  have hsa:∀b∈s,b.toNat<128:=by rcases hs with rfl | rfl <;> decide
  have hsd:∀p,p<4→(decodeL s p).1<128∧(decodeL s p).2=1:=by
   intro p hp
   rcases hs with rfl | rfl
   all_goals (match p,hp with | 0,_=>exact ⟨by decide,by decide⟩ | 1,_=>exact ⟨by decide,by decide⟩ | 2,_=>exact ⟨by decide,by decide⟩ | 3,_=>exact ⟨by decide,by decide⟩)
  refine ⟨Zb [(38,⟨[],[0,175],fun vs σ=>vs=[]∧∃p:Nat,p≤4∧σ=⟨[.iter s p],[],0⟩,fun _ σ=>match σ.bx with | [.iter _ p]=>4 - p | _=>0⟩),
    (5,⟨[9],[0,1,7,8],fun vs σ=>σ=⟨[],[],0⟩∧vs=[.d (.int .i64 (((Utf8.encode c).data.toList.length:Int) - 1))],fun _ _=>0⟩)],0,false,by simp,Tb rfl,?_⟩
  have hneg:128≤c→K (.ret (.d (.int .i64 (-1)))) ⟨[],[],0⟩:=fun g=>by
   have:ZcI s c=-1:=by unfold ZcI;rw [Te (by omega)]
   rw [this] at h;exact h
  conv=>whnf
  refine Zyq (fun h1=>?_) (fun h1=>?_)
  ·conv=>whnf
   refine Zyq (fun h2=>?_) (fun h2=>?_)
   ·have e:ZcI s c=Lib.indexByte s c.toNat.toUInt8:=by unfold ZcI;rw [Ti h2]
    rw [e] at h
    conv=>whnf
    refine oiB ?_
    exact m46
   ·conv=>whnf
    refine Zyq (fun h3=>?_) (fun h3=>?_)
    ·conv=>whnf
     refine ⟨⟨rfl,0,by omega,rfl⟩,?_⟩
     intro vs σ1 hI
     obtain ⟨rfl,p,hp,rfl⟩:=hI
     conv=>whnf
     refine Zyq (fun h4=>?_) (fun h4=>?_)
     ·have hd:=hsd p (by omega)
      conv=>whnf
      refine Zyq (fun h5=>?_) (fun h5=>?_)
      ·omega
      ·conv=>whnf
       refine ⟨⟨rfl,p+1,by omega,by rw [hd.2];rfl⟩,?_⟩
       exact (show 4 - (p+(decodeL s p).2)<4 - p by omega)
     ·conv=>whnf
      exact hneg (by omega)
    ·conv=>whnf
     refine Zyu (fun h4=>?_) (fun h4=>?_)
     ·conv=>whnf
      exact hneg (by omega)
     ·obtain ⟨e1,e2,e3⟩:=ZtS c (by omega) hc1
      have hl:=ZlI e3 (i:=(Utf8.encode c).data.toList.length - 1) (by omega)
      conv=>whnf
      refine oiO ?_
      conv=>whnf
      refine ⟨⟨rfl,rfl⟩,?_⟩
      intro vs σ1 hI
      obtain ⟨rfl,rfl⟩:=hI
      conv=>whnf
      refine Zyq (fun h5=>?_) (fun h5=>?_)
      ·conv=>whnf
       refine ⟨by omega,by omega,?_⟩
       conv=>whnf
       refine ⟨by omega,by omega,?_⟩
       conv=>whnf
       have hlo:=ZnQ hsa (((Utf8.encode c).data.toList.length:Int) - 1).toNat
       have hhi:128≤((Utf8.encode c).data.toList.getD (((Utf8.encode c).data.toList.length:Int) - 1).toNat 0).toNat:=ZlI e3 (by omega)
       refine Zyv (fun h6=>?_) (fun h6=>?_)
       ·conv=>whnf
        refine oiO ?_
        conv=>whnf
        refine ⟨by omega,by omega,?_⟩
        conv=>whnf
        refine ⟨by omega,by omega,?_⟩
        conv=>whnf
        generalize hx:Lib.indexByte _ _=x
        have:x=-1:=by
         rw [← hx]
         refine ZlH (fun b hb=>hsa b (List.mem_of_mem_take (List.mem_of_mem_drop hb))) ?_
         rw [ZwO rfl (UInt8.toNat_lt _)]
         exact hhi
        subst this
        conv=>whnf
        exact hneg (by omega)
       ·omega
      ·omega
  ·omega
 ·exact h.elim
end Go.PM.Lex
end

section
namespace Go.PM.Lex
open Go.Proofs
variable {w0:World} {nG:Nat}
theorem JF (r:Bs):(Lib.decodeL r).1≤1114111∧1≤(Lib.decodeL r).2∧(Lib.decodeL r).2≤4:=by
 exact m63
theorem ZhQ (c:Int):(Lib.encodeRune c).length≤4:=by
 unfold Lib.encodeRune Lib.encodeRuneZ
 rw [Tf]
 repeat' split
 all_goals simp
theorem UA {n k:Nat} (h:n<128) (hk:k<128) (hne:n≠k):(n:Int).toNat.toUInt8≠UInt8.ofNat k:=by
 intro h1
 have h2:=congrArg UInt8.toNat h1
 simp [UInt8.toNat_ofNat'] at h2
 omega
theorem ZiO {n:Nat} (h:ZnH n=none):ZcI [110,116,34,92] n=-1:=by
 unfold ZnH at h
 split at h;· cases h
 split at h;· cases h
 split at h;· cases h
 split at h;· cases h
 rename_i h1 h2 h3 h4
 unfold ZcI
 split
 ·rename_i h5
  have hc:([110,116,34,92]:Bs).contains ((n:Int).toNat.toUInt8)=false:=by
   have b1:=UA (n:=n) (k:=110) (by omega) (by omega) h1
   have b2:=UA (n:=n) (k:=116) (by omega) (by omega) h2
   exact m85
  rw [Lib.contains_iff_indexByte,decide_eq_false_iff_not] at hc
  have:=Lib.indexByte_ge [110,116,34,92] ((n:Int).toNat.toUInt8)
  omega
 ·rfl
theorem ZiP {n:Nat} {b:UInt8} (h:ZnH n=some b):(ZcI [110,116,34,92] n=0∧b=10)∨(ZcI [110,116,34,92] n=1∧b=9)∨(ZcI [110,116,34,92] n=2∧b=34)∨(ZcI [110,116,34,92] n=3∧b=92):=by
 unfold ZnH at h
 exact m56
theorem JG (l:Bs) (b:UInt8):Zi (l++[b])=Zi l++[[.int .u8 b.toNat]]:=by simp [Zi]
theorem Vw (l m:Bs):Zi (l++m)=Zi l++Zi m:=by simp [Zi]
theorem Zeo (l:Bs):∀r∈Zi l,r.length=1:=by
 intro r hr
 simp only [Zi,Sx] at hr
 obtain ⟨b,_,rfl⟩:=hr
 rfl
theorem Zep (l:Bs):(Zi l).length=l.length:=by simp [Zi]
def Zx3 (B:Nat):List PV→St→Nat:=fun _ σ=>match σ.bx with | [_,_,_,_,.iter _ p]=>B - p | _=>0
noncomputable def Zp5:Tbl:=[(151,Xg),(150,XM),(209,Jg),(152,XN),(31,UX)]
theorem Zp6 (ht:TblOK (GG w0 nG) Zp5):PCalls (GG w0 nG) 280 Zek:=by
 refine pc ht Tryz.func280 ?_
 intro args σ K h
 unfold Zek at h
 split at h
 ·rename_i t s a
  obtain ⟨⟨h0,h1,hs⟩,h⟩:=h
  obtain ⟨a,rfl⟩:∃n:Nat,a=n:=⟨a.toNat,by omega⟩
  simp only [TF] at h
  obtain ⟨u,hu⟩:∃u,u=s.drop (a+1):=⟨_,rfl⟩
  have hul:u.length=s.length - (a+1):=by rw [hu,Tt]
  refine ⟨Zb [(4,⟨[5],[0,2,3,4,22],fun vs σ=>∃(esc:Bool) (l:Bs) (i f:Nat) (p:PV),vs=[.d (.bool esc)] ∧
   σ=⟨[.cells t [.d (.str s),.d (.int .i64 a)],.cells 218 [.d (.int .u8 0),.d (.str []),.d (.int .i64 0),.d (.int .i64 0),.d (.int .i64 0)],.cells 220 [.d (.int .i64 0),.d (.int .i64 0)],.cells 82 [p,.sl 0 5 (Zi l)],.iter u i],[0],1⟩ ∧
   (p=.d .nilp∨p=.ptr 3 0)∧(i≤u.length∧u.length<i+f∧l.length≤4 * i)∧ZD f (u.drop i) esc l (1+i)=Wf (s.drop a),Zx3 u.length⟩)],1,false,by simp,Tb rfl,?_⟩
  have hbad:∀n:Nat,Wf (s.drop a)=.err n→K (.ret (.tuple [ZdF 0 [] 0 0 0,Zgb ((a+n:Nat):Int) 141])) ⟨[.cells t [.d (.str s),.d (.int .i64 a)]],[],0⟩:=fun n g=>by
   have e1:Zae a (s.drop a)=.bad (a+n) 141:=by rw [Zae,g]
   rw [e1] at h;exact h
  have hgood:∀(l:Bs) (n:Nat),Wf (s.drop a)=.ok l n→K (.ret (.tuple [ZdF 3 l 0 a ((a+n:Nat):Int),Zgb 0 0])) ⟨[.cells t [.d (.str s),.d (.int .i64 a)]],[],0⟩:=fun l n g=>by
   have e1:Zae a (s.drop a)=.tok ⟨3,l,0,a,a+n⟩:=by rw [Zae,g]
   rw [e1] at h;exact h
  have ha1:((a:Int)+1).toNat=a+1:=by omega
  conv=>whnf
  refine oiO ?_
  conv=>whnf
  refine ⟨by omega,by omega,?_⟩
  conv=>whnf
  rw [Uu,ha1,← hu]
  refine ⟨⟨false,[],0,(s.drop a).length+1,.d .nilp,rfl,rfl,.inl rfl,⟨by omega,by rw [Tt];omega,by simp⟩,?_⟩,?_⟩
  ·rw [Wf,TL,← hu];rfl
  intro vs σ1 hI
  obtain ⟨esc,l,i,f,p,rfl,rfl,hp,⟨hi1,hi2,hl4⟩,hgo⟩:=hI
  obtain ⟨f,rfl⟩:∃g,f=g+1:=⟨f - 1,by omega⟩
  have hb1:=Zeo l
  have hbl:=Zep l
  have hdec:=Zei u i
  have hdr:=JF (u.drop i)
  have hdl:=Lib.decodeL_le (u.drop i)
  rw [Tt] at hdl
  cases esc with
  | true =>
   rcases hp with rfl | rfl
   ·conv=>whnf
    refine Zyq (fun h2=>?_) (fun h2=>?_)
    ·have hne:u.drop i≠[]:=fun g=>by have:=congrArg List.length g;rw [Tt] at this;simp at this;omega
     conv=>whnf
     refine oiO ?_
     conv=>whnf
     refine oiO ?_
     conv=>whnf
     refine ⟨⟨.inl rfl,by omega,by rw [hdec];omega⟩,?_⟩
     conv=>whnf
     generalize hk:ZcI _ _=k
     have hk':ZcI [110,116,34,92] ((Lib.decodeL (u.drop i)).1:Int)=k:=by rw [← hdec];exact hk
     cases hE:ZnH (Lib.decodeL (u.drop i)).1 with
     | none =>
      exact m69
     | some b =>
      have g1:Wf (s.drop a)=ZD f (u.drop (i+(decodeL u i).2)) false (l++[b]) (1+(i+(decodeL u i).2)):=by rw [← hgo,hdec];simp [ZD,hne,hE,TL,Sg]
      have g3:i+(decodeL u i).2≤u.length:=by rw [hdec];have:=hdl hne;omega
      have hdr':1≤(decodeL u i).2:=by rw [hdec];omega
      rcases ZiP hE with ⟨e1,rfl⟩ | ⟨e1,rfl⟩ | ⟨e1,rfl⟩ | ⟨e1,rfl⟩
      all_goals (rw [e1] at hk';subst hk')
      all_goals (conv=>whnf)
      all_goals (refine ⟨by omega,by first | omega | (simp;done) | (simp;omega),?_⟩)
      all_goals (conv=>whnf)
      all_goals (refine ⟨⟨.inl rfl,rfl,rfl,hb1,by omega⟩,?_⟩)
      all_goals (conv=>whnf)
      all_goals (refine ⟨⟨false,_,_,f,_,rfl,?_,.inr rfl,⟨g3,by omega,?_⟩,g1.symm⟩,?_⟩)
      all_goals (first | (rw [JG];rfl) | (rw [Ta];simp;omega) | exact (show u.length - (i+(decodeL u i).2)<u.length - i by omega))
    ·exact m32
   ·conv=>whnf
    refine Zyq (fun h2=>?_) (fun h2=>?_)
    ·have hne:u.drop i≠[]:=fun g=>by have:=congrArg List.length g;rw [Tt] at this;simp at this;omega
     conv=>whnf
     refine oiO ?_
     conv=>whnf
     refine oiO ?_
     conv=>whnf
     refine ⟨⟨.inl rfl,by omega,by rw [hdec];omega⟩,?_⟩
     conv=>whnf
     generalize hk:ZcI _ _=k
     have hk':ZcI [110,116,34,92] ((Lib.decodeL (u.drop i)).1:Int)=k:=by rw [← hdec];exact hk
     cases hE:ZnH (Lib.decodeL (u.drop i)).1 with
     | none =>
      exact m69
     | some b =>
      have g1:Wf (s.drop a)=ZD f (u.drop (i+(decodeL u i).2)) false (l++[b]) (1+(i+(decodeL u i).2)):=by rw [← hgo,hdec];simp [ZD,hne,hE,TL,Sg]
      have g3:i+(decodeL u i).2≤u.length:=by rw [hdec];have:=hdl hne;omega
      have hdr':1≤(decodeL u i).2:=by rw [hdec];omega
      rcases ZiP hE with ⟨e1,rfl⟩ | ⟨e1,rfl⟩ | ⟨e1,rfl⟩ | ⟨e1,rfl⟩
      all_goals (rw [e1] at hk';subst hk')
      all_goals (conv=>whnf)
      all_goals (refine ⟨by omega,by first | omega | (simp;done) | (simp;omega),?_⟩)
      all_goals (conv=>whnf)
      all_goals (refine ⟨⟨.inr rfl,rfl,rfl,hb1,by omega⟩,?_⟩)
      all_goals (conv=>whnf)
      all_goals (refine ⟨⟨false,_,_,f,_,rfl,?_,.inr rfl,⟨g3,by omega,?_⟩,g1.symm⟩,?_⟩)
      all_goals (first | (rw [JG];rfl) | (rw [Ta];simp;omega) | exact (show u.length - (i+(decodeL u i).2)<u.length - i by omega))
    ·exact m32
  | false =>
   rcases hp with rfl | rfl
   ·conv=>whnf
    refine Zyq (fun h2=>?_) (fun h2=>?_)
    ·have hne:u.drop i≠[]:=fun g=>by have:=congrArg List.length g;rw [Tt] at this;simp at this;omega
     have g3:i+(decodeL u i).2≤u.length:=by rw [hdec];have:=hdl hne;omega
     have hdr':1≤(decodeL u i).2:=by rw [hdec];omega
     have hat:((a:Int)+1+(i:Int)).toNat=a+1+i:=by omega
     have hsd:s.drop (a+1+i)=u.drop i:=by rw [hu,TL]
     conv=>whnf
     refine oiO ?_
     conv=>whnf
     refine oiO ?_
     conv=>whnf
     refine ⟨⟨by omega,by omega⟩,?_⟩
     conv=>whnf
     refine Zyq (fun h3=>?_) (fun h3=>?_)
     ·have h3':(Lib.decodeL (u.drop i)).1=34:=by rw [hdec] at h3;omega
      have g1:Wf (s.drop a)=.ok l (1+i+1):=by rw [← hgo];simp [ZD,hne,h3']
      conv=>whnf
      refine oiO ?_
      conv=>whnf
      refine ⟨l,⟨rfl,rfl,rfl,.inl rfl,by omega⟩,?_⟩
      exact m93
     ·have h3':¬(Lib.decodeL (u.drop i)).1=34:=by rw [hdec] at h3;omega
      conv=>whnf
      refine Zyq (fun h4=>?_) (fun h4=>?_)
      ·have h4':(Lib.decodeL (u.drop i)).1=92:=by rw [hdec] at h4;omega
       have g1:Wf (s.drop a)=ZD f (u.drop (i+(decodeL u i).2)) true l (1+(i+(decodeL u i).2)):=by rw [← hgo,hdec];simp [ZD,hne,h3',h4',TL,Sg]
       conv=>whnf
       refine ⟨⟨true,_,_,f,_,rfl,rfl,.inl rfl,⟨g3,by omega,by omega⟩,g1.symm⟩,?_⟩
       exact m176
      ·have h4':¬(Lib.decodeL (u.drop i)).1=92:=by rw [hdec] at h4;omega
       conv=>whnf
       refine Zyq (fun h5=>?_) (fun h5=>?_)
       ·exact m73
       ·have h5':¬(pk (u.drop i)).1<32:=by rw [hat,hsd] at h5;exact h5
        have g1:Wf (s.drop a)=ZD f (u.drop (i+(decodeL u i).2)) false (l++Lib.encodeRune ((decodeL u i).1:Int)) (1+(i+(decodeL u i).2)):=by rw [← hgo,hdec];simp [ZD,hne,h3',h4',h5',TL,Sg]
        have hen:=ZhQ ((decodeL u i).1:Int)
        conv=>whnf
        refine ⟨⟨.inl rfl,rfl,rfl,hb1,by omega,by omega,by rw [hdec];omega⟩,?_⟩
        exact m88
    ·exact m32
   ·conv=>whnf
    refine Zyq (fun h2=>?_) (fun h2=>?_)
    ·have hne:u.drop i≠[]:=fun g=>by have:=congrArg List.length g;rw [Tt] at this;simp at this;omega
     have g3:i+(decodeL u i).2≤u.length:=by rw [hdec];have:=hdl hne;omega
     have hdr':1≤(decodeL u i).2:=by rw [hdec];omega
     have hat:((a:Int)+1+(i:Int)).toNat=a+1+i:=by omega
     have hsd:s.drop (a+1+i)=u.drop i:=by rw [hu,TL]
     conv=>whnf
     refine oiO ?_
     conv=>whnf
     refine oiO ?_
     conv=>whnf
     refine ⟨⟨by omega,by omega⟩,?_⟩
     conv=>whnf
     refine Zyq (fun h3=>?_) (fun h3=>?_)
     ·have h3':(Lib.decodeL (u.drop i)).1=34:=by rw [hdec] at h3;omega
      have g1:Wf (s.drop a)=.ok l (1+i+1):=by rw [← hgo];simp [ZD,hne,h3']
      conv=>whnf
      refine oiO ?_
      conv=>whnf
      refine ⟨l,⟨rfl,rfl,rfl,.inr rfl,by omega⟩,?_⟩
      exact m93
     ·have h3':¬(Lib.decodeL (u.drop i)).1=34:=by rw [hdec] at h3;omega
      conv=>whnf
      refine Zyq (fun h4=>?_) (fun h4=>?_)
      ·have h4':(Lib.decodeL (u.drop i)).1=92:=by rw [hdec] at h4;omega
       have g1:Wf (s.drop a)=ZD f (u.drop (i+(decodeL u i).2)) true l (1+(i+(decodeL u i).2)):=by rw [← hgo,hdec];simp [ZD,hne,h3',h4',TL,Sg]
       conv=>whnf
       refine ⟨⟨true,_,_,f,_,rfl,rfl,.inr rfl,⟨g3,by omega,by omega⟩,g1.symm⟩,?_⟩
       exact m176
      ·have h4':¬(Lib.decodeL (u.drop i)).1=92:=by rw [hdec] at h4;omega
       conv=>whnf
       refine Zyq (fun h5=>?_) (fun h5=>?_)
       ·exact m73
       ·have h5':¬(pk (u.drop i)).1<32:=by rw [hat,hsd] at h5;exact h5
        have g1:Wf (s.drop a)=ZD f (u.drop (i+(decodeL u i).2)) false (l++Lib.encodeRune ((decodeL u i).1:Int)) (1+(i+(decodeL u i).2)):=by rw [← hgo,hdec];simp [ZD,hne,h3',h4',h5',TL,Sg]
        have hen:=ZhQ ((decodeL u i).1:Int)
        conv=>whnf
        refine ⟨⟨.inr rfl,rfl,rfl,hb1,by omega,by omega,by rw [hdec];omega⟩,?_⟩
        exact m88
    ·exact m32
 ·exact h.elim
end Go.PM.Lex
end
