/- A part of the proof: plain logic, contracts and laws over the given program. -/
import Derived.Test.YtflgockgjnddnaaGreatDoorProg
import Derived.Lib.MapLaws
import Derived.Lib.Strings
import Derived.Lib.Bytealg
import Derived.Lib.Index
import Derived.Lib.SlTrimSet
import Derived.Lib.Small
import Derived.Test.YtflgockgjnddnaaGreatDoorShelf
import Derived.Shelf.Strings.SlTrimAscii
import Derived.Shelf.Strings.Builder1
import Derived.Shelf.RegionOpenPlain
import Derived.Lib.Walk
import Derived.Lib.UnsafeStr
import Derived.Lib.Builder
import Derived.WalkKit
import Derived.Laws.Externs
import Derived.Lib.IndexAny
import Derived.Test.YtflgockgjnddnaaGreatDoorU04
set_option linter.unusedVariables false
set_option linter.unusedSimpArgs false
set_option linter.all false
section
set_option maxRecDepth 100000
namespace Go.PM.Lex
open Go.Proofs
def Tab0:Tab:=(.node (.node (.node (.node (.node (.node (.node (.node (.node .leaf 0 ⟨1,0,.other,[],false⟩ .leaf) 1 ⟨1,8,.func,[.d .nilf],false⟩ .leaf) 2 ⟨1,8,.int .i64,[.d (.int .i64 (0))],true⟩ (.node (.node .leaf 3 ⟨1,8,.int .i64,[.d (.int .i64 (0))],true⟩ .leaf) 4 ⟨1,1,.bool,[.d (.bool false)],false⟩ .leaf)) 5 ⟨1,1,.int .u8,[.d (.int .u8 (0))],true⟩ (.node (.node (.node .leaf 6 ⟨1,1,.int .u8,[.d (.int .u8 (0))],true⟩ .leaf) 7 ⟨4,24,.struct [(0,2),(1,3),(2,4),(3,6)],[.d (.int .i64 (0)),.d (.int .i64 (0)),.d (.bool false),.d (.int .u8 (0))],false⟩ .leaf) 8 ⟨4,24,.struct [(0,2),(1,3),(2,4),(3,6)],[.d (.int .i64 (0)),.d (.int .i64 (0)),.d (.bool false),.d (.int .u8 (0))],false⟩ (.node (.node .leaf 9 ⟨1,16,.string,[.d (.str [])],false⟩ .leaf) 10 ⟨1,16,.string,[.d (.str [])],false⟩ .leaf))) 11 ⟨1,16,.string,[.d (.str [])],false⟩ (.node (.node (.node (.node .leaf 12 ⟨1,8,.int .u64,[.d (.int .u64 (0))],true⟩ .leaf) 13 ⟨2,24,.struct [(0,9),(1,12)],[.d (.str []),.d (.int .u64 (0))],false⟩ .leaf) 14 ⟨2,24,.struct [(0,9),(1,12)],[.d (.str []),.d (.int .u64 (0))],false⟩ (.node (.node .leaf 15 ⟨1,8,.ptr 356,[.d .nilp],false⟩ .leaf) 16 ⟨1,8,.ptr 359,[.d .nilp],false⟩ .leaf)) 17 ⟨1,8,.ptr 366,[.d .nilp],false⟩ (.node (.node (.node .leaf 18 ⟨1,8,.struct [(0,17)],[.d .nilp],false⟩ .leaf) 19 ⟨1,8,.struct [(0,17)],[.d .nilp],false⟩ .leaf) 20 ⟨1,16,.iface,[.d .nili],false⟩ (.node .leaf 21 ⟨1,4,.int .i32,[.d (.int .i32 (0))],true⟩ .leaf)))) 22 ⟨1,24,.slice 24,[.nils 24],false⟩ (.node (.node (.node (.node (.node .leaf 23 ⟨5,64,.struct [(0,5),(1,9),(2,2),(3,22),(4,3)],[.d (.int .u8 (0)),.d (.str []),.d (.int .i64 (0)),.nils 24,.d (.int .i64 (0))],false⟩ .leaf) 24 ⟨5,64,.struct [(0,5),(1,9),(2,2),(3,22),(4,3)],[.d (.int .u8 (0)),.d (.str []),.d (.int .i64 (0)),.nils 24,.d (.int .i64 (0))],false⟩ .leaf) 25 ⟨1,8,.func,[.d .nilf],false⟩ (.node (.node .leaf 26 ⟨1,8,.func,[.d .nilf],false⟩ .leaf) 27 ⟨1,8,.int .i64,[.d (.int .i64 (0))],true⟩ .leaf)) 28 ⟨1,0,.other,[],false⟩ (.node (.node (.node .leaf 29 ⟨1,8,.func,[.d .nilf],false⟩ .leaf) 30 ⟨1,0,.other,[],false⟩ .leaf) 31 ⟨1,8,.func,[.d .nilf],false⟩ (.node (.node .leaf 32 ⟨1,8,.func,[.d .nilf],false⟩ .leaf) 33 ⟨1,8,.func,[.d .nilf],false⟩ .leaf))) 34 ⟨1,8,.func,[.d .nilf],false⟩ (.node (.node (.node (.node .leaf 35 ⟨1,8,.func,[.d .nilf],false⟩ .leaf) 36 ⟨1,8,.func,[.d .nilf],false⟩ .leaf) 37 ⟨1,24,.slice 64,[.nils 64],false⟩ (.node (.node .leaf 38 ⟨1,24,.slice 68,[.nils 68],false⟩ .leaf) 39 ⟨1,24,.slice 50,[.nils 50],false⟩ .leaf)) 40 ⟨1,24,.slice 71,[.nils 71],false⟩ (.node (.node (.node .leaf 41 ⟨1,24,.slice 73,[.nils 73],false⟩ .leaf) 42 ⟨1,24,.slice 75,[.nils 75],false⟩ .leaf) 43 ⟨6,144,.struct [(0,37),(1,38),(2,39),(3,40),(4,41),(5,42)],[.nils 64,.nils 68,.nils 50,.nils 71,.nils 73,.nils 75],false⟩ (.node .leaf 44 ⟨6,144,.struct [(0,37),(1,38),(2,39),(3,40),(4,41),(5,42)],[.nils 64,.nils 68,.nils 50,.nils 71,.nils 73,.nils 75],false⟩ .leaf))))) 45 ⟨1,8,.func,[.d .nilf],false⟩ (.node (.node (.node (.node (.node (.node .leaf 46 ⟨1,8,.func,[.d .nilf],false⟩ .leaf) 47 ⟨1,8,.func,[.d .nilf],false⟩ .leaf) 48 ⟨1,24,.slice 60,[.nils 60],false⟩ (.node (.node .leaf 49 ⟨4,72,.struct [(0,9),(1,22),(2,48),(3,3)],[.d (.str []),.nils 24,.nils 60,.d (.int .i64 (0))],false⟩ .leaf) 50 ⟨4,72,.struct [(0,9),(1,22),(2,48),(3,3)],[.d (.str []),.nils 24,.nils 60,.d (.int .i64 (0))],false⟩ .leaf)) 51 ⟨1,8,.func,[.d .nilf],false⟩ (.node (.node (.node .leaf 52 ⟨1,8,.func,[.d .nilf],false⟩ .leaf) 53 ⟨1,8,.func,[.d .nilf],false⟩ .leaf) 54 ⟨1,8,.func,[.d .nilf],false⟩ (.node (.node .leaf 55 ⟨1,8,.func,[.d .nilf],false⟩ .leaf) 56 ⟨1,8,.func,[.d .nilf],false⟩ .leaf))) 57 ⟨1,0,.other,[],false⟩ (.node (.node (.node (.node .leaf 58 ⟨1,8,.func,[.d .nilf],false⟩ .leaf) 59 ⟨5,80,.struct [(0,5),(1,9),(2,22),(3,48),(4,3)],[.d (.int .u8 (0)),.d (.str []),.nils 24,.nils 60,.d (.int .i64 (0))],false⟩ .leaf) 60 ⟨5,80,.struct [(0,5),(1,9),(2,22),(3,48),(4,3)],[.d (.int .u8 (0)),.d (.str []),.nils 24,.nils 60,.d (.int .i64 (0))],false⟩ (.node (.node .leaf 61 ⟨1,24,.slice 66,[.nils 66],false⟩ .leaf) 62 ⟨1,24,.slice 148,[.nils 148],false⟩ .leaf)) 63 ⟨6,96,.struct [(0,5),(1,9),(2,9),(3,61),(4,62),(5,3)],[.d (.int .u8 (0)),.d (.str []),.d (.str []),.nils 66,.nils 148,.d (.int .i64 (0))],false⟩ (.node (.node (.node .leaf 64 ⟨6,96,.struct [(0,5),(1,9),(2,9),(3,61),(4,62),(5,3)],[.d (.int .u8 (0)),.d (.str []),.d (.str []),.nils 66,.nils 148,.d (.int .i64 (0))],false⟩ .leaf) 65 ⟨2,32,.struct [(0,9),(1,9)],[.d (.str []),.d (.str [])],false⟩ .leaf) 66 ⟨2,32,.struct [(0,9),(1,9)],[.d (.str []),.d (.str [])],true⟩ (.node .leaf 67 ⟨6,56,.struct [(0,9),(1,61),(2,4),(3,4),(4,4),(5,3)],[.d (.str []),.nils 66,.d (.bool false),.d (.bool false),.d (.bool false),.d (.int .i64 (0))],false⟩ .leaf)))) 68 ⟨6,56,.struct [(0,9),(1,61),(2,4),(3,4),(4,4),(5,3)],[.d (.str []),.nils 66,.d (.bool false),.d (.bool false),.d (.bool false),.d (.int .i64 (0))],false⟩ (.node (.node (.node (.node (.node .leaf 69 ⟨1,24,.slice 9,[.nils 9],false⟩ .leaf) 70 ⟨11,232,.struct [(0,9),(1,69),(2,9),(3,69),(4,44),(10,3)],[.d (.str []),.nils 9,.d (.str []),.nils 9,.nils 64,.nils 68,.nils 50,.nils 71,.nils 73,.nils 75,.d (.int .i64 (0))],false⟩ .leaf) 71 ⟨11,232,.struct [(0,9),(1,69),(2,9),(3,69),(4,44),(10,3)],[.d (.str []),.nils 9,.d (.str []),.nils 9,.nils 64,.nils 68,.nils 50,.nils 71,.nils 73,.nils 75,.d (.int .i64 (0))],false⟩ (.node (.node .leaf 72 ⟨4,64,.struct [(0,9),(1,9),(2,69),(3,3)],[.d (.str []),.d (.str []),.nils 9,.d (.int .i64 (0))],false⟩ .leaf) 73 ⟨4,64,.struct [(0,9),(1,9),(2,69),(3,3)],[.d (.str []),.d (.str []),.nils 9,.d (.int .i64 (0))],false⟩ .leaf)) 74 ⟨2,24,.struct [(0,9),(1,3)],[.d (.str []),.d (.int .i64 (0))],false⟩ (.node (.node (.node .leaf 75 ⟨2,24,.struct [(0,9),(1,3)],[.d (.str []),.d (.int .i64 (0))],true⟩ .leaf) 76 ⟨1,24,.slice 44,[.nils 44],false⟩ .leaf) 77 ⟨1,8,.func,[.d .nilf],false⟩ (.node (.node .leaf 78 ⟨1,8,.ptr 84,[.d .nilp],false⟩ .leaf) 79 ⟨1,8,.ptr 82,[.d .nilp],false⟩ .leaf))) 80 ⟨1,24,.slice 5,[.nils 5],false⟩ (.node (.node (.node (.node .leaf 81 ⟨2,32,.struct [(0,79),(1,80)],[.d .nilp,.nils 5],false⟩ .leaf) 82 ⟨2,32,.struct [(0,79),(1,80)],[.d .nilp,.nils 5],false⟩ .leaf) 83 ⟨2,32,.struct [(0,82)],[.d .nilp,.nils 5],false⟩ (.node (.node .leaf 84 ⟨2,32,.struct [(0,82)],[.d .nilp,.nils 5],false⟩ .leaf) 85 ⟨1,8,.func,[.d .nilf],false⟩ .leaf)) 86 ⟨1,8,.func,[.d .nilf],false⟩ (.node (.node (.node .leaf 87 ⟨1,8,.func,[.d .nilf],false⟩ .leaf) 88 ⟨1,0,.other,[],false⟩ .leaf) 89 ⟨1,8,.func,[.d .nilf],false⟩ (.node .leaf 90 ⟨1,8,.ptr 143,[.d .nilp],false⟩ .leaf)))))) 91 ⟨1,8,.func,[.d .nilf],false⟩ (.node (.node (.node (.node (.node (.node (.node .leaf 92 ⟨1,8,.func,[.d .nilf],false⟩ .leaf) 93 ⟨1,8,.func,[.d .nilf],false⟩ .leaf) 94 ⟨1,8,.func,[.d .nilf],false⟩ (.node (.node .leaf 95 ⟨3,72,.struct [(0,37),(1,38),(2,39)],[.nils 64,.nils 68,.nils 50],false⟩ .leaf) 96 ⟨3,72,.struct [(0,37),(1,38),(2,39)],[.nils 64,.nils 68,.nils 50],false⟩ .leaf)) 97 ⟨1,8,.func,[.d .nilf],false⟩ (.node (.node (.node .leaf 98 ⟨1,8,.func,[.d .nilf],false⟩ .leaf) 99 ⟨1,8,.func,[.d .nilf],false⟩ .leaf) 100 ⟨1,8,.func,[.d .nilf],false⟩ (.node (.node .leaf 101 ⟨1,8,.func,[.d .nilf],false⟩ .leaf) 102 ⟨1,8,.func,[.d .nilf],false⟩ .leaf))) 103 ⟨1,8,.func,[.d .nilf],false⟩ (.node (.node (.node (.node .leaf 104 ⟨1,8,.func,[.d .nilf],false⟩ .leaf) 105 ⟨1,8,.func,[.d .nilf],false⟩ .leaf) 106 ⟨1,8,.func,[.d .nilf],false⟩ (.node (.node .leaf 107 ⟨1,8,.func,[.d .nilf],false⟩ .leaf) 108 ⟨1,8,.func,[.d .nilf],false⟩ .leaf)) 109 ⟨1,8,.func,[.d .nilf],false⟩ (.node (.node (.node .leaf 110 ⟨1,8,.func,[.d .nilf],false⟩ .leaf) 111 ⟨1,8,.func,[.d .nilf],false⟩ .leaf) 112 ⟨1,8,.func,[.d .nilf],false⟩ (.node .leaf 113 ⟨1,8,.func,[.d .nilf],false⟩ .leaf)))) 114 ⟨1,8,.func,[.d .nilf],false⟩ (.node (.node (.node (.node (.node .leaf 115 ⟨1,8,.func,[.d .nilf],false⟩ .leaf) 116 ⟨1,8,.func,[.d .nilf],false⟩ .leaf) 117 ⟨1,8,.func,[.d .nilf],false⟩ (.node (.node .leaf 118 ⟨1,8,.func,[.d .nilf],false⟩ .leaf) 119 ⟨1,8,.func,[.d .nilf],false⟩ .leaf)) 120 ⟨1,8,.func,[.d .nilf],false⟩ (.node (.node (.node .leaf 121 ⟨1,8,.func,[.d .nilf],false⟩ .leaf) 122 ⟨3,32,.struct [(0,3),(1,9),(2,3)],[.d (.int .i64 (0)),.d (.str []),.d (.int .i64 (0))],false⟩ .leaf) 123 ⟨3,32,.struct [(0,3),(1,9),(2,3)],[.d (.int .i64 (0)),.d (.str []),.d (.int .i64 (0))],true⟩ (.node (.node .leaf 124 ⟨1,8,.func,[.d .nilf],false⟩ .leaf) 125 ⟨1,0,.other,[],false⟩ .leaf))) 126 ⟨1,8,.func,[.d .nilf],false⟩ (.node (.node (.node (.node .leaf 127 ⟨1,8,.func,[.d .nilf],false⟩ .leaf) 128 ⟨1,8,.func,[.d .nilf],false⟩ .leaf) 129 ⟨1,8,.func,[.d .nilf],false⟩ (.node (.node .leaf 130 ⟨1,8,.func,[.d .nilf],false⟩ .leaf) 131 ⟨1,8,.int .u64,[.d (.int .u64 (0))],true⟩ .leaf)) 132 ⟨1,8,.func,[.d .nilf],false⟩ (.node (.node (.node .leaf 133 ⟨1,8,.ptr 5,[.d .nilp],false⟩ .leaf) 134 ⟨1,24,.slice 218,[.nils 218],false⟩ .leaf) 135 ⟨1,0,.other,[],false⟩ (.node .leaf 136 ⟨1,8,.func,[.d .nilf],false⟩ .leaf))))) 137 ⟨2,16,.struct [(0,3),(1,27)],[.d (.int .i64 (0)),.d (.int .i64 (0))],false⟩ (.node (.node (.node (.node (.node (.node .leaf 138 ⟨2,16,.struct [(0,3),(1,27)],[.d (.int .i64 (0)),.d (.int .i64 (0))],true⟩ .leaf) 139 ⟨1,0,.other,[],false⟩ .leaf) 140 ⟨3,40,.struct [(0,134),(1,3),(2,3)],[.nils 218,.d (.int .i64 (0)),.d (.int .i64 (0))],false⟩ (.node (.node .leaf 141 ⟨3,40,.struct [(0,134),(1,3),(2,3)],[.nils 218,.d (.int .i64 (0)),.d (.int .i64 (0))],false⟩ .leaf) 142 ⟨4,48,.struct [(0,141),(3,3)],[.nils 218,.d (.int .i64 (0)),.d (.int .i64 (0)),.d (.int .i64 (0))],false⟩ .leaf)) 143 ⟨4,48,.struct [(0,141),(3,3)],[.nils 218,.d (.int .i64 (0)),.d (.int .i64 (0)),.d (.int .i64 (0))],false⟩ (.node (.node (.node .leaf 144 ⟨1,8,.func,[.d .nilf],false⟩ .leaf) 145 ⟨1,8,.func,[.d .nilf],false⟩ .leaf) 146 ⟨1,8,.func,[.d .nilf],false⟩ (.node (.node .leaf 147 ⟨2,40,.struct [(0,9),(1,61)],[.d (.str []),.nils 66],false⟩ .leaf) 148 ⟨2,40,.struct [(0,9),(1,61)],[.d (.str []),.nils 66],false⟩ .leaf))) 149 ⟨1,8,.func,[.d .nilf],false⟩ (.node (.node (.node (.node .leaf 150 ⟨1,8,.func,[.d .nilf],false⟩ .leaf) 151 ⟨1,8,.func,[.d .nilf],false⟩ .leaf) 152 ⟨1,8,.func,[.d .nilf],false⟩ (.node (.node .leaf 153 ⟨1,8,.func,[.d .nilf],false⟩ .leaf) 154 ⟨1,8,.func,[.d .nilf],false⟩ .leaf)) 155 ⟨1,8,.func,[.d .nilf],false⟩ (.node (.node (.node .leaf 156 ⟨1,8,.func,[.d .nilf],false⟩ .leaf) 157 ⟨1,8,.func,[.d .nilf],false⟩ .leaf) 158 ⟨1,8,.func,[.d .nilf],false⟩ (.node .leaf 159 ⟨1,8,.func,[.d .nilf],false⟩ .leaf)))) 160 ⟨1,8,.func,[.d .nilf],false⟩ (.node (.node (.node (.node (.node .leaf 161 ⟨1,8,.func,[.d .nilf],false⟩ .leaf) 162 ⟨1,8,.ptr 226,[.d .nilp],false⟩ .leaf) 163 ⟨1,0,.other,[],false⟩ (.node (.node .leaf 164 ⟨1,8,.func,[.d .nilf],false⟩ .leaf) 165 ⟨1,8,.func,[.d .nilf],false⟩ .leaf)) 166 ⟨1,8,.func,[.d .nilf],false⟩ (.node (.node (.node .leaf 167 ⟨1,8,.func,[.d .nilf],false⟩ .leaf) 168 ⟨1,8,.func,[.d .nilf],false⟩ .leaf) 169 ⟨1,8,.func,[.d .nilf],false⟩ (.node (.node .leaf 170 ⟨1,8,.func,[.d .nilf],false⟩ .leaf) 171 ⟨1,8,.func,[.d .nilf],false⟩ .leaf))) 172 ⟨1,8,.func,[.d .nilf],false⟩ (.node (.node (.node (.node .leaf 173 ⟨1,8,.func,[.d .nilf],false⟩ .leaf) 174 ⟨1,8,.func,[.d .nilf],false⟩ .leaf) 175 ⟨1,8,.func,[.d .nilf],false⟩ (.node (.node .leaf 176 ⟨1,8,.func,[.d .nilf],false⟩ .leaf) 177 ⟨1,8,.func,[.d .nilf],false⟩ .leaf)) 178 ⟨1,8,.func,[.d .nilf],false⟩ (.node (.node (.node .leaf 179 ⟨1,8,.func,[.d .nilf],false⟩ .leaf) 180 ⟨1,8,.func,[.d .nilf],false⟩ .leaf) 181 ⟨1,8,.func,[.d .nilf],false⟩ (.node .leaf 182 ⟨1,8,.func,[.d .nilf],false⟩ .leaf))))))) 183 ⟨1,8,.func,[.d .nilf],false⟩ (.node (.node (.node (.node (.node (.node (.node (.node .leaf 184 ⟨1,8,.func,[.d .nilf],false⟩ .leaf) 185 ⟨1,8,.func,[.d .nilf],false⟩ .leaf) 186 ⟨1,8,.func,[.d .nilf],false⟩ (.node (.node .leaf 187 ⟨1,8,.func,[.d .nilf],false⟩ .leaf) 188 ⟨1,8,.func,[.d .nilf],false⟩ .leaf)) 189 ⟨1,8,.func,[.d .nilf],false⟩ (.node (.node (.node .leaf 190 ⟨1,8,.func,[.d .nilf],false⟩ .leaf) 191 ⟨1,8,.func,[.d .nilf],false⟩ .leaf) 192 ⟨1,8,.func,[.d .nilf],false⟩ (.node (.node .leaf 193 ⟨1,8,.func,[.d .nilf],false⟩ .leaf) 194 ⟨3,3,.array 3 4,[.d (.bool false),.d (.bool false),.d (.bool false)],false⟩ .leaf))) 195 ⟨3,48,.array 3 9,[.d (.str []),.d (.str []),.d (.str [])],false⟩ (.node (.node (.node (.node .leaf 196 ⟨1,8,.func,[.d .nilf],false⟩ .leaf) 197 ⟨1,8,.func,[.d .nilf],false⟩ .leaf) 198 ⟨1,8,.func,[.d .nilf],false⟩ (.node (.node .leaf 199 ⟨1,8,.func,[.d .nilf],false⟩ .leaf) 200 ⟨1,8,.func,[.d .nilf],false⟩ .leaf)) 201 ⟨1,8,.func,[.d .nilf],false⟩ (.node (.node (.node .leaf 202 ⟨1,8,.func,[.d .nilf],false⟩ .leaf) 203 ⟨1,8,.func,[.d .nilf],false⟩ .leaf) 204 ⟨1,8,.func,[.d .nilf],false⟩ (.node .leaf 205 ⟨1,16,.iface,[.d .nili],false⟩ .leaf)))) 206 ⟨1,16,.iface,[.d .nili],false⟩ (.node (.node (.node (.node (.node .leaf 207 ⟨1,8,.func,[.d .nilf],false⟩ .leaf) 208 ⟨1,8,.func,[.d .nilf],false⟩ .leaf) 209 ⟨1,0,.other,[],false⟩ (.node (.node .leaf 210 ⟨1,8,.func,[.d .nilf],false⟩ .leaf) 211 ⟨1,8,.func,[.d .nilf],false⟩ .leaf)) 212 ⟨1,8,.func,[.d .nilf],false⟩ (.node (.node (.node .leaf 213 ⟨1,8,.func,[.d .nilf],false⟩ .leaf) 214 ⟨1,8,.func,[.d .nilf],false⟩ .leaf) 215 ⟨1,8,.func,[.d .nilf],false⟩ (.node (.node .leaf 216 ⟨1,8,.func,[.d .nilf],false⟩ .leaf) 217 ⟨5,48,.struct [(0,5),(1,9),(2,2),(3,3),(4,3)],[.d (.int .u8 (0)),.d (.str []),.d (.int .i64 (0)),.d (.int .i64 (0)),.d (.int .i64 (0))],false⟩ .leaf))) 218 ⟨5,48,.struct [(0,5),(1,9),(2,2),(3,3),(4,3)],[.d (.int .u8 (0)),.d (.str []),.d (.int .i64 (0)),.d (.int .i64 (0)),.d (.int .i64 (0))],true⟩ (.node (.node (.node (.node .leaf 219 ⟨2,16,.struct [(0,3),(1,27)],[.d (.int .i64 (0)),.d (.int .i64 (0))],false⟩ .leaf) 220 ⟨2,16,.struct [(0,3),(1,27)],[.d (.int .i64 (0)),.d (.int .i64 (0))],true⟩ .leaf) 221 ⟨1,0,.other,[],false⟩ (.node (.node .leaf 222 ⟨1,8,.func,[.d .nilf],false⟩ .leaf) 223 ⟨1,0,.other,[],false⟩ .leaf)) 224 ⟨1,8,.func,[.d .nilf],false⟩ (.node (.node (.node .leaf 225 ⟨6,64,.struct [(0,134),(1,3),(2,3),(3,3),(4,27),(5,3)],[.nils 218,.d (.int .i64 (0)),.d (.int .i64 (0)),.d (.int .i64 (0)),.d (.int .i64 (0)),.d (.int .i64 (0))],false⟩ .leaf) 226 ⟨6,64,.struct [(0,134),(1,3),(2,3),(3,3),(4,27),(5,3)],[.nils 218,.d (.int .i64 (0)),.d (.int .i64 (0)),.d (.int .i64 (0)),.d (.int .i64 (0)),.d (.int .i64 (0))],false⟩ .leaf) 227 ⟨1,0,.other,[],false⟩ (.node .leaf 228 ⟨1,8,.func,[.d .nilf],false⟩ .leaf))))) 229 ⟨1,8,.func,[.d .nilf],false⟩ (.node (.node (.node (.node (.node (.node .leaf 230 ⟨1,8,.func,[.d .nilf],false⟩ .leaf) 231 ⟨1,8,.func,[.d .nilf],false⟩ .leaf) 232 ⟨6,96,.array 6 9,[.d (.str []),.d (.str []),.d (.str []),.d (.str []),.d (.str []),.d (.str [])],false⟩ (.node (.node .leaf 233 ⟨4,64,.array 4 9,[.d (.str []),.d (.str []),.d (.str []),.d (.str [])],false⟩ .leaf) 234 ⟨1,8,.func,[.d .nilf],false⟩ .leaf)) 235 ⟨1,8,.func,[.d .nilf],false⟩ (.node (.node (.node .leaf 236 ⟨1,8,.func,[.d .nilf],false⟩ .leaf) 237 ⟨1,8,.func,[.d .nilf],false⟩ .leaf) 238 ⟨1,8,.func,[.d .nilf],false⟩ (.node (.node .leaf 239 ⟨1,8,.ptr 141,[.d .nilp],false⟩ .leaf) 240 ⟨1,8,.func,[.d .nilf],false⟩ .leaf))) 241 ⟨1,8,.func,[.d .nilf],false⟩ (.node (.node (.node (.node .leaf 242 ⟨1,8,.func,[.d .nilf],false⟩ .leaf) 243 ⟨1,8,.func,[.d .nilf],false⟩ .leaf) 244 ⟨1,8,.func,[.d .nilf],false⟩ (.node (.node .leaf 245 ⟨1,8,.func,[.d .nilf],false⟩ .leaf) 246 ⟨1,8,.func,[.d .nilf],false⟩ .leaf)) 247 ⟨1,8,.func,[.d .nilf],false⟩ (.node (.node (.node .leaf 248 ⟨1,8,.func,[.d .nilf],false⟩ .leaf) 249 ⟨1,8,.ptr 251,[.d .nilp],false⟩ .leaf) 250 ⟨2,24,.struct [(0,9),(1,3)],[.d (.str []),.d (.int .i64 (0))],false⟩ (.node .leaf 251 ⟨2,24,.struct [(0,9),(1,3)],[.d (.str []),.d (.int .i64 (0))],true⟩ .leaf)))) 252 ⟨1,8,.func,[.d .nilf],false⟩ (.node (.node (.node (.node (.node .leaf 253 ⟨1,8,.func,[.d .nilf],false⟩ .leaf) 254 ⟨1,8,.func,[.d .nilf],false⟩ .leaf) 255 ⟨1,8,.func,[.d .nilf],false⟩ (.node (.node .leaf 256 ⟨1,8,.func,[.d .nilf],false⟩ .leaf) 257 ⟨256,256,.other,[],false⟩ .leaf)) 258 ⟨2,2,.struct [(0,5),(1,5)],[.d (.int .u8 (0)),.d (.int .u8 (0))],false⟩ (.node (.node (.node .leaf 259 ⟨2,2,.struct [(0,5),(1,5)],[.d (.int .u8 (0)),.d (.int .u8 (0))],false⟩ .leaf) 260 ⟨32,32,.array 16 259,[.d (.int .u8 (0)),.d (.int .u8 (0)),.d (.int .u8 (0)),.d (.int .u8 (0)),.d (.int .u8 (0)),.d (.int .u8 (0)),.d (.int .u8 (0)),.d (.int .u8 (0)),.d (.int .u8 (0)),.d (.int .u8 (0)),.d (.int .u8 (0)),.d (.int .u8 (0)),.d (.int .u8 (0)),.d (.int .u8 (0)),.d (.int .u8 (0)),.d (.int .u8 (0)),.d (.int .u8 (0)),.d (.int .u8 (0)),.d (.int .u8 (0)),.d (.int .u8 (0)),.d (.int .u8 (0)),.d (.int .u8 (0)),.d (.int .u8 (0)),.d (.int .u8 (0)),.d (.int .u8 (0)),.d (.int .u8 (0)),.d (.int .u8 (0)),.d (.int .u8 (0)),.d (.int .u8 (0)),.d (.int .u8 (0)),.d (.int .u8 (0)),.d (.int .u8 (0))],false⟩ .leaf) 261 ⟨1,8,.int .u64,[.d (.int .u64 (0))],true⟩ (.node (.node .leaf 262 ⟨1,8,.func,[.d .nilf],false⟩ .leaf) 263 ⟨1,8,.func,[.d .nilf],false⟩ .leaf))) 264 ⟨1,8,.func,[.d .nilf],false⟩ (.node (.node (.node (.node .leaf 265 ⟨1,8,.func,[.d .nilf],false⟩ .leaf) 266 ⟨1,8,.func,[.d .nilf],false⟩ .leaf) 267 ⟨1,8,.func,[.d .nilf],false⟩ (.node (.node .leaf 268 ⟨24,24,.array 24 5,[.d (.int .u8 (0)),.d (.int .u8 (0)),.d (.int .u8 (0)),.d (.int .u8 (0)),.d (.int .u8 (0)),.d (.int .u8 (0)),.d (.int .u8 (0)),.d (.int .u8 (0)),.d (.int .u8 (0)),.d (.int .u8 (0)),.d (.int .u8 (0)),.d (.int .u8 (0)),.d (.int .u8 (0)),.d (.int .u8 (0)),.d (.int .u8 (0)),.d (.int .u8 (0)),.d (.int .u8 (0)),.d (.int .u8 (0)),.d (.int .u8 (0)),.d (.int .u8 (0)),.d (.int .u8 (0)),.d (.int .u8 (0)),.d (.int .u8 (0)),.d (.int .u8 (0))],false⟩ .leaf) 269 ⟨1,8,.func,[.d .nilf],false⟩ .leaf)) 270 ⟨1,8,.func,[.d .nilf],false⟩ (.node (.node (.node .leaf 271 ⟨1,0,.other,[],false⟩ .leaf) 272 ⟨1,8,.func,[.d .nilf],false⟩ .leaf) 273 ⟨1,8,.func,[.d .nilf],false⟩ (.node .leaf 274 ⟨1,0,.other,[],false⟩ .leaf)))))) 275 ⟨1,8,.func,[.d .nilf],false⟩ (.node (.node (.node (.node (.node (.node (.node .leaf 276 ⟨2,24,.struct [(0,9),(1,5)],[.d (.str []),.d (.int .u8 (0))],false⟩ .leaf) 277 ⟨4,48,.array 2 276,[.d (.str []),.d (.int .u8 (0)),.d (.str []),.d (.int .u8 (0))],false⟩ .leaf) 278 ⟨1,8,.func,[.d .nilf],false⟩ (.node (.node .leaf 279 ⟨1,8,.func,[.d .nilf],false⟩ .leaf) 280 ⟨1,8,.func,[.d .nilf],false⟩ .leaf)) 281 ⟨1,8,.func,[.d .nilf],false⟩ (.node (.node (.node .leaf 282 ⟨1,8,.func,[.d .nilf],false⟩ .leaf) 283 ⟨1,8,.func,[.d .nilf],false⟩ .leaf) 284 ⟨1,8,.func,[.d .nilf],false⟩ (.node (.node .leaf 285 ⟨1,8,.func,[.d .nilf],false⟩ .leaf) 286 ⟨1,8,.func,[.d .nilf],false⟩ .leaf))) 287 ⟨1,8,.func,[.d .nilf],false⟩ (.node (.node (.node (.node .leaf 288 ⟨1,8,.func,[.d .nilf],false⟩ .leaf) 289 ⟨1,8,.func,[.d .nilf],false⟩ .leaf) 290 ⟨1,8,.func,[.d .nilf],false⟩ (.node (.node .leaf 291 ⟨1,8,.func,[.d .nilf],false⟩ .leaf) 292 ⟨1,8,.func,[.d .nilf],false⟩ .leaf)) 293 ⟨1,8,.func,[.d .nilf],false⟩ (.node (.node (.node .leaf 294 ⟨1,8,.func,[.d .nilf],false⟩ .leaf) 295 ⟨1,8,.func,[.d .nilf],false⟩ .leaf) 296 ⟨1,8,.func,[.d .nilf],false⟩ (.node .leaf 297 ⟨1,8,.func,[.d .nilf],false⟩ .leaf)))) 298 ⟨1,8,.func,[.d .nilf],false⟩ (.node (.node (.node (.node (.node .leaf 299 ⟨1,8,.func,[.d .nilf],false⟩ .leaf) 300 ⟨1,8,.other,[.d .nilp],false⟩ .leaf) 301 ⟨1,8,.func,[.d .nilf],false⟩ (.node (.node .leaf 302 ⟨1,4,.int .u32,[.d (.int .u32 (0))],true⟩ .leaf) 303 ⟨1,8,.func,[.d .nilf],false⟩ .leaf)) 304 ⟨20,160,.array 20 131,[.d (.int .u64 (0)),.d (.int .u64 (0)),.d (.int .u64 (0)),.d (.int .u64 (0)),.d (.int .u64 (0)),.d (.int .u64 (0)),.d (.int .u64 (0)),.d (.int .u64 (0)),.d (.int .u64 (0)),.d (.int .u64 (0)),.d (.int .u64 (0)),.d (.int .u64 (0)),.d (.int .u64 (0)),.d (.int .u64 (0)),.d (.int .u64 (0)),.d (.int .u64 (0)),.d (.int .u64 (0)),.d (.int .u64 (0)),.d (.int .u64 (0)),.d (.int .u64 (0))],false⟩ (.node (.node (.node .leaf 305 ⟨65,65,.other,[],false⟩ .leaf) 306 ⟨1,8,.func,[.d .nilf],false⟩ .leaf) 307 ⟨1,8,.func,[.d .nilf],false⟩ (.node (.node .leaf 308 ⟨1,8,.func,[.d .nilf],false⟩ .leaf) 309 ⟨1,8,.func,[.d .nilf],false⟩ .leaf))) 310 ⟨1,0,.other,[],false⟩ (.node (.node (.node (.node .leaf 311 ⟨1,8,.func,[.d .nilf],false⟩ .leaf) 312 ⟨1,0,.other,[],false⟩ .leaf) 313 ⟨1,8,.func,[.d .nilf],false⟩ (.node (.node .leaf 314 ⟨1,8,.func,[.d .nilf],false⟩ .leaf) 315 ⟨1,8,.func,[.d .nilf],false⟩ .leaf)) 316 ⟨1,8,.func,[.d .nilf],false⟩ (.node (.node (.node .leaf 317 ⟨1,8,.func,[.d .nilf],false⟩ .leaf) 318 ⟨256,256,.other,[],false⟩ .leaf) 319 ⟨256,256,.other,[],false⟩ (.node .leaf 320 ⟨1,0,.other,[],false⟩ .leaf))))) 321 ⟨1,8,.func,[.d .nilf],false⟩ (.node (.node (.node (.node (.node (.node .leaf 322 ⟨1,8,.func,[.d .nilf],false⟩ .leaf) 323 ⟨1,8,.ptr 319,[.d .nilp],false⟩ .leaf) 324 ⟨5,80,.array 5 9,[.d (.str []),.d (.str []),.d (.str []),.d (.str []),.d (.str [])],false⟩ (.node (.node .leaf 325 ⟨1,0,.other,[],false⟩ .leaf) 326 ⟨1,8,.func,[.d .nilf],false⟩ .leaf)) 327 ⟨1,8,.func,[.d .nilf],false⟩ (.node (.node (.node .leaf 328 ⟨1,0,.other,[],false⟩ .leaf) 329 ⟨1,8,.func,[.d .nilf],false⟩ .leaf) 330 ⟨1,0,.other,[],false⟩ (.node (.node .leaf 331 ⟨1,8,.func,[.d .nilf],false⟩ .leaf) 332 ⟨1,8,.func,[.d .nilf],false⟩ .leaf))) 333 ⟨32,32,.array 32 5,[.d (.int .u8 (0)),.d (.int .u8 (0)),.d (.int .u8 (0)),.d (.int .u8 (0)),.d (.int .u8 (0)),.d (.int .u8 (0)),.d (.int .u8 (0)),.d (.int .u8 (0)),.d (.int .u8 (0)),.d (.int .u8 (0)),.d (.int .u8 (0)),.d (.int .u8 (0)),.d (.int .u8 (0)),.d (.int .u8 (0)),.d (.int .u8 (0)),.d (.int .u8 (0)),.d (.int .u8 (0)),.d (.int .u8 (0)),.d (.int .u8 (0)),.d (.int .u8 (0)),.d (.int .u8 (0)),.d (.int .u8 (0)),.d (.int .u8 (0)),.d (.int .u8 (0)),.d (.int .u8 (0)),.d (.int .u8 (0)),.d (.int .u8 (0)),.d (.int .u8 (0)),.d (.int .u8 (0)),.d (.int .u8 (0)),.d (.int .u8 (0)),.d (.int .u8 (0))],false⟩ (.node (.node (.node (.node .leaf 334 ⟨64,64,.array 64 5,[.d (.int .u8 (0)),.d (.int .u8 (0)),.d (.int .u8 (0)),.d (.int .u8 (0)),.d (.int .u8 (0)),.d (.int .u8 (0)),.d (.int .u8 (0)),.d (.int .u8 (0)),.d (.int .u8 (0)),.d (.int .u8 (0)),.d (.int .u8 (0)),.d (.int .u8 (0)),.d (.int .u8 (0)),.d (.int .u8 (0)),.d (.int .u8 (0)),.d (.int .u8 (0)),.d (.int .u8 (0)),.d (.int .u8 (0)),.d (.int .u8 (0)),.d (.int .u8 (0)),.d (.int .u8 (0)),.d (.int .u8 (0)),.d (.int .u8 (0)),.d (.int .u8 (0)),.d (.int .u8 (0)),.d (.int .u8 (0)),.d (.int .u8 (0)),.d (.int .u8 (0)),.d (.int .u8 (0)),.d (.int .u8 (0)),.d (.int .u8 (0)),.d (.int .u8 (0)),.d (.int .u8 (0)),.d (.int .u8 (0)),.d (.int .u8 (0)),.d (.int .u8 (0)),.d (.int .u8 (0)),.d (.int .u8 (0)),.d (.int .u8 (0)),.d (.int .u8 (0)),.d (.int .u8 (0)),.d (.int .u8 (0)),.d (.int .u8 (0)),.d (.int .u8 (0)),.d (.int .u8 (0)),.d (.int .u8 (0)),.d (.int .u8 (0)),.d (.int .u8 (0)),.d (.int .u8 (0)),.d (.int .u8 (0)),.d (.int .u8 (0)),.d (.int .u8 (0)),.d (.int .u8 (0)),.d (.int .u8 (0)),.d (.int .u8 (0)),.d (.int .u8 (0)),.d (.int .u8 (0)),.d (.int .u8 (0)),.d (.int .u8 (0)),.d (.int .u8 (0)),.d (.int .u8 (0)),.d (.int .u8 (0)),.d (.int .u8 (0)),.d (.int .u8 (0))],false⟩ .leaf) 335 ⟨1,8,.func,[.d .nilf],false⟩ .leaf) 336 ⟨1,8,.func,[.d .nilf],false⟩ (.node (.node .leaf 337 ⟨1,8,.func,[.d .nilf],false⟩ .leaf) 338 ⟨1,8,.func,[.d .nilf],false⟩ .leaf)) 339 ⟨1,8,.func,[.d .nilf],false⟩ (.node (.node (.node .leaf 340 ⟨1,8,.func,[.d .nilf],false⟩ .leaf) 341 ⟨1,0,.other,[],false⟩ .leaf) 342 ⟨1,8,.func,[.d .nilf],false⟩ (.node .leaf 343 ⟨1,8,.int .i64,[.d (.int .i64 (0))],true⟩ .leaf)))) 344 ⟨1,8,.func,[.d .nilf],false⟩ (.node (.node (.node (.node (.node .leaf 345 ⟨1,8,.ptr 350,[.d .nilp],false⟩ .leaf) 346 ⟨1,8,.func,[.d .nilf],false⟩ .leaf) 347 ⟨1,8,.func,[.d .nilf],false⟩ (.node (.node .leaf 348 ⟨1,8,.func,[.d .nilf],false⟩ .leaf) 349 ⟨3,48,.struct [(0,9),(1,9),(2,206)],[.d (.str []),.d (.str []),.d .nili],false⟩ .leaf)) 350 ⟨3,48,.struct [(0,9),(1,9),(2,206)],[.d (.str []),.d (.str []),.d .nili],false⟩ (.node (.node (.node .leaf 351 ⟨1,8,.func,[.d .nilf],false⟩ .leaf) 352 ⟨1,8,.ptr 354,[.d .nilp],false⟩ .leaf) 353 ⟨1,16,.struct [(0,9)],[.d (.str [])],false⟩ (.node (.node .leaf 354 ⟨1,16,.struct [(0,9)],[.d (.str [])],false⟩ .leaf) 355 ⟨4,40,.struct [(0,17),(1,17),(2,17),(3,9)],[.d .nilp,.d .nilp,.d .nilp,.d (.str [])],false⟩ .leaf))) 356 ⟨4,40,.struct [(0,17),(1,17),(2,17),(3,9)],[.d .nilp,.d .nilp,.d .nilp,.d (.str [])],false⟩ (.node (.node (.node (.node .leaf 357 ⟨0,0,.other,[],false⟩ .leaf) 358 ⟨0,0,.other,[],false⟩ .leaf) 359 ⟨0,0,.other,[],false⟩ (.node (.node .leaf 360 ⟨1,1,.int .u8,[.d (.int .u8 (0))],true⟩ .leaf) 361 ⟨1,1,.int .u8,[.d (.int .u8 (0))],true⟩ .leaf)) 362 ⟨1,8,.func,[.d .nilf],false⟩ (.node (.node (.node .leaf 363 ⟨1,4,.int .i32,[.d (.int .i32 (0))],true⟩ .leaf) 364 ⟨1,4,.int .i32,[.d (.int .i32 (0))],true⟩ .leaf) 365 ⟨11,48,.struct [(0,12),(1,12),(2,302),(3,360),(4,5),(5,5),(6,361),(7,362),(8,133),(9,363),(10,364)],[.d (.int .u64 (0)),.d (.int .u64 (0)),.d (.int .u32 (0)),.d (.int .u8 (0)),.d (.int .u8 (0)),.d (.int .u8 (0)),.d (.int .u8 (0)),.d .nilf,.d .nilp,.d (.int .i32 (0)),.d (.int .i32 (0))],false⟩ (.node .leaf 366 ⟨11,48,.struct [(0,12),(1,12),(2,302),(3,360),(4,5),(5,5),(6,361),(7,362),(8,133),(9,363),(10,364)],[.d (.int .u64 (0)),.d (.int .u64 (0)),.d (.int .u32 (0)),.d (.int .u8 (0)),.d (.int .u8 (0)),.d (.int .u8 (0)),.d (.int .u8 (0)),.d .nilf,.d .nilp,.d (.int .i32 (0)),.d (.int .i32 (0))],false⟩ .leaf))))))))
theorem tab_ok:TabOK Tab0 Tryz.prog:=by unfold TabOK;kernel_rfl
theorem mixed:Tryz.prog.follows .mixedOrders=true:=by kernel_rfl
end Go.PM.Lex
end

section
namespace Go.PM.Lex
abbrev Bs:=List UInt8
def isDigit (c:Int):Bool:=decide (48≤c∧c≤57)
def isLetter (c:Int):Bool:=decide (c=95∨128≤c∨(97≤c∧c≤122)∨(65≤c∧c≤90))
def pk (r:Bs):Int×Nat:=if r=[]∨Lib.decodeL r=(65533,1) then (-1,1) else ((Lib.decodeL r).1,(Lib.decodeL r).2)
def nameGo:Nat→Bs→Nat
 | 0,_=>0
 | f+1,r=>if (pk r).1=46 then (if isLetter (pk (r.drop 1)).1=true then (pk r).2+nameGo f (r.drop (pk r).2) else 0)
   else if isLetter (pk r).1=true∨isDigit (pk r).1=true then (pk r).2+nameGo f (r.drop (pk r).2) else 0
def nameF (r:Bs):Nat:=nameGo (r.length+1) r
def blankGo:Nat→Bs→Bool×Nat
 | 0,_=>(false,0)
 | f+1,r =>
  let rest:=Lib.trimLeftS r [32,9,13,10]
  let k:=r.length - rest.length
  if Lib.hasPrefix rest [47,47]=true then
   let n:=if Lib.indexByte rest 10<0 then rest.length else (Lib.indexByte rest 10).toNat
   let t:=blankGo f (rest.drop n)
   (t.1,k+n+t.2)
  else if Lib.hasPrefix rest [47,42]=true then
   if Lib.index (rest.drop 2) [42,47]<0 then (false,k) else
   let n:=(Lib.index (rest.drop 2) [42,47]).toNat+4
   let t:=blankGo f (rest.drop n)
   (t.1,k+n+t.2)
  else (true,k)
def blankF (r:Bs):Bool×Nat:=blankGo (r.length+1) r
def digB (hex:Bool) (b:UInt8):Bool:=isDigit b.toNat || (hex && decide ((97≤b.toNat∧b.toNat≤102)∨(65≤b.toNat∧b.toNat≤70)))
def digV (b:UInt8):Nat:=if b.toNat≤57 then b.toNat - 48 else if b.toNat≤70 then b.toNat - 55 else b.toNat - 87
def numV (base:Nat) (l:Bs):Nat:=l.foldl (fun n b=>n * base+digV b) 0
def isHex (r:Bs):Bool:=Lib.hasPrefix r [48,120]
def numDigits (r:Bs):Bs:=(r.drop (if isHex r then 2 else 0)).takeWhile (digB (isHex r))
def numLen (r:Bs):Nat:=(if isHex r then 2 else 0)+(numDigits r).length
def numberF (r:Bs):Option Nat :=
 if numDigits r=[] then none
 else if (if isHex r then 18446744073709551616 else 9223372036854775808)≤numV (if isHex r then 16 else 10) (numDigits r) then none
 else if isLetter (pk (r.drop (numLen r))).1=true∨isDigit (pk (r.drop (numLen r))).1=true∨(isHex r=true∧16<(numDigits r).length) then none
 else some (numV (if isHex r then 16 else 10) (numDigits r))
def escB (c:Nat):Option UInt8:=if c=110 then some 10 else if c=116 then some 9 else if c=34 then some 34 else if c=92 then some 92 else none
inductive TR where
 | err (at':Nat) | ok (txt:Bs) (len:Nat)
 deriving DecidableEq
def textGo:Nat→Bs→Bool→Bs→Nat→TR
 | 0,_,_,_,_=>.err 0
 | f+1,r,esc,acc,p =>
  if r=[] then .err 0
  else if esc=true then (match escB (Lib.decodeL r).1 with
   | none=>.err (p - 1)
   | some b=>textGo f (r.drop (Lib.decodeL r).2) false (acc++[b]) (p+(Lib.decodeL r).2))
  else if (Lib.decodeL r).1=34 then .ok acc (p+1)
  else if (Lib.decodeL r).1=92 then textGo f (r.drop (Lib.decodeL r).2) true acc (p+(Lib.decodeL r).2)
  else if (pk r).1<32 then .err p
  else textGo f (r.drop (Lib.decodeL r).2) false (acc++Lib.encodeRune (Lib.decodeL r).1) (p+(Lib.decodeL r).2)
def textF (r:Bs):TR:=textGo (r.length+1) (r.drop 1) false [] 1
def twos:List Bs:=[[58,45],[33,61],[60,61],[62,61],[60,58]]
def ones:Bs:=[40,41,91,93,123,125,44,46,58,33,61,60,62,43,45,42,47,37,124,36,126]
def signF (r:Bs):Nat:=if twos.any (Lib.hasPrefix r) then 2 else if ones.contains (r.getD 0 0) then 1 else 0
structure Tok where
 kind:Nat
 text:Bs
 n:Int
 at':Nat
 fin:Nat
 deriving DecidableEq
inductive NR where
 | bad (at':Nat) (e:Nat) | tok (t:Tok)
 deriving DecidableEq
def numberR (a:Nat) (r:Bs):NR:=match numberF r with | none=>.bad a 142 | some n=>.tok ⟨2,[],IntKind.i64.wrap n,a,a+numLen r⟩
def textR (a:Nat) (r:Bs):NR:=match textF r with | .err p=>.bad (a+p) 141 | .ok t l=>.tok ⟨3,t,0,a,a+l⟩
def nextF (a:Nat) (r:Bs) (room:Bool):NR :=
 let c:=(pk r).1
 let n:=signF r
 if n=0∧c≠34∧isLetter c=false∧isDigit c=false then .bad a 140
 else if room=false then .bad a 3
 else if 0<n then .tok ⟨4,r.take n,0,a,a+n⟩
 else if c=34 then textR a r
 else if isDigit c=true then numberR a r
 else .tok ⟨1,r.take (nameF r),0,a,a+nameF r⟩
def allGo:Nat→Int→Nat→Bs→List Tok×(Nat×Nat)
 | 0,_,_,_=>([],(0,0))
 | f+1,most,a,r =>
  if (blankF r).1=false then ([],(a+(blankF r).2,140))
  else
   let a:=a+(blankF r).2
   let r:=r.drop (blankF r).2
   if r=[] then ([],(0,0))
   else match nextF a r (decide (0<most)) with
    | .bad p e=>([],(p,e))
    | .tok t=>let u:=allGo f (most - 1) t.fin (r.drop (t.fin - a));(t::u.1,u.2)
def allF (s:Bs) (most:Int):List Tok×(Nat×Nat):=allGo (s.length+1) most 0 s
end Go.PM.Lex
end

section
noncomputable section
namespace Go.PM.Lex
open Go.Proofs
abbrev GG (w0:World) (nG:Nat):GE:=⟨Tryz.prog,w0,nG⟩
theorem dec_eq (s:Bs) (pos:Nat):decodeL s pos=Lib.decodeL (s.drop pos):=by
 have:=Lib.decodeL_drop ⟨s.toArray⟩ pos
 simpa [decodeL] using this.symm
def spHasPrefix:Spec:=fun args σ K=>match args with
 | [.d (.str s),.d (.str p)]=>K (.ret (.d (.bool (Lib.hasPrefix s p)))) σ
 | _=>False
def spIndexByte:Spec:=fun args σ K=>match args with
 | [.d (.str s),.d (.int .u8 c)]=>K (.ret (.d (.int .i64 (Lib.indexByte s c.toNat.toUInt8)))) σ
 | _=>False
def spIndex:Spec:=fun args σ K=>match args with
 | [.d (.str s),.d (.str p)]=>s.length<4294967281∧K (.ret (.d (.int .i64 (Lib.index s p)))) σ
 | _=>False
def spRuneLen:Spec:=fun args σ K=>match args with
 | [.d (.int .i32 c)]=>K (.ret (.d (.int .i64 (Lib.runeLen c)))) σ
 | _=>False
def spTrimLeft:Spec:=fun args σ K=>match args with
 | [.d (.str s),.d (.str p)]=>(p.length<4294967281∧∀(j:Nat) b,p[j]?=some b→b.toNat<128)∧K (.ret (.d (.str (Lib.trimLeftS s p)))) σ
 | _=>False
theorem spHasPrefix_mono:SpecMono spHasPrefix:=fun args σ K K' hK h=>by
 unfold spHasPrefix at h ⊢;split at h <;> first | exact hK _ _ h | exact h.elim
theorem spIndexByte_mono:SpecMono spIndexByte:=fun args σ K K' hK h=>by
 unfold spIndexByte at h ⊢;split at h <;> first | exact hK _ _ h | exact h.elim
theorem spIndex_mono:SpecMono spIndex:=fun args σ K K' hK h=>by
 unfold spIndex at h ⊢;split at h <;> first | exact ⟨h.1,hK _ _ h.2⟩ | exact h.elim
theorem spRuneLen_mono:SpecMono spRuneLen:=fun args σ K K' hK h=>by
 unfold spRuneLen at h ⊢;split at h <;> first | exact hK _ _ h | exact h.elim
theorem spTrimLeft_mono:SpecMono spTrimLeft:=fun args σ K K' hK h=>by
 unfold spTrimLeft at h ⊢;split at h <;> first | exact ⟨h.1,hK _ _ h.2⟩ | exact h.elim
abbrev tokPV (k:Int) (x:Bs) (n a f:Int):PV:=.agg [.d (.int .u8 k),.d (.str x),.d (.int .i64 n),.d (.int .i64 a),.d (.int .i64 f)]
abbrev fltPV (a e:Int):PV:=.agg [.d (.int .i64 a),.d (.int .i64 e)]
def NR.t:NR→Tok | .bad _ _=>⟨0,[],0,0,0⟩ | .tok t=>t
def NR.p:NR→Nat | .bad p _=>p | .tok _=>0
def NR.e:NR→Nat | .bad _ e=>e | .tok _=>0
abbrev nrPV (x:NR):PV:=.tuple [tokPV x.t.kind x.t.text x.t.n x.t.at' x.t.fin,fltPV x.p x.e]
def spLetter:Spec:=fun args σ K=>match args,σ with
 | [.d (.int .i32 c)],⟨[],[],0⟩=>(-1≤c∧c<2147483648)∧K (.ret (.d (.bool (isLetter c)))) ⟨[],[],0⟩
 | _,_=>False
def spDigit:Spec:=fun args σ K=>match args,σ with
 | [.d (.int .i32 c)],⟨[],[],0⟩=>K (.ret (.d (.bool (isDigit c)))) ⟨[],[],0⟩
 | _,_=>False
def spPeek:Spec:=fun args σ K=>match args,σ with
 | [.ptr 0 0,.d (.int .i64 at')],⟨[.cells t [.d (.str s),.d (.int .i64 a)]],[],0⟩=>(0≤at'∧s.length<4611686018427387904) ∧
   K (.ret (.tuple [.d (.int .i32 (pk (s.drop at'.toNat)).1),.d (.int .i64 (pk (s.drop at'.toNat)).2)])) ⟨[.cells t [.d (.str s),.d (.int .i64 a)]],[],0⟩
 | _,_=>False
def spName:Spec:=fun args σ K=>match args,σ with
 | [.ptr 0 0],⟨[.cells t [.d (.str s),.d (.int .i64 a)]],[],0⟩=>(0≤a∧a≤s.length∧s.length<4294967281) ∧
   K (.ret (tokPV 1 ((s.drop a.toNat).take (nameF (s.drop a.toNat))) 0 a (a+nameF (s.drop a.toNat)))) ⟨[.cells t [.d (.str s),.d (.int .i64 a)]],[],0⟩
 | _,_=>False
def spBlank:Spec:=fun args σ K=>match args,σ with
 | [.ptr 0 0],⟨[.cells t [.d (.str s),.d (.int .i64 a)]],[],0⟩=>(0≤a∧a≤s.length∧s.length<4294967281) ∧
   K (.ret (.d (.bool (blankF (s.drop a.toNat)).1))) ⟨[.cells t [.d (.str s),.d (.int .i64 (a+(blankF (s.drop a.toNat)).2))]],[],0⟩
 | _,_=>False
def spSign:Spec:=fun args σ K=>match args,σ with
 | [.ptr 0 0],⟨[.cells t [.d (.str s),.d (.int .i64 a)]],[],0⟩=>(0≤a∧a<s.length∧s.length<4294967281) ∧
   K (.ret (.d (.int .i64 (signF (s.drop a.toNat))))) ⟨[.cells t [.d (.str s),.d (.int .i64 a)]],[],0⟩
 | _,_=>False
theorem spLetter_mono:SpecMono spLetter:=fun args σ K K' hK h=>by
 unfold spLetter at h ⊢;split at h <;> first | exact ⟨h.1,hK _ _ h.2⟩ | exact h.elim
theorem spDigit_mono:SpecMono spDigit:=fun args σ K K' hK h=>by
 unfold spDigit at h ⊢;split at h <;> first | exact hK _ _ h | exact h.elim
theorem spPeek_mono:SpecMono spPeek:=fun args σ K K' hK h=>by
 unfold spPeek at h ⊢;split at h <;> first | exact ⟨h.1,hK _ _ h.2⟩ | exact h.elim
theorem spName_mono:SpecMono spName:=fun args σ K K' hK h=>by
 unfold spName at h ⊢;split at h <;> first | exact ⟨h.1,hK _ _ h.2⟩ | exact h.elim
theorem spBlank_mono:SpecMono spBlank:=fun args σ K K' hK h=>by
 unfold spBlank at h ⊢;split at h <;> first | exact ⟨h.1,hK _ _ h.2⟩ | exact h.elim
theorem spSign_mono:SpecMono spSign:=fun args σ K K' hK h=>by
 unfold spSign at h ⊢;split at h <;> first | exact ⟨h.1,hK _ _ h.2⟩ | exact h.elim
end Go.PM.Lex
end
end

section
set_option maxRecDepth 100000
noncomputable section
namespace Go.PM
theorem pcalls_lib {G:GE} {g:FuncId} {sp:Spec} (hent:Enters G.P g)
  (h:∀args σ K,sp args σ K→∀(e:Env) (w:World) (vs:Array Value),SRel G e σ w→ArgsRel G e σ w args vs→∃pv,K (.ret pv) σ∧∃v,(∀w',Grows w w'→VRel G e σ w' pv v)∧Calls G.P g vs w fun en w'=>en=.returned v∧Grows w w'):PCalls G g sp where
 enters:=hent
 calls:=fun args σ K hs n e w vs hS ha=>by
  obtain ⟨pv,hK,v,hv,hc⟩:=h args σ K hs e w vs hS ha
  refine CallsIn.mono (callsIn_wide.2 hc) fun en w' ⟨he,hg⟩=>?_
  subst he
  exact ⟨.ret pv,σ,e,hK,⟨v,rfl,hv w' hg⟩,hS.grow hg,(hg.stepped e σ).toLater⟩
theorem Grows.of_below {w w':World} (h:RowKit.Below w.heap.size w w'):Grows w w':=⟨h.os,h.tape,h.output,h.size,h.block⟩
section
variable {G:GE} {e:Env} {σ:St} {w:World} {vs:Array Value}
theorem args1 {x:PV} (h:ArgsRel G e σ w [x] vs):∃u,vs=#[u]∧VRel G e σ w x u:=by
 obtain ⟨hs,hr⟩:=h
 obtain ⟨l⟩:=vs
 match l,hs with
 | [u],_=>exact ⟨u,rfl,hr 0 x u rfl rfl⟩
theorem args2 {x y:PV} (h:ArgsRel G e σ w [x,y] vs):∃u v,vs=#[u,v]∧VRel G e σ w x u∧VRel G e σ w y v:=by
 obtain ⟨hs,hr⟩:=h
 obtain ⟨l⟩:=vs
 match l,hs with
 | [u,v],_=>exact ⟨u,v,rfl,hr 0 x u rfl rfl,hr 1 y v rfl rfl⟩
end
end Go.PM
namespace Go.PM.Lex
open Go.Proofs
variable {w0:World} {nG:Nat}
theorem hasPrefix_ok:PCalls (GG w0 nG) 267 spHasPrefix:=pcalls_lib (enters_of Tryz.func267 (by kernel_rfl) rfl) fun args σ K h e w vs hS ha=>by
 unfold spHasPrefix at h
 split at h
 ·obtain ⟨u,v,rfl,hu,hv⟩:=args2 ha
  cases hu.dstr;cases hv.dstr
  exact ⟨_,h,_,fun _ _=>.mkbool,(Tryz.strings_HasPrefix _ _ w).mono fun en w' ⟨h1,h2⟩=>⟨h1,by rw [h2];exact Grows.refl _⟩⟩
 ·exact h.elim
theorem indexByte_ok:PCalls (GG w0 nG) 215 spIndexByte:=pcalls_lib (enters_of Tryz.func215 (by kernel_rfl) rfl) fun args σ K h e w vs hS ha=>by
 unfold spIndexByte at h
 split at h
 ·obtain ⟨u,v,rfl,hu,hv⟩:=args2 ha
  cases hu.dstr;cases hv.dint
  exact ⟨_,h,_,fun _ _=>.mkint,(Tryz.strings_IndexByte _ _ w).mono fun en w' ⟨h1,h2⟩=>⟨h1,by rw [h2];exact Grows.refl _⟩⟩
 ·exact h.elim
theorem runeLen_ok:PCalls (GG w0 nG) 266 spRuneLen:=pcalls_lib (enters_of Tryz.func266 (by kernel_rfl) rfl) fun args σ K h e w vs hS ha=>by
 unfold spRuneLen at h
 split at h
 ·obtain ⟨u,rfl,hu⟩:=args1 ha
  cases hu.dint
  exact ⟨_,h,_,fun _ _=>.mkint,(Tryz.utf8_RuneLen _ w).mono fun en w' ⟨h1,h2⟩=>⟨h1,by rw [h2];exact Grows.refl _⟩⟩
 ·exact h.elim
theorem index_ok (h2:2<nG) (hm:∃m,w0.cell? ⟨2,0,none⟩=some (.int .i64 m)):PCalls (GG w0 nG) 278 spIndex:=pcalls_lib (enters_of Tryz.func278 (by kernel_rfl) rfl) fun args σ K h e w vs hS ha=>by
 unfold spIndex at h
 split at h
 ·rename_i s p
  obtain ⟨u,v,rfl,hu,hv⟩:=args2 ha
  cases hu.dstr;cases hv.dstr
  obtain ⟨m,hm⟩:=hm
  have hm':w.cell? ⟨2,0,none⟩=some (.int .i64 m):=by
   have:=hS.glob 2 h2
   simpa [World.cell?,this] using hm
  exact ⟨_,h.2,_,fun _ _=>.mkint,(Tryz.strings_Index ⟨s.toArray⟩ ⟨p.toArray⟩ m w (show s.toArray.size<_ by simpa using h.1) hm').mono fun en w' ⟨h1,h2⟩=>⟨h1,by rw [h2];exact Grows.refl _⟩⟩
 ·exact h.elim
theorem trimLeft_ok:PCalls (GG w0 nG) 277 spTrimLeft:=pcalls_lib (enters_of Tryz.func277 (by kernel_rfl) rfl) fun args σ K h e w vs hS ha=>by
 unfold spTrimLeft at h
 split at h
 ·rename_i s p
  obtain ⟨u,v,rfl,hu,hv⟩:=args2 ha
  cases hu.dstr;cases hv.dstr
  refine ⟨_,h.2,_,fun _ _=>.mkstr,(Any.strings_TrimLeft_laid Tryz.lays161 (by kernel_rfl) ⟨s.toArray⟩ ⟨p.toArray⟩ w (show p.toArray.size<_ by simpa using h.1.1) h.1.2).mono fun en w' ⟨h1,h2⟩=>⟨h1,Grows.of_below h2⟩⟩
 ·exact h.elim
end Go.PM.Lex
end
end

section
noncomputable section
namespace Go.PM.Lex
open Go.Proofs
def bytesR (l:Bs):List (List D):=l.map fun b=>[.int .u8 b.toNat]
def spParseUint:Spec:=fun args σ K=>match args,σ with
 | [.d (.str l),.d (.int .i64 base),.d (.int .i64 bits)],⟨[],[],0⟩=>∃hex:Bool,((l.all (digB hex)=true∧l.length<4294967281)∧base=(if hex then 16 else 10)∧bits=(if hex then 64 else 63)) ∧
   ((l=[]∨(if hex then 18446744073709551616 else 9223372036854775808)≤numV (if hex then 16 else 10) l)→∀n,K (.ret (.tuple [.d (.int .u64 n),.iface 345 .undef])) ⟨[],[],0⟩) ∧
   (¬(l=[]∨(if hex then 18446744073709551616 else 9223372036854775808)≤numV (if hex then 16 else 10) l)→K (.ret (.tuple [.d (.int .u64 (numV (if hex then 16 else 10) l)),.d .nili])) ⟨[],[],0⟩)
 | _,_=>False
theorem spParseUint_mono:SpecMono spParseUint:=fun args σ K K' hK h=>by
 unfold spParseUint at h ⊢
 split at h
 ·obtain ⟨x,h1,h2,h3⟩:=h;exact ⟨x,h1,fun g n=>hK _ _ (h2 g n),fun g=>hK _ _ (h3 g)⟩
 ·exact h.elim
def spWriteByte:Spec:=fun args σ K=>match args,σ with
 | [.ptr 0 0,.d (.int .u8 c)],⟨[.cells t [p,.sl 0 e rows]],[0],1⟩=>((p=.d .nilp∨p=.ptr 0 0)∧t=82∧e=5∧(∀r∈rows,r.length=1)∧rows.length<70368744177664) ∧
   K (.ret (.d .nili)) ⟨[.cells t [.ptr 0 0,.sl 0 e (rows++[[.int .u8 c]])]],[0],1⟩
 | _,_=>False
theorem spWriteByte_mono:SpecMono spWriteByte:=fun args σ K K' hK h=>by
 unfold spWriteByte at h ⊢;split at h <;> first | exact ⟨h.1,hK _ _ h.2⟩ | exact h.elim
def spWriteRune:Spec:=fun args σ K=>match args,σ with
 | [.ptr 0 0,.d (.int .i32 c)],⟨[.cells t [p,.sl 0 e rows]],[0],1⟩=>((p=.d .nilp∨p=.ptr 0 0)∧t=82∧e=5∧(∀r∈rows,r.length=1)∧rows.length<70368744177664∧0≤c∧c≤1114111) ∧
   K (.ret (.tuple [.d (.int .i64 (((rows++bytesR (Lib.encodeRune c)).length:Int) - (rows.length:Int))),.d .nili])) ⟨[.cells t [.ptr 0 0,.sl 0 e (rows++bytesR (Lib.encodeRune c))]],[0],1⟩
 | _,_=>False
theorem spWriteRune_mono:SpecMono spWriteRune:=fun args σ K K' hK h=>by
 unfold spWriteRune at h ⊢;split at h <;> first | exact ⟨h.1,hK _ _ h.2⟩ | exact h.elim
def spString:Spec:=fun args σ K=>match args,σ with
 | [.ptr 0 0],⟨[.cells t [p,.sl 0 e rows]],[0],1⟩=>∃l:Bs,(rows=bytesR l∧t=82∧e=5∧(p=.d .nilp∨p=.ptr 0 0)∧l.length<70368744177664)∧K (.ret (.d (.str l))) ⟨[.cells t [p,.d (.sl rows)]],[],0⟩
 | _,_=>False
theorem spString_mono:SpecMono spString:=fun args σ K K' hK h=>by
 unfold spString at h ⊢
 split at h
 ·obtain ⟨x,h1,h2⟩:=h;exact ⟨x,h1,hK _ _ h2⟩
 ·exact h.elim
def idxR (s:Bs) (c:Int):Int:=if c<128 then Lib.indexByte s c.toNat.toUInt8 else -1
def spIndexRune:Spec:=fun args σ K=>match args,σ with
 | [.d (.str s),.d (.int .i32 c)],⟨[],[],0⟩=>((s=[110,116,34,92]∨s=[10,9,34,92])∧0≤c∧c≤1114111)∧K (.ret (.d (.int .i64 (idxR s c)))) ⟨[],[],0⟩
 | _,_=>False
theorem spIndexRune_mono:SpecMono spIndexRune:=fun args σ K K' hK h=>by
 unfold spIndexRune at h ⊢;split at h <;> first | exact ⟨h.1,hK _ _ h.2⟩ | exact h.elim
def spNumber:Spec:=fun args σ K=>match args,σ with
 | [.ptr 0 0],⟨[.cells t [.d (.str s),.d (.int .i64 a)]],[],0⟩=>(0≤a∧a<s.length∧s.length<4294967281) ∧
   K (.ret (nrPV (numberR a.toNat (s.drop a.toNat)))) ⟨[.cells t [.d (.str s),.d (.int .i64 a)]],[],0⟩
 | _,_=>False
def spText:Spec:=fun args σ K=>match args,σ with
 | [.ptr 0 0],⟨[.cells t [.d (.str s),.d (.int .i64 a)]],[],0⟩=>(0≤a∧a<s.length∧s.length<4294967281) ∧
   K (.ret (nrPV (textR a.toNat (s.drop a.toNat)))) ⟨[.cells t [.d (.str s),.d (.int .i64 a)]],[],0⟩
 | _,_=>False
def spNext:Spec:=fun args σ K=>match args,σ with
 | [.ptr 0 0,.d (.bool room)],⟨[.cells t [.d (.str s),.d (.int .i64 a)]],[],0⟩=>(0≤a∧a<s.length∧s.length<4294967281) ∧
   K (.ret (nrPV (nextF a.toNat (s.drop a.toNat) room))) ⟨[.cells t [.d (.str s),.d (.int .i64 a)]],[],0⟩
 | _,_=>False
theorem spNumber_mono:SpecMono spNumber:=fun args σ K K' hK h=>by
 unfold spNumber at h ⊢;split at h <;> first | exact ⟨h.1,hK _ _ h.2⟩ | exact h.elim
theorem spText_mono:SpecMono spText:=fun args σ K K' hK h=>by
 unfold spText at h ⊢;split at h <;> first | exact ⟨h.1,hK _ _ h.2⟩ | exact h.elim
theorem spNext_mono:SpecMono spNext:=fun args σ K K' hK h=>by
 unfold spNext at h ⊢;split at h <;> first | exact ⟨h.1,hK _ _ h.2⟩ | exact h.elim
end Go.PM.Lex
end
end

section
set_option maxRecDepth 100000
set_option maxHeartbeats 4000000
namespace Go.PM
theorem pcalls_mach {G:GE} {g:FuncId} {sp:Spec} (hent:Enters G.P g)
  (h:∀args σ K,sp args σ K→∀(e:Env) (w:World) (vs:Array Value),SRel G e σ w→ArgsRel G e σ w args vs→∃pv σ' v,K (.ret pv) σ'∧Calls G.P g vs w fun en w'=>en=.returned v∧VRel G e σ' w' pv v∧SRel G e σ' w'∧Later e σ w e σ' w'):PCalls G g sp where
 enters:=hent
 calls:=fun args σ K hs n e w vs hS ha=>by
  obtain ⟨pv,σ',v,hK,hc⟩:=h args σ K hs e w vs hS ha
  refine CallsIn.mono (callsIn_wide.2 hc) fun en w' ⟨he,hv,hS',hL⟩=>?_
  subst he
  exact ⟨.ret pv,σ',e,hK,⟨v,rfl,hv⟩,hS',hL⟩
section
variable {G:GE} {T:Tab} {e:Env} {σ:St} {w:World}
theorem store_exact (hT:TabOK T G.P) (hS:SRel G e σ w) {t:TypeId} {b off:Nat} {x:PV} {v:Value} {l cs:List PV} {ty:TypeId} (hb:σ.bx[b]?=some (.cells ty cs)) (hx:VRel G e σ w x v) (hl:x.cells=some l)
  (hlen:l.length=(T.get t).size) (hfit:off+l.length≤cs.length) (hk:(T.get t).kind≠.other) :
  Stepped e σ w e (σ.set b (.cells ty (setRange cs off l))) (w.setCells (e.β b) off v.cells.toList)∧SRel G e (σ.set b (.cells ty (setRange cs off l))) (w.setCells (e.β b) off v.cells.toList):=by
 obtain ⟨w1,hr,h1,h2⟩:=store_sound hT hS hb hx hl hlen hfit hk
 obtain ⟨i,d,z,hi,hd,hs,hby,hkd,hz,hz2,_⟩:=(hT.get hk).ex
 obtain ⟨vs,hv1,hv2,hv3⟩:=hS.box b _ hb
 obtain ⟨hc1,hc2⟩:=cells_rel hx hl
 have hvc:v.cells.toList.length=l.length:=by simpa using hc1
 have hone:∀u∈v.cells.toList,u.oneCell'=true:=fun u hu=>by
  obtain ⟨j,hj,rfl⟩:=List.getElem_of_mem hu
  have h1:j<l.length:=by omega
  exact (hc2 j l[j] _ (List.getElem?_eq_getElem h1) (by rw [← Array.getElem?_toList,List.getElem?_eq_getElem hj])).2
 have hrun:=run_storeCells_cells (P:=G.P) (e.β b) off v.cells.toList 0 w (fun j hj=>by
   have:off+j<vs.size:=by omega
   simp [World.cell?,hv1,this]) (fun j hj=>by simp [World.frozen?,hv1]) hone
 simp only [Nat.add_zero] at hrun
 have hr2:(Instr.storeAt t (.pointer (some ⟨e.β b,off,none⟩)) v).run G.P w=.ok () (w.setCells (e.β b) off v.cells.toList):=by
  have h1':v.cells.size=i.size:=by rw [hc1,hlen,hs]
  simp only [Instr.storeAt,Instr.sureAddr,storeVar,Sem.run_bind,Sem.run_pure,Result.andThen,run_sizeOf' hi]
  rw [if_neg (by rw [h1'];simp)]
  exact hrun
 rw [hr2] at hr
 cases hr
 exact ⟨h1,h2⟩
end
end Go.PM
namespace Go.PM.Lex
open Go.Proofs Go.Shelf
variable {w0:World} {nG:Nat}
theorem u50:Tryz.prog.underlying 79=some (.pointer 82):=by kernel_rfl
theorem u95:Tryz.prog.underlying 300=some .unsafePointer:=by kernel_rfl
theorem i53:∃j,Tryz.prog.info? 82=some j∧j.size=2:=by
 have h:(Tryz.prog.info? 82).map (·.size)=some 2:=by kernel_rfl
 obtain ⟨j,h1,h2⟩:=Option.map_eq_some_iff.1 h
 exact ⟨j,h1,h2⟩
theorem lies53:liesAt Tryz.prog Tryz.prog.depth 82 (2 / Tryz.prog.cellsOf 82) 0 82 1=true:=by kernel_rfl
theorem copy_used (b:Nat) (w:World) (h0:w.cell? ⟨b,0,none⟩=some (.pointer (some ⟨b,0,none⟩))) :
  Calls Tryz.prog 214 #[.pointer (some ⟨b,0,none⟩)] w fun e w'=>e=.returned (.tuple #[])∧w'=w:=by
 obtain ⟨j,hj,hjs⟩:=i53
 go_enter Tryz.func214,Tryz.ntmps214
 go_wp2
 rw [Go.Lib.run_neq_ptr_same w _ u50 hj]
 go_wp2
 go_end0
 exact ⟨rfl,rfl⟩
theorem copy_fresh (b:Nat) (w:World) (h0:w.cell? ⟨b,0,none⟩=some (.pointer none)) (hsh:w.shape? b=some (82,2)) (hfz:w.frozen? ⟨b,0,none⟩=false) :
  Calls Tryz.prog 214 #[.pointer (some ⟨b,0,none⟩)] w fun e w'=>e=.returned (.tuple #[])∧w'=w.setCell ⟨b,0,none⟩ (.pointer (some ⟨b,0,none⟩)):=by
 obtain ⟨j,hj,hjs⟩:=i53
 go_enter Tryz.func214,Tryz.ntmps214
 go_wp2
 rw [Go.Lib.run_to_unsafe w ⟨b,0,none⟩ u50 u95 hj (by rw [hjs];decide) hsh (Nat.zero_lt_succ 1)]
 simp only [Result.andThen]
 rw [Oper.upon_value]
 go_wp2
 rw [run_callFunc_extern Tryz.func269 (by kernel_rfl) (by kernel_rfl) (by kernel_rfl) (e:=Extern.AbiNoEscape.same) (by kernel_rfl)]
 rw [Go.Lib.run_noEscape]
 simp only [Result.andThen]
 rw [Oper.upon_value]
 go_wp2
 rw [Go.Lib.run_from_unsafe w ⟨b,0,none⟩ u95 u50 hj hsh lies53]
 simp only [Result.andThen]
 rw [Oper.upon_value]
 go_wp2
 go_end0
 exact ⟨rfl,rfl⟩
noncomputable def spCopyCheck:Spec:=fun args σ K=>match args,σ with
 | [.ptr 0 0],⟨[.cells t [p,q]],tk,nx⟩=>((p=.d .nilp∨p=.ptr 0 0)∧t=82)∧K (.ret (.tuple [])) ⟨[.cells t [.ptr 0 0,q]],tk,nx⟩
 | _,_=>False
theorem spCopyCheck_mono:SpecMono spCopyCheck:=fun args σ K K' hK h=>by
 unfold spCopyCheck at h ⊢;split at h <;> first | exact ⟨h.1,hK _ _ h.2⟩ | exact h.elim
theorem copyCheck_ok:PCalls (GG w0 nG) 214 spCopyCheck:=pcalls_mach (enters_of Tryz.func214 (by kernel_rfl) rfl) fun args σ K h e w vs hS ha=>by
 unfold spCopyCheck at h
 split at h
 ·rename_i t p q tk nx
  obtain ⟨⟨hp,rfl⟩,hK⟩:=h
  obtain ⟨u,rfl,hu⟩:=args1 ha
  obtain ⟨cv,hc1,hc2,hc3⟩:=hS.box 0 _ rfl
  have hcs:cv.size=2:=hc2
  obtain ⟨x0,hx0⟩:∃x,cv[0]?=some x:=⟨cv[0]'(by omega),by simp [hcs]⟩
  have hr0:=(hc3 0 p x0 rfl hx0).1
  cases hu with
  | ptr b off hb =>
  refine ⟨_,_,.tuple #[],hK,?_⟩
  rcases hp with rfl | rfl
  ·cases hr0 with
   | d _ _ hd =>
   cases hd
   refine Calls.mono (copy_fresh (e.β 0) w ?_ ?_ ?_) fun en w' ⟨h1,h2⟩=>?_
   ·simp [World.cell?,hc1,hx0]
   ·simp only [World.shape?,hc1,hcs]
   ·simp [World.frozen?,hc1]
   ·have hst:=store_exact (G:=GG w0 nG) (T:=Tab0) tab_ok hS (t:=79) (b:=0) (off:=0) (x:=.ptr 0 0) (v:=.pointer (some ⟨e.β 0,0,none⟩)) (l:=[.ptr 0 0]) (cs:=[.d .nilp,q]) (ty:=82) rfl (.ptr 0 0 hb) rfl rfl (by simp) (by intro h;cases h)
    rw [h2]
    exact ⟨h1,.tuple [] #[] rfl (fun i x u hx=>by simp at hx),hst.2,hst.1.toLater⟩
  ·cases hr0 with
   | ptr _ _ _ =>
   refine Calls.mono (copy_used (e.β 0) w (by simp [World.cell?,hc1,hx0])) fun en w' ⟨h1,h2⟩=>?_
   rw [h2]
   exact ⟨h1,.tuple [] #[] rfl (fun i x u hx=>by simp at hx),hS,Later.refl _ _ _⟩
 ·exact h.elim
theorem str_exact {P:Program} {ρ:Ren} (L:Lays.n169 P ρ) (X:Builder.Extra P ρ) (b g cap:Nat) (p:Value) (cur:Array Value) (fz:Nat×Nat) (l:Bs) (w:World) (h0:l≠[])
  (hbk:w.heap[b]?=some (.cells #[p,.slice (some ⟨g,0,none⟩) l.length cap] (ρ.t 72) (0,0))) (hg:w.heap[g]?=some (.cells cur (ρ.t 5) fz)) (hn:l.length≤cur.size) (hcap:cap≠0) (hbig:l.length≤9223372036854775807)
  (hcell:∀j x,l[j]?=some x→w.cell? ⟨g,j,none⟩=some (.int .u8 x.toNat)) :
  Calls P (ρ.f 169) #[.pointer (some ⟨b,0,none⟩)] w fun e w'=>e=.returned (.string ⟨l.toArray⟩)∧w'=w.drew.freeze ⟨g,0,none⟩ l.length:=by
 have c1:w.drew.cell? ⟨b,1,none⟩=some (.slice (some ⟨g,0,none⟩) l.length cap):=by
  have:w.drew.heap[b]?=some (.cells #[p,.slice (some ⟨g,0,none⟩) l.length cap] (ρ.t 72) (0,0)):=hbk
  rw [Go.Lib.cell_of_heap this];rfl
 have hSD:(Builtin.unsafeSliceData_ #[(ρ.t 37)] (ρ.t 127) #[.slice (some ⟨g,0,none⟩) l.length cap]).run P w.drew=.ok (.pointer (some ⟨g,0,none⟩)) w.drew :=
  Go.Lib.run_unsafeSliceData_row _ _ _ _ _ _ hcap
 have hUS:(Builtin.unsafeString_ #[(ρ.t 127),(ρ.t 3)] (ρ.t 9) #[.pointer (some ⟨g,0,none⟩),.int .i64 l.length]).run P w.drew=.ok (.string ⟨l.toArray⟩) (w.drew.freeze ⟨g,0,none⟩ l.length):=by
  refine Go.Lib.run_unsafeString_row w.drew (ρ.t 127) (ρ.t 3) (ρ.t 9) (ρ.t 5) L.t127 X.cellsByte g cur.size (by have hg':w.drew.heap[g]?=some (.cells cur (ρ.t 5) fz):=hg;simp [World.shape?,hg']) l h0 hn hbig ?_
  intro j x hx
  have:=hcell j x hx
  rw [add_addr,Nat.zero_add];exact this
 have mixed:=L.mixed
 have t72:=L.t72;have a72:=L.a72;have z72:=L.z72;have v72:=L.v72;have u72:=run_underlying L.t72
 have t70:=L.t70;have a70:=L.a70;have z70:=L.z70;have v70:=L.v70;have u70:=run_underlying L.t70
 have t37:=L.t37;have a37:=L.a37;have z37:=L.z37;have v37:=L.v37;have u37:=run_underlying L.t37
 have t127:=L.t127;have a127:=L.a127;have z127:=L.z127;have v127:=L.v127;have u127:=run_underlying L.t127
 have t3:=L.t3;have a3:=L.a3;have z3:=L.z3;have v3:=L.v3;have u3:=run_underlying L.t3
 have t9:=L.t9;have a9:=L.a9;have z9:=L.z9;have v9:=L.v9;have u9:=run_underlying L.t9
 have t5:=X.t5;have a5:=X.a5;have z5:=X.z5;have v5:=X.v5;have u5:=run_underlying X.t5
 go_enter L.f169,Body.n169_ntmps ρ
 go_wp2
 go_region_o
 all_goals (go_wp2;go_ret;exact ⟨rfl,rfl⟩)
theorem freeze_heap (w:World) (g n k:Nat) (hk:k≠g):(w.drew.freeze ⟨g,0,none⟩ n).heap[k]?=w.heap[k]?:=by
 unfold World.freeze
 split
 ·rfl
 ·simp only [Array.getElem?_modify];rw [if_neg (fun h=>hk h.symm)];rfl
theorem freeze_same (w:World) (g n:Nat) {cs:Array Value} {ty:TypeId} {fz:Nat×Nat} (h:w.heap[g]?=some (.cells cs ty fz)):∃fz',(w.drew.freeze ⟨g,0,none⟩ n).heap[g]?=some (.cells cs ty fz'):=by
 have h':w.drew.heap[g]?=some (.cells cs ty fz):=h
 unfold World.freeze
 split
 ·exact ⟨fz,h'⟩
 ·simp only [Array.getElem?_modify,if_true,h',Option.map_some]
  exact ⟨_,rfl⟩
theorem strike {G:GE} {e:Env} {w w':World} {t:TypeId} {p:PV} {rows:List (List D)} (hp:p=.d .nilp∨p=.ptr 0 0) (hS:SRel G e ⟨[.cells t [p,.sl 0 5 rows]],[0],1⟩ w)
  (hsz:w.heap.size≤w'.heap.size) (hos:w'.os=w.os) (htp:w'.tape=w.tape) (hout:w'.output=w.output)
  (hcell:∀b off u,w.cell? ⟨b,off,none⟩=some u→w'.cell? ⟨b,off,none⟩=some u)
  (hblk:∀b,b<w.heap.size→(∀q,e.M 0=some q→q.1≠b)→w'.heap[b]?=w.heap[b]?) :
  SRel G e ⟨[.cells t [p,.d (.sl rows)]],[],0⟩ w'∧Later e ⟨[.cells t [p,.sl 0 5 rows]],[0],1⟩ w e ⟨[.cells t [p,.d (.sl rows)]],[],0⟩ w':=by
 have hL:Later e ⟨[.cells t [p,.sl 0 5 rows]],[0],1⟩ w e ⟨[.cells t [p,.d (.sl rows)]],[],0⟩ w':={
  len:=Nat.le_refl _
  beta:=fun _ _=>rfl
  X:=rfl
  pres:=fun b off u hu ho=>⟨⟨ho.1,ho.2.1,fun x hx=>by cases hx⟩,hcell b off u hu⟩
  blocks:=fun b hb h1 h2=>hblk b hb fun q hq=>h2 0 (by simp) q hq
  size:=hsz
  os:=hos
  tape:=htp
  output:=hout
  fresh:=fun i h1 h2=>by simp at h1 h2;omega
  ftok:=fun x hx=>by cases hx }
 have hlt:=hS.lt (i:=0) (by simp)
 have hblk0:w'.heap[e.β 0]?=w.heap[e.β 0]?:=hblk _ hlt fun q hq=>fun h=>(hS.own 0 (by simp) q hq).2.1 0 (by simp) h.symm
 refine ⟨?_,hL⟩
 exact {
  inj:=hS.inj
  box:=fun i x hx=>by
   match i,hx with
   | 0,hx =>
    cases hx
    obtain ⟨cv,h1,h2,h3⟩:=hS.box 0 _ rfl
    refine ⟨cv,hblk0.trans h1,h2,fun j y u hy hu=>?_⟩
    match j,hy with
    | 0,hy =>
     cases hy
     obtain ⟨q1,q2⟩:=h3 0 p u rfl hu
     refine ⟨?_,q2⟩
     rcases hp with rfl | rfl
     ·cases q1 with
      | d _ _ hd=>exact .d _ _ (hd.later hL)
     ·cases q1 with
      | ptr b o hb=>exact .ptr 0 0 (by simp)
    | 1,hy =>
     cases hy
     obtain ⟨q1,q2⟩:=h3 1 (.sl 0 5 rows) u rfl hu
     refine ⟨?_,q2⟩
     cases q1 with
     | sl _ _ _ _ hn hd ht=>exact .d _ _ (hd.later hL)
    | j+2,hy=>simp at hy
   | i+1,hx=>simp at hx
  low:=hS.low
  tkn:=fun x hx=>by cases hx
  own:=fun x hx=>by cases hx
  dis:=fun x y hx=>by cases hx
  xlt:=fun b off hx=>Nat.lt_of_lt_of_le (hS.xlt b off hx) hsz
  xown:=fun x hx=>by cases hx
  glob:=fun b hb=>by
   rw [hblk b (Nat.lt_of_lt_of_le hb hS.big) fun q hq=>fun h=>by have:=(hS.own 0 (by simp) q hq).1;omega]
   exact hS.glob b hb
  big:=Nat.le_trans hS.big hsz }
theorem bytesR_len' (l:Bs):(bytesR l).length=l.length:=by simp [bytesR]
theorem info5:(Tryz.prog.info? 5).map (·.size)=some 1:=by kernel_rfl
theorem string_ok:PCalls (GG w0 nG) 31 spString:=pcalls_mach (enters_of Tryz.func31 (by kernel_rfl) rfl) fun args σ K h e w vs hS ha=>by
 unfold spString at h
 split at h
 ·rename_i t p el rows
  obtain ⟨l,⟨rfl,rfl,rfl,hp,hbig⟩,hK⟩:=h
  obtain ⟨u,rfl,hu⟩:=args1 ha
  obtain ⟨cv,hc1,hc2,hc3⟩:=hS.box 0 _ rfl
  have hcs:cv.size=2:=hc2
  obtain ⟨v0,v1,rfl⟩:∃v0 v1,cv=#[v0,v1]:=by
   obtain ⟨lst⟩:=cv
   match lst,hcs with
   | [a,b],_=>exact ⟨a,b,rfl⟩
  have hr1:=(hc3 1 (.sl 0 5 (bytesR l)) v1 rfl rfl).1
  cases hu with
  | ptr b off hb =>
  refine ⟨_,_,.string ⟨l.toArray⟩,hK,?_⟩
  have fin:∀w',w.heap.size≤w'.heap.size→w'.os=w.os→w'.tape=w.tape→w'.output=w.output →
    (∀b off u,w.cell? ⟨b,off,none⟩=some u→w'.cell? ⟨b,off,none⟩=some u) →
    (∀b,b<w.heap.size→(∀q,e.M 0=some q→q.1≠b)→w'.heap[b]?=w.heap[b]?) →
    VRel (GG w0 nG) e ⟨[.cells 82 [p,.d (.sl (bytesR l))]],[],0⟩ w' (.d (.str l)) (.string ⟨l.toArray⟩)∧SRel (GG w0 nG) e ⟨[.cells 82 [p,.d (.sl (bytesR l))]],[],0⟩ w'∧Later e ⟨[.cells 82 [p,.sl 0 5 (bytesR l)]],[0],1⟩ w e ⟨[.cells 82 [p,.d (.sl (bytesR l))]],[],0⟩ w':=fun w' h1 h2 h3 h4 h5 h6 =>
   ⟨.mkstr,strike hp hS h1 h2 h3 h4 h5 h6⟩
  have grown:∀w',Grows w w'→_:=fun w' g=>fin w' g.size g.os g.tape g.output (fun b off u hu=>(g.cell (cell_lt hu)).trans hu) (fun b hb _=>g.old b hb)
  cases hr1 with
  | sl _ _ _ _ hn hd ht =>
  rcases ht (by simp) with ⟨rfl,hrows,hM⟩ | ⟨sz,g1,g2,g3,g,off,cap,cs,ty,fz,rfl,g4,g5,g6,⟨g7,rfl,rfl,g8⟩,g9,hM⟩
  ·have hl:l=[]:=by simpa [bytesR] using hrows
   subst hl
   refine (Any.Builder_String_nil Tryz.lays169 Tryz.Builder_Extra_169 w.heap.size (e.β 0) v0 w hc1).mono fun en w' ⟨h1,h2⟩=>?_
   exact ⟨h1,grown w' (Grows.of_below h2)⟩
  ·have hsz1:sz=1:=by
    have:(Tryz.prog.info? 5).map (·.size)=some sz:=g1
    rw [info5] at this;cases this;rfl
   subst hsz1
   rw [bytesR_len'] at g5 hc1 g9 hM hd
   by_cases hl:l=[]
   ·subst hl
    refine (Any.Builder_String_room Tryz.lays169 Tryz.Builder_Extra_169 w.heap.size (e.β 0) g cap v0 w (by omega) hc1).mono fun en w' ⟨h1,h2⟩=>?_
    exact ⟨h1,grown w' (Grows.of_below h2)⟩
   ·have hcell:∀j x,l[j]?=some x→w.cell? ⟨g,j,none⟩=some (.int .u8 x.toNat):=by
     intro j x hx
     have hj:=(List.getElem?_eq_some_iff.1 hx).1
     have hrow:(bytesR l)[j]?=some [.int .u8 x.toNat]:=by simp [bytesR,hx]
     generalize hrr:bytesR l=rr at hd hrow
     have hlen:rr.length=l.length:=by rw [← hrr];simp [bytesR]
     generalize hvv:Value.slice (some ⟨g,0,none⟩) l.length cap=vv at hd
     cases hd with
     | slnil=>simp at hrow
     | slz=>simp at hrow
     | sl _ _ _ _ sz u hcap hsz hc ho hu =>
      simp only [Value.slice.injEq,Option.some.injEq,Addr.mk.injEq] at hvv
      obtain ⟨⟨rfl,rfl,_⟩,_,rfl⟩:=hvv
      have hsz':sz=1:=by
       have:=hsz _ (List.mem_of_getElem? hrow);simpa using this.symm
      subst hsz'
      have h1:=hc j 0 (by omega) (by omega)
      have h2:=hu j 0 (.int .u8 x.toNat) (by rw [hrow];rfl)
      generalize huu:u j 0=uu at h1 h2;cases h2
      simpa using h1
    obtain ⟨fz',hfz'⟩:=freeze_same w g l.length g6
    refine (str_exact Tryz.lays169 Tryz.Builder_Extra_169 (e.β 0) g cap v0 cs fz l w hl hc1 g6 (by omega) (by omega) (by omega) hcell).mono fun en w' ⟨h1,h2⟩=>?_
    rw [h2]
    refine ⟨h1,fin _ ?_ ?_ ?_ ?_ ?_ ?_⟩
    ·unfold World.freeze;split <;> first | exact Nat.le_refl _ | (simp only [Array.size_modify];exact Nat.le_refl _)
    ·unfold World.freeze;split <;> rfl
    ·unfold World.freeze;split <;> rfl
    ·unfold World.freeze;split <;> rfl
    ·intro b off u hu
     by_cases hbg:b=g
     ·subst hbg
      simp only [World.cell?,hfz',g6] at hu ⊢
      exact hu
     ·simpa [World.cell?,freeze_heap w g l.length b hbg] using hu
    ·intro b hb hq
     exact freeze_heap w g l.length b fun h=>hq _ hM h.symm
 ·exact h.elim
end Go.PM.Lex
end

section
set_option maxRecDepth 100000
namespace Go.PM.Lex
open Go.Proofs
variable {w0:World} {nG:Nat}
theorem orB (n:Fin 128):bitsOf .or .i32 (n.val:Int) 32=((n.val ||| 32:Nat):Int):=by rw [bitsOf_eq];revert n;decide +kernel
theorem orM:bitsOf .or .i32 (-1) 32=-1:=by rw [bitsOf_eq];decide +kernel
theorem orL:∀n:Fin 128,(97≤(n.val ||| 32)∧(n.val ||| 32)≤122)↔((97≤n.val∧n.val≤122)∨(65≤n.val∧n.val≤90)):=by decide +kernel
theorem or_letter {c:Int} (h0:-1≤c) (h1:c<128):(97≤bitsOf .or .i32 c 32∧bitsOf .or .i32 c 32≤122)↔((97≤c∧c≤122)∨(65≤c∧c≤90)):=by
 by_cases hc:c=-1
 ·subst hc;rw [orM];omega
 ·obtain ⟨n,rfl⟩:∃n:Nat,c=n:=⟨c.toNat,by omega⟩
  have hn:n<128:=by omega
  have h2:=orB ⟨n,hn⟩
  have h3:=orL ⟨n,hn⟩
  simp only at h2 h3
  rw [h2]
  omega
theorem K_bool {K:PEnd→St→Prop} {b b':Bool} {σ:St} (h:K (.ret (.d (.bool b))) σ) (h1:b=b'):K (.ret (.d (.bool b'))) σ:=by subst h1;exact h
theorem digit_ok:PCalls (GG w0 nG) 268 spDigit:=by
 refine pcalls tab_ok mixed (tbl:=[]) trivial Tryz.func268 rfl (by kernel_rfl) (by kernel_rfl) ?_
 ·intro args σ K h
  unfold spDigit at h
  split at h
  ·rename_i c
   refine ⟨loopsOf [],0,false,by decide,Nat.le_of_ble_eq_true rfl,?_⟩
   refine CondP.dec (fun h1=>?_) (fun h1=>?_)
   ·refine K_bool h ?_
    simp only [isDigit,decide_eq_decide];omega
   ·refine K_bool h ?_
    simp only [isDigit,decide_eq_false_iff_not];omega
  ·exact h.elim
theorem letter_ok:PCalls (GG w0 nG) 210 spLetter:=by
 refine pcalls tab_ok mixed (tbl:=[]) trivial Tryz.func210 rfl (by kernel_rfl) (by kernel_rfl) ?_
 ·intro args σ K h
  unfold spLetter at h
  split at h
  ·rename_i c
   obtain ⟨⟨h0,_⟩,h⟩:=h
   refine ⟨loopsOf [],0,false,by decide,Nat.le_of_ble_eq_true rfl,?_⟩
   repeat' ((conv=>whnf);refine CondP.dec (fun h1=>?_) (fun h1=>?_))
   all_goals (conv=>whnf)
   all_goals (try (have hl:=or_letter (c:=c) h0 (by omega)))
   all_goals (refine K_bool h ?_;simp only [isLetter,decide_eq_true_eq,decide_eq_false_iff_not,decide_eq_decide];omega)
  ·exact h.elim
end Go.PM.Lex
end

section
namespace Go.PM.Lex
theorem pre3 (r:Bs):Lib.hasPrefix r [239,191,189]=true↔2<r.length∧(r.getD 0 0).toNat=239∧(r.getD 1 0).toNat=191∧(r.getD 2 0).toNat=189:=by
 unfold Lib.hasPrefix
 match r with
 | []=>simp
 | [a]=>simp [List.isPrefixOf]
 | [a,b]=>simp [List.isPrefixOf]
 | a::b::c::l =>
  have ha:=UInt8.toNat_inj (a:=239) (b:=a)
  have hb:=UInt8.toNat_inj (a:=191) (b:=b)
  have hc:=UInt8.toNat_inj (a:=189) (b:=c)
  simp only [List.isPrefixOf,Bool.and_true,Bool.and_eq_true,beq_iff_eq,List.length_cons,List.getD_cons_zero,List.getD_cons_succ]
  rw [← ha,← hb,← hc]
  have e1:(239:UInt8).toNat=239:=rfl
  have e2:(191:UInt8).toNat=191:=rfl
  have e3:(189:UInt8).toNat=189:=rfl
  rw [e1,e2,e3]
  omega
theorem fffd (r:Bs) (hv:(Lib.decodeL r).1=65533):(Lib.hasPrefix r [239,191,189]=true∧(Lib.decodeL r).2=3)∨(¬Lib.hasPrefix r [239,191,189]=true∧(Lib.decodeL r).2=1):=by
 rw [pre3]
 rw [Lib.decodeL_N] at hv ⊢
 have k0:=(r.getD 0 0).toNat_lt
 have k1:=(r.getD 1 0).toNat_lt
 have k2:=(r.getD 2 0).toNat_lt
 have k3:=(r.getD 3 0).toNat_lt
 by_cases hp:2<r.length∧(r.getD 0 0).toNat=239∧(r.getD 1 0).toNat=191∧(r.getD 2 0).toNat=189
 ·left
  refine ⟨hp,?_⟩
  obtain ⟨p0,p1,p2,p3⟩:=hp
  rw [p1,p2,p3]
  unfold Lib.decodeN
  have hl:1<r.length:=by omega
  simp [p0,hl]
 ·right
  refine ⟨hp,?_⟩
  rcases Lib.decodeN_shape r.length (r.getD 0 0).toNat (r.getD 1 0).toNat (r.getD 2 0).toNat (r.getD 3 0).toNat with ⟨c,e⟩ | ⟨c1,c2,c3,cv,e⟩ | ⟨c1,c2,c3,c4,cv,cs,e⟩ | ⟨c1,c2,c3,c4,c5,cv,cw,e⟩ | e
  all_goals (rw [e] at hv)
  all_goals (dsimp only at hv)
  ·omega
  ·omega
  ·exact absurd ⟨c2,by omega,by omega,by omega⟩ hp
  ·omega
  ·rw [e]
theorem pk_nil:pk []=(-1,1):=by simp [pk]
theorem pk_plain (r:Bs) (h0:0<r.length) (hv:¬(Lib.decodeL r).1=65533):pk r=(((Lib.decodeL r).1:Int),(Lib.decodeL r).2):=by
 have hne:r≠[]:=fun h=>by subst h;simp at h0
 have:Lib.decodeL r≠(65533,1):=fun h=>hv (by rw [h])
 simp [pk,hne,this]
theorem pk_fffd (r:Bs) (h0:0<r.length) (hp:Lib.hasPrefix r [239,191,189]=true) (hv:(Lib.decodeL r).1=65533):pk r=(65533,3):=by
 have hne:r≠[]:=fun h=>by subst h;simp at h0
 rcases fffd r hv with ⟨_,h2⟩ | ⟨h1,_⟩
 ·have:Lib.decodeL r≠(65533,1):=fun h=>by rw [h] at h2;simp at h2
  simp [pk,hne,this,hv,h2]
 ·exact absurd hp h1
theorem pk_bad (r:Bs) (hp:¬Lib.hasPrefix r [239,191,189]=true) (hv:(Lib.decodeL r).1=65533):pk r=(-1,1):=by
 rcases fffd r hv with ⟨h1,h2⟩ | ⟨_,h2⟩
 ·exact absurd h1 hp
 ·have:Lib.decodeL r=(65533,1):=Prod.ext hv h2
  simp [pk,this]
theorem pk_len (r:Bs):1≤(pk r).2∧(pk r).2≤4:=by
 unfold pk
 split
 ·simp
 ·rename_i h
  simp only [not_or] at h
  simp only
  rw [Lib.decodeL_N]
  rcases Lib.decodeN_shape r.length (r.getD 0 0).toNat (r.getD 1 0).toNat (r.getD 2 0).toNat (r.getD 3 0).toNat with ⟨c,e⟩ | ⟨c1,c2,c3,cv,e⟩ | ⟨c1,c2,c3,c4,cv,cs,e⟩ | ⟨c1,c2,c3,c4,c5,cv,cw,e⟩ | e
  all_goals (rw [e];simp)
theorem pk_rng (r:Bs):-1≤(pk r).1∧(pk r).1≤1114111:=by
 unfold pk
 split
 ·simp
 ·simp only
  rw [Lib.decodeL_N]
  have k0:=(r.getD 0 0).toNat_lt
  rcases Lib.decodeN_shape r.length (r.getD 0 0).toNat (r.getD 1 0).toNat (r.getD 2 0).toNat (r.getD 3 0).toNat with ⟨c,e⟩ | ⟨c1,c2,c3,cv,e⟩ | ⟨c1,c2,c3,c4,cv,cs,e⟩ | ⟨c1,c2,c3,c4,c5,cv,cw,e⟩ | e
  all_goals (rw [e];dsimp only;omega)
theorem pk_le (r:Bs) (h:(pk r).1≠-1):1≤(pk r).2∧(pk r).2≤r.length∧r≠[]:=by
 have hl:=pk_len r
 unfold pk at h hl ⊢
 split at h
 ·exact absurd rfl h
 ·rename_i h1
  simp only [not_or] at h1
  rw [if_neg (by simp only [not_or];exact h1)] at hl ⊢
  exact ⟨hl.1,Lib.decodeL_le r h1.1,h1.1⟩
end Go.PM.Lex
end

section
set_option maxRecDepth 100000
namespace Go.PM.Lex
open Go.Proofs
variable {w0:World} {nG:Nat}
theorem cut_end {s:Bs} {n:Nat}:cut s n s.length=s.drop n:=by simp [cut]
noncomputable def tblPeek:Tbl:=[(266,spRuneLen),(267,spHasPrefix)]
theorem peek_ok (ht:TblOK (GG w0 nG) tblPeek):PCalls (GG w0 nG) 209 spPeek:=by
 refine pcalls tab_ok mixed ht Tryz.func209 rfl (by kernel_rfl) (by kernel_rfl) ?_
 intro args σ K h
 unfold spPeek at h
 split at h
 ·rename_i at' t s a
  obtain ⟨⟨h0,hs⟩,h⟩:=h
  refine ⟨loopsOf [(2,⟨[],[0,1,21],fun vs σ=>vs=[]∧σ=⟨[.cells t [.d (.str s),.d (.int .i64 a)],.iter (s.drop at'.toNat) 0],[],0⟩,fun _ _=>0⟩)],1,false,by simp,Nat.le_of_ble_eq_true rfl,?_⟩
  have hcut:cut s (min at' (s.length:Int)).toNat s.length=s.drop at'.toNat:=by
   rw [cut_end]
   by_cases hl:at'≤s.length
   ·rw [Int.min_eq_left hl]
   ·rw [Int.min_eq_right (by omega),List.drop_eq_nil_of_le (by omega),List.drop_eq_nil_of_le (by omega)]
  conv=>whnf
  refine ⟨by omega,?_⟩
  conv=>whnf
  refine ⟨by omega,?_⟩
  conv=>whnf
  refine ⟨⟨rfl,?_⟩,?_⟩
  ·rw [hcut];rfl
  intro vs σ1 hI
  obtain ⟨rfl,rfl⟩:=hI
  refine CondP.dec (fun h1=>?_) (fun h1=>?_)
  ·conv=>whnf
   refine CondP.ndec (fun h2=>?_) (fun h2=>?_)
   ·conv=>whnf
    rw [dec_eq] at h2
    have hl:0<(s.drop at'.toNat).length:=by simpa using h1
    rw [List.drop_zero] at h2
    have hne:¬(Lib.decodeL (s.drop at'.toNat)).1=65533:=by omega
    rw [pk_plain _ hl hne] at h
    rw [dec_eq,List.drop_zero]
    have hr:=Lib.runeLen_decode _ hne
    rw [hr]
    exact h
   ·conv=>whnf
    rw [dec_eq] at h2
    have hl:0<(s.drop at'.toNat).length:=by simpa using h1
    have hd:(Lib.decodeL (s.drop at'.toNat)).1=65533:=by rw [List.drop_zero] at h2;omega
    refine ⟨h0,by simp at hl;omega,?_⟩
    conv=>whnf
    refine CondP.intro (fun h3=>?_) (fun h3=>?_)
    ·conv=>whnf
     rw [cut_end] at h3
     rw [pk_fffd _ hl h3 hd] at h
     rw [dec_eq,List.drop_zero,hd]
     exact h
    ·conv=>whnf
     rw [cut_end] at h3
     rw [pk_bad _ (by rw [h3];simp) hd] at h
     exact h
  ·conv=>whnf
   have:s.drop at'.toNat=[]:=by simp at h1;exact List.drop_eq_nil_of_le (by omega)
   rw [this,pk_nil] at h
   exact h
 ·exact h.elim
end Go.PM.Lex
end

section
set_option maxRecDepth 100000
namespace Go.PM.Lex
open Go.Proofs
variable {w0:World} {nG:Nat}
def muI (B:Int):List PV→St→Nat:=fun vs _=>match vs with | .d (.int _ n)::_=>(B - n).toNat | _=>0
noncomputable def tblSign:Tbl:=[(267,spHasPrefix),(215,spIndexByte)]
theorem sign_ok (ht:TblOK (GG w0 nG) tblSign):PCalls (GG w0 nG) 279 spSign:=by
 refine pcalls tab_ok mixed ht Tryz.func279 rfl (by kernel_rfl) (by kernel_rfl) ?_
 intro args σ K h
 unfold spSign at h
 split at h
 ·rename_i t s a
  obtain ⟨⟨h0,h1,hs⟩,h⟩:=h
  refine ⟨loopsOf [(3,⟨[16],[0,3,15],fun vs σ=>σ=⟨[.cells t [.d (.str s),.d (.int .i64 a)]],[],0⟩∧∃i:Nat,i≤5∧vs=[.d (.int .i64 i)]∧(twos.take i).any (Lib.hasPrefix (s.drop a.toNat))=false,muI 5⟩)],1,false,by simp,Nat.le_of_ble_eq_true rfl,?_⟩
  conv=>whnf
  refine ⟨h0,by omega,?_⟩
  conv=>whnf
  rw [cut_end]
  refine ⟨⟨rfl,0,by omega,rfl,rfl⟩,?_⟩
  intro vs σ1 hI
  obtain ⟨rfl,i,hi,rfl,hn⟩:=hI
  match i,hi,hn with
  | 0,hi,hn =>
   conv=>whnf
   refine ⟨by omega,by omega,?_⟩
   conv=>whnf
   refine CondP.intro (fun h2=>?_) (fun h2=>?_)
   ·conv=>whnf
    have e:signF (s.drop a.toNat)=2:=by
     have:twos.any (Lib.hasPrefix (s.drop a.toNat))=true:=by simp [twos,h2]
     simp [signF,this]
    rw [e] at h
    exact h
   ·conv=>whnf
    refine Or.inl ⟨InR.i64 (by omega) (by omega),?_⟩
    conv=>whnf
    refine ⟨⟨rfl,1,by omega,rfl,?_⟩,?_⟩
    ·have h2':Lib.hasPrefix (s.drop a.toNat) (twos.getD 0 [])=false:=h2
     simp only [twos,List.take,List.any_cons,List.any_nil,Bool.or_false,Bool.or_eq_false_iff,List.getD_cons_zero,List.getD_cons_succ] at hn h2' ⊢
     simp only [hn,h2',and_self]
    ·exact (show (5 - (((0:Nat):Int)+1)).toNat<(5 - ((0:Nat):Int)).toNat by omega)
  | 1,hi,hn =>
   conv=>whnf
   refine ⟨by omega,by omega,?_⟩
   conv=>whnf
   refine CondP.intro (fun h2=>?_) (fun h2=>?_)
   ·conv=>whnf
    have e:signF (s.drop a.toNat)=2:=by
     have:twos.any (Lib.hasPrefix (s.drop a.toNat))=true:=by simp [twos,h2]
     simp [signF,this]
    rw [e] at h
    exact h
   ·conv=>whnf
    refine Or.inl ⟨InR.i64 (by omega) (by omega),?_⟩
    conv=>whnf
    refine ⟨⟨rfl,2,by omega,rfl,?_⟩,?_⟩
    ·have h2':Lib.hasPrefix (s.drop a.toNat) (twos.getD 1 [])=false:=h2
     simp only [twos,List.take,List.any_cons,List.any_nil,Bool.or_false,Bool.or_eq_false_iff,List.getD_cons_zero,List.getD_cons_succ] at hn h2' ⊢
     simp only [hn,h2',and_self]
    ·exact (show (5 - (((1:Nat):Int)+1)).toNat<(5 - ((1:Nat):Int)).toNat by omega)
  | 2,hi,hn =>
   conv=>whnf
   refine ⟨by omega,by omega,?_⟩
   conv=>whnf
   refine CondP.intro (fun h2=>?_) (fun h2=>?_)
   ·conv=>whnf
    have e:signF (s.drop a.toNat)=2:=by
     have:twos.any (Lib.hasPrefix (s.drop a.toNat))=true:=by simp [twos,h2]
     simp [signF,this]
    rw [e] at h
    exact h
   ·conv=>whnf
    refine Or.inl ⟨InR.i64 (by omega) (by omega),?_⟩
    conv=>whnf
    refine ⟨⟨rfl,3,by omega,rfl,?_⟩,?_⟩
    ·have h2':Lib.hasPrefix (s.drop a.toNat) (twos.getD 2 [])=false:=h2
     simp only [twos,List.take,List.any_cons,List.any_nil,Bool.or_false,Bool.or_eq_false_iff,List.getD_cons_zero,List.getD_cons_succ] at hn h2' ⊢
     simp only [hn,h2',and_self]
    ·exact (show (5 - (((2:Nat):Int)+1)).toNat<(5 - ((2:Nat):Int)).toNat by omega)
  | 3,hi,hn =>
   conv=>whnf
   refine ⟨by omega,by omega,?_⟩
   conv=>whnf
   refine CondP.intro (fun h2=>?_) (fun h2=>?_)
   ·conv=>whnf
    have e:signF (s.drop a.toNat)=2:=by
     have:twos.any (Lib.hasPrefix (s.drop a.toNat))=true:=by simp [twos,h2]
     simp [signF,this]
    rw [e] at h
    exact h
   ·conv=>whnf
    refine Or.inl ⟨InR.i64 (by omega) (by omega),?_⟩
    conv=>whnf
    refine ⟨⟨rfl,4,by omega,rfl,?_⟩,?_⟩
    ·have h2':Lib.hasPrefix (s.drop a.toNat) (twos.getD 3 [])=false:=h2
     simp only [twos,List.take,List.any_cons,List.any_nil,Bool.or_false,Bool.or_eq_false_iff,List.getD_cons_zero,List.getD_cons_succ] at hn h2' ⊢
     simp only [hn,h2',and_self]
    ·exact (show (5 - (((3:Nat):Int)+1)).toNat<(5 - ((3:Nat):Int)).toNat by omega)
  | 4,hi,hn =>
   conv=>whnf
   refine ⟨by omega,by omega,?_⟩
   conv=>whnf
   refine CondP.intro (fun h2=>?_) (fun h2=>?_)
   ·conv=>whnf
    have e:signF (s.drop a.toNat)=2:=by
     have:twos.any (Lib.hasPrefix (s.drop a.toNat))=true:=by simp [twos,h2]
     simp [signF,this]
    rw [e] at h
    exact h
   ·conv=>whnf
    refine Or.inl ⟨InR.i64 (by omega) (by omega),?_⟩
    conv=>whnf
    refine ⟨⟨rfl,5,by omega,rfl,?_⟩,?_⟩
    ·have h2':Lib.hasPrefix (s.drop a.toNat) (twos.getD 4 [])=false:=h2
     simp only [twos,List.take,List.any_cons,List.any_nil,Bool.or_false,Bool.or_eq_false_iff,List.getD_cons_zero,List.getD_cons_succ] at hn h2' ⊢
     simp only [hn,h2',and_self]
    ·exact (show (5 - (((4:Nat):Int)+1)).toNat<(5 - ((4:Nat):Int)).toNat by omega)
  | 5,hi,hn =>
   conv=>whnf
   refine ⟨by omega,by simp;omega,?_⟩
   conv=>whnf
   refine CondP.dec (fun h2=>?_) (fun h2=>?_)
   ·conv=>whnf
    have e:signF (s.drop a.toNat)=1:=by
     have hc:ones.contains ((s.drop a.toNat).getD 0 0)=true:=by
      rw [Lib.contains_iff_indexByte]
      simpa [ones] using h2
     rw [signF,if_neg (by simpa [twos] using hn),if_pos hc]
    rw [e] at h
    exact h
   ·conv=>whnf
    have e:signF (s.drop a.toNat)=0:=by
     have hc:ones.contains ((s.drop a.toNat).getD 0 0)=false:=by
      rw [Lib.contains_iff_indexByte]
      simpa [ones] using h2
     rw [signF,if_neg (by simpa [twos] using hn),if_neg (by rw [hc];simp)]
    rw [e] at h
    exact h
 ·exact h.elim
end Go.PM.Lex
end

section
set_option maxRecDepth 100000
namespace Go.PM.Lex
open Go.Proofs
variable {w0:World} {nG:Nat}
theorem isLetter_neg:isLetter (-1)=false:=by decide
theorem isDigit_neg:isDigit (-1)=false:=by decide
theorem nameGo_dot {f:Nat} {r:Bs} (h1:(pk r).1=46) (h2:isLetter (pk (r.drop 1)).1=true):nameGo (f+1) r=(pk r).2+nameGo f (r.drop (pk r).2):=by rw [nameGo,if_pos h1,if_pos h2]
theorem nameGo_dotend {f:Nat} {r:Bs} (h1:(pk r).1=46) (h2:isLetter (pk (r.drop 1)).1=false):nameGo (f+1) r=0:=by rw [nameGo,if_pos h1,if_neg (by rw [h2];simp)]
theorem nameGo_on {f:Nat} {r:Bs} (h1:¬(pk r).1=46) (h2:isLetter (pk r).1=true∨isDigit (pk r).1=true):nameGo (f+1) r=(pk r).2+nameGo f (r.drop (pk r).2):=by rw [nameGo,if_neg h1,if_pos h2]
theorem nameGo_end {f:Nat} {r:Bs} (h1:¬(pk r).1=46) (h2:isLetter (pk r).1=false) (h3:isDigit (pk r).1=false):nameGo (f+1) r=0:=by rw [nameGo,if_neg h1,if_neg (by simp [h2,h3])]
theorem cut_mid {s:Bs} {a b:Nat}:cut s a b=(s.drop a).take (b - a):=by simp [cut,List.drop_take]
noncomputable def tblName:Tbl:=[(209,spPeek),(210,spLetter),(268,spDigit)]
theorem name_ok (ht:TblOK (GG w0 nG) tblName):PCalls (GG w0 nG) 211 spName:=by
 refine pcalls tab_ok mixed ht Tryz.func211 rfl (by kernel_rfl) (by kernel_rfl) ?_
 intro args σ K h
 unfold spName at h
 split at h
 ·rename_i t s a
  obtain ⟨⟨h0,h1,hs⟩,h⟩:=h
  obtain ⟨a,rfl⟩:∃n:Nat,a=n:=⟨a.toNat,by omega⟩
  simp only [Int.toNat_natCast] at h
  refine ⟨loopsOf [(2,⟨[3],[0,2],fun vs σ=>σ=⟨[.cells t [.d (.str s),.d (.int .i64 a)],.cells 218 [.d (.int .u8 0),.d (.str []),.d (.int .i64 0),.d (.int .i64 0),.d (.int .i64 0)]],[],0⟩ ∧
   ∃e f:Nat,a≤e∧e≤s.length∧vs=[.d (.int .i64 e)]∧s.length<e+f∧e+nameGo f (s.drop e)=a+nameF (s.drop a),muI s.length⟩)],1,false,by simp,Nat.le_of_ble_eq_true rfl,?_⟩
  conv=>whnf
  refine ⟨⟨rfl,a,s.length - a+1,by omega,by omega,rfl,by omega,by simp [nameF]⟩,?_⟩
  intro vs σ1 hI
  obtain ⟨rfl,e,f,he1,he2,rfl,hf,hn⟩:=hI
  obtain ⟨f,rfl⟩:∃g,f=g+1:=⟨f - 1,by omega⟩
  have hpr:=pk_rng (s.drop e)
  have hpl:=pk_len (s.drop e)
  have hple:=pk_le (s.drop e)
  have hp2:=pk_rng (s.drop ((e:Int)+1).toNat)
  have hend:nameGo (f+1) (s.drop e)=0→K (.ret (tokPV 1 (cut s a e) 0 a e)) ⟨[.cells t [.d (.str s),.d (.int .i64 a)]],[],0⟩:=fun h3=>by
   have e2:nameF (s.drop a)=e - a:=by rw [h3] at hn;omega
   rw [e2,show (a:Int)+((e - a:Nat):Int)=(e:Int) by omega,← cut_mid] at h
   exact h
  have hgo:∀n:Nat,1≤n→e+n≤s.length→nameGo (f+1) (s.drop e)=n+nameGo f ((s.drop e).drop n)→a≤e+n∧e+n≤s.length∧s.length<(e+n)+f∧(e+n)+nameGo f (s.drop (e+n))=a+nameF (s.drop a):=fun n h1 h2 h3=>by
   rw [List.drop_drop] at h3
   exact ⟨by omega,h2,by omega,by rw [← hn,h3];omega⟩
  conv=>whnf
  refine ⟨⟨by omega,by omega⟩,?_⟩
  conv=>whnf
  refine CondP.dec (fun h2=>?_) (fun h2=>?_)
  ·conv=>whnf
   refine Or.inl ⟨InR.i64 (by omega) (by omega),?_⟩
   conv=>whnf
   refine ⟨⟨by omega,by omega⟩,?_⟩
   conv=>whnf
   refine ⟨⟨by omega,by omega⟩,?_⟩
   conv=>whnf
   have hw:((e:Int)+1).toNat=e+1:=by omega
   refine CondP.intro (fun h3=>?_) (fun h3=>?_)
   ·rw [hw] at h3
    conv=>whnf
    refine ⟨by omega,by omega,by omega,?_⟩
    conv=>whnf
    exact hend (nameGo_dotend h2 (by rw [List.drop_drop];simpa using h3))
   ·rw [hw] at h3
    conv=>whnf
    have hne:(pk (s.drop e)).1≠-1:=by have:(pk (s.drop e)).1=46:=h2;omega
    obtain ⟨g1,g2,g3⟩:=hple hne
    have g2':e+(pk (s.drop e)).2≤s.length:=by rw [List.length_drop] at g2;omega
    refine Or.inl ⟨InR.i64 (by simp only [Int.toNat_natCast];omega) (by simp only [Int.toNat_natCast];omega),?_⟩
    conv=>whnf
    obtain ⟨k1,k2,k3,k4⟩:=hgo _ g1 g2' (nameGo_dot h2 (by rw [List.drop_drop];simpa using h3))
    refine ⟨⟨rfl,e+(pk (s.drop e)).2,f,k1,k2,rfl,k3,k4⟩,?_⟩
    exact (show ((s.length:Int) - ((e:Int)+((pk (s.drop e)).2:Int))).toNat<((s.length:Int) - (e:Int)).toNat by omega)
  ·have h2':¬(pk (s.drop e)).1=46:=h2
   have fin:∀(h4:isLetter (pk (s.drop e)).1=true∨isDigit (pk (s.drop e)).1=true),a≤e+(pk (s.drop e)).2∧e+(pk (s.drop e)).2≤s.length∧s.length<(e+(pk (s.drop e)).2)+f∧(e+(pk (s.drop e)).2)+nameGo f (s.drop (e+(pk (s.drop e)).2))=a+nameF (s.drop a):=fun h4=>by
    have hne:(pk (s.drop e)).1≠-1:=fun h5=>by rw [h5,isLetter_neg,isDigit_neg] at h4;simp at h4
    obtain ⟨g1,g2,g3⟩:=hple hne
    have g2':e+(pk (s.drop e)).2≤s.length:=by rw [List.length_drop] at g2;omega
    exact hgo _ g1 g2' (nameGo_on h2' h4)
   conv=>whnf
   refine ⟨⟨hpr.1,by simp only [Int.toNat_natCast];omega⟩,?_⟩
   conv=>whnf
   refine CondP.intro (fun h3=>?_) (fun h3=>?_)
   ·have h3':isLetter (pk (s.drop e)).1=false:=by simpa using h3
    conv=>whnf
    refine CondP.intro (fun h4=>?_) (fun h4=>?_)
    ·have h4':isDigit (pk (s.drop e)).1=false:=by simpa using h4
     conv=>whnf
     refine ⟨by omega,by omega,by omega,?_⟩
     conv=>whnf
     exact hend (nameGo_end h2' h3' h4')
    ·have h4':isDigit (pk (s.drop e)).1=true:=by simpa using h4
     conv=>whnf
     obtain ⟨k1,k2,k3,k4⟩:=fin (.inr h4')
     refine Or.inl ⟨InR.i64 (by simp only [Int.toNat_natCast];omega) (by simp only [Int.toNat_natCast];omega),?_⟩
     conv=>whnf
     refine ⟨⟨rfl,e+(pk (s.drop e)).2,f,k1,k2,rfl,k3,k4⟩,?_⟩
     exact (show ((s.length:Int) - ((e:Int)+((pk (s.drop e)).2:Int))).toNat<((s.length:Int) - (e:Int)).toNat by omega)
   ·have h3':isLetter (pk (s.drop e)).1=true:=by simpa using h3
    conv=>whnf
    obtain ⟨k1,k2,k3,k4⟩:=fin (.inl h3')
    refine Or.inl ⟨InR.i64 (by simp only [Int.toNat_natCast];omega) (by simp only [Int.toNat_natCast];omega),?_⟩
    conv=>whnf
    refine ⟨⟨rfl,e+(pk (s.drop e)).2,f,k1,k2,rfl,k3,k4⟩,?_⟩
    exact (show ((s.length:Int) - ((e:Int)+((pk (s.drop e)).2:Int))).toNat<((s.length:Int) - (e:Int)).toNat by omega)
 ·exact h.elim
end Go.PM.Lex
end

section
set_option maxRecDepth 100000
namespace Go.PM.Lex
open Go.Proofs
variable {w0:World} {nG:Nat}
def muAt (B:Int):List PV→St→Nat:=fun _ σ=>match σ.bx with | .cells _ (_::.d (.int _ n)::_)::_=>(B - n).toNat | _=>0
theorem dropWhile_eq (p:UInt8→Bool):∀r:Bs,r.dropWhile p=r.drop (r.length - (r.dropWhile p).length)∧(r.dropWhile p).length≤r.length
 | []=>by simp
 | x::r=>by
  have ih:=dropWhile_eq p r
  by_cases hx:p x=true
  ·simp only [List.dropWhile_cons,hx,if_true,List.length_cons]
   refine ⟨?_,by omega⟩
   rw [show r.length+1 - (r.dropWhile p).length=(r.length - (r.dropWhile p).length)+1 by omega,List.drop_succ_cons]
   exact ih.1
  ·simp [List.dropWhile_cons,hx]
theorem indexByte_lt (c:UInt8):∀l:Bs,Lib.indexByte l c<l.length∨Lib.indexByte l c=-1
 | []=>.inr rfl
 | b::l=>by
  have ih:=indexByte_lt c l
  unfold Lib.indexByte
  split
  ·left;simp
  ·split
   ·exact .inr rfl
   ·rename_i h1 h2
    rcases ih with h | h
    ·left;simp;omega
    ·rw [h] at h2;simp at h2
theorem index_le (p:Bs):∀l:Bs,0≤Lib.index l p→Lib.index l p+p.length≤l.length
 | [],h=>by
  unfold Lib.index at h ⊢
  split at h
  ·rename_i hp
   simp at hp;subst hp;simp
  ·omega
 | b::l,h=>by
  have ih:=index_le p l
  unfold Lib.index at h ⊢
  split at h
  ·rename_i hp
   have:=List.IsPrefix.length_le (List.isPrefixOf_iff_prefix.1 hp)
   simp only [hp,if_true]
   simp only [List.length_cons] at this ⊢;omega
  ·split at h
   ·omega
   ·rename_i h1 h2
    have:=Lib.index_ge l p
    have h3:Lib.index l p≠-1:=by simpa using h2
    simp only [h1,h2,Bool.false_eq_true,if_false]
    have:=ih (by omega)
    simp only [List.length_cons];omega
theorem hasPrefix_two {r:Bs} {a b:UInt8} (h:Lib.hasPrefix r [a,b]=true):2≤r.length∧r=a::b::r.drop 2:=by
 obtain ⟨t,rfl⟩:=List.isPrefixOf_iff_prefix.1 h
 simp
theorem indexByte_two {r:Bs} {a b c:UInt8} (h:Lib.hasPrefix r [a,b]=true) (ha:a≠c) (hb:b≠c) (h0:0≤Lib.indexByte r c):2≤Lib.indexByte r c:=by
 rw [(hasPrefix_two h).2] at h0 ⊢
 have h1:(a == c)=false:=by simpa using ha
 have h2:(b == c)=false:=by simpa using hb
 have hg:=Lib.indexByte_ge (r.drop 2) c
 simp only [Lib.indexByte,h1,h2,Bool.false_eq_true,if_false] at h0 ⊢
 by_cases hm:Lib.indexByte (r.drop 2) c=-1
 ·rw [hm] at h0;simp at h0
 ·have hm':(Lib.indexByte (r.drop 2) c == -1)=false:=by simpa using hm
  simp only [hm',Bool.false_eq_true,if_false] at h0 ⊢
  have:(Lib.indexByte (r.drop 2) c+1 == -1)=false:=by simp;omega
  simp only [this,Bool.false_eq_true,if_false]
  omega
theorem ws_low:∀(j:Nat) (b:UInt8),([32,9,13,10]:Bs)[j]?=some b→b.toNat<128
 | 0,b,h=>by simp at h;subst h;decide
 | 1,b,h=>by simp at h;subst h;decide
 | 2,b,h=>by simp at h;subst h;decide
 | 3,b,h=>by simp at h;subst h;decide
 | j+4,b,h=>by simp at h
noncomputable def tblBlank:Tbl:=[(277,spTrimLeft),(267,spHasPrefix),(215,spIndexByte),(278,spIndex)]
theorem blank_ok (ht:TblOK (GG w0 nG) tblBlank):PCalls (GG w0 nG) 226 spBlank:=by
 refine pcalls tab_ok mixed ht Tryz.func226 rfl (by kernel_rfl) (by kernel_rfl) ?_
 intro args σ K h
 unfold spBlank at h
 split at h
 ·rename_i t s a
  obtain ⟨⟨h0,h1,hs⟩,h⟩:=h
  obtain ⟨a,rfl⟩:∃n:Nat,a=n:=⟨a.toNat,by omega⟩
  simp only [Int.toNat_natCast] at h
  refine ⟨loopsOf [(1,⟨[],[0],fun vs σ=>vs=[] ∧
   ∃e f:Nat,σ=⟨[.cells t [.d (.str s),.d (.int .i64 e)]],[],0⟩∧a≤e∧e≤s.length∧s.length<e+f∧(blankGo f (s.drop e)).1=(blankF (s.drop a)).1∧e+(blankGo f (s.drop e)).2=a+(blankF (s.drop a)).2,muAt s.length⟩)],1,false,by simp,Nat.le_of_ble_eq_true rfl,?_⟩
  conv=>whnf
  refine ⟨⟨rfl,a,s.length - a+1,rfl,by omega,by omega,by omega,by simp [blankF],by simp [blankF]⟩,?_⟩
  intro vs σ1 hI
  obtain ⟨rfl,e,f,rfl,he1,he2,hf,hn1,hn2⟩:=hI
  obtain ⟨f,rfl⟩:∃g,f=g+1:=⟨f - 1,by omega⟩
  conv=>whnf
  refine ⟨by omega,by omega,?_⟩
  conv=>whnf
  refine ⟨⟨by decide,ws_low⟩,?_⟩
  conv=>whnf
  generalize hrest0:Lib.trimLeftS (cut s _ _) _=rest
  have hrest:Lib.trimLeftS (s.drop e) [32,9,13,10]=rest:=by rw [cut_end] at hrest0;exact hrest0
  have hdw:=dropWhile_eq (([32,9,13,10]:Bs).contains ·) (s.drop e)
  have hr1:rest=(s.drop e).drop ((s.drop e).length - rest.length):=by rw [← hrest];exact hdw.1
  have hr2:rest.length≤(s.drop e).length:=by rw [← hrest];exact hdw.2
  rw [List.length_drop] at hr2
  have hr3:rest=s.drop (s.length - rest.length):=by
   rw [List.drop_drop,List.length_drop,show e+(s.length - e - rest.length)=s.length - rest.length by omega] at hr1
   exact hr1
  have hk:(s.drop e).length - rest.length=s.length - rest.length - e:=by rw [List.length_drop];omega
  have hgo:∀n:Nat,1≤n→n≤rest.length→blankGo (f+1) (s.drop e)=((blankGo f (rest.drop n)).1,(s.drop e).length - rest.length+n+(blankGo f (rest.drop n)).2) →
    a≤s.length - rest.length+n∧s.length - rest.length+n≤s.length∧s.length<(s.length - rest.length+n)+f∧(blankGo f (s.drop (s.length - rest.length+n))).1=(blankF (s.drop a)).1∧(s.length - rest.length+n)+(blankGo f (s.drop (s.length - rest.length+n))).2=a+(blankF (s.drop a)).2:=fun n g1 g2 g3=>by
   have g4:rest.drop n=s.drop (s.length - rest.length+n):=by rw [← List.drop_drop,← hr3]
   rw [g3,g4] at hn1 hn2
   simp only at hn1 hn2
   exact ⟨by omega,by omega,by omega,hn1,by omega⟩
  have hend:∀b:Bool,blankGo (f+1) (s.drop e)=(b,(s.drop e).length - rest.length)→K (.ret (.d (.bool b))) ⟨[.cells t [.d (.str s),.d (.int .i64 ((s.length:Int) - rest.length))]],[],0⟩:=fun b g=>by
   rw [g] at hn1 hn2
   simp only at hn1 hn2
   rw [← hn1,show (a:Int)+((blankF (s.drop a)).2:Int)=(s.length:Int) - rest.length by omega] at h
   exact h
  have bg1:Lib.hasPrefix rest [47,47]=true→blankGo (f+1) (s.drop e)=((blankGo f (rest.drop (if Lib.indexByte rest 10<0 then rest.length else (Lib.indexByte rest 10).toNat))).1,(s.drop e).length - rest.length+(if Lib.indexByte rest 10<0 then rest.length else (Lib.indexByte rest 10).toNat)+(blankGo f (rest.drop (if Lib.indexByte rest 10<0 then rest.length else (Lib.indexByte rest 10).toNat))).2):=fun g=>by
   simp only [blankGo,hrest,g,if_true]
  have bg2:Lib.hasPrefix rest [47,47]=false→Lib.hasPrefix rest [47,42]=true→Lib.index (rest.drop 2) [42,47]<0→blankGo (f+1) (s.drop e)=(false,(s.drop e).length - rest.length):=fun g1 g2 g3=>by
   simp only [blankGo,hrest,g1,g2,g3,if_true,Bool.false_eq_true,if_false]
  have bg3:Lib.hasPrefix rest [47,47]=false→Lib.hasPrefix rest [47,42]=true→¬Lib.index (rest.drop 2) [42,47]<0→blankGo (f+1) (s.drop e)=((blankGo f (rest.drop ((Lib.index (rest.drop 2) [42,47]).toNat+4))).1,(s.drop e).length - rest.length+((Lib.index (rest.drop 2) [42,47]).toNat+4)+(blankGo f (rest.drop ((Lib.index (rest.drop 2) [42,47]).toNat+4))).2):=fun g1 g2 g3=>by
   simp only [blankGo,hrest,g1,g2,g3,if_true,Bool.false_eq_true,if_false]
  have bg4:Lib.hasPrefix rest [47,47]=false→Lib.hasPrefix rest [47,42]=false→blankGo (f+1) (s.drop e)=(true,(s.drop e).length - rest.length):=fun g1 g2=>by
   simp only [blankGo,hrest,g1,g2,Bool.false_eq_true,if_false]
  refine Or.inl ⟨InR.i64 (by omega) (by omega),?_⟩
  conv=>whnf
  refine CondP.intro (fun h2=>?_) (fun h2=>?_)
  ·have h2':Lib.hasPrefix rest [47,47]=true:=h2
   have hrl:=(hasPrefix_two h2').1
   have bg:=bg1 h2'
   conv=>whnf
   have hge:=Lib.indexByte_ge rest 10
   have hlt:=indexByte_lt 10 rest
   have h22:=indexByte_two (c:=10) h2' (by decide) (by decide)
   refine CondP.dec (fun h3=>?_) (fun h3=>?_)
   ·have h3':Lib.indexByte rest 10<0:=h3
    simp only [h3',if_true] at bg
    conv=>whnf
    refine Or.inl ⟨InR.i64 (by omega) (by omega),?_⟩
    conv=>whnf
    obtain ⟨k1,k2,k3,k4,k5⟩:=hgo _ (by omega) (by omega) bg
    refine ⟨⟨rfl,_,f,?_,k1,k2,k3,k4,k5⟩,?_⟩
    ·rw [show (s.length:Int) - (rest.length:Int)+(rest.length:Int)=((s.length - rest.length+rest.length:Nat):Int) by omega];rfl
    ·exact (show ((s.length:Int) - ((s.length:Int) - (rest.length:Int)+(rest.length:Int))).toNat<((s.length:Int) - (e:Int)).toNat by omega)
   ·have h3':¬Lib.indexByte rest 10<0:=h3
    simp only [h3',if_false] at bg
    obtain ⟨n,hn⟩:∃n:Nat,Lib.indexByte rest 10=n:=⟨(Lib.indexByte rest 10).toNat,by omega⟩
    have hn':Lib.indexByte rest ((10:Int).toNat.toUInt8)=n:=hn
    conv=>whnf
    rw [hn']
    rw [hn] at h22 hlt
    rw [hn,Int.toNat_natCast] at bg
    refine Or.inl ⟨InR.i64 (by omega) (by omega),?_⟩
    conv=>whnf
    obtain ⟨k1,k2,k3,k4,k5⟩:=hgo _ (by omega) (by omega) bg
    refine ⟨⟨rfl,_,f,?_,k1,k2,k3,k4,k5⟩,?_⟩
    ·rw [show (s.length:Int) - (rest.length:Int)+(n:Int)=((s.length - rest.length+n:Nat):Int) by omega];rfl
    ·exact (show ((s.length:Int) - ((s.length:Int) - (rest.length:Int)+(n:Int))).toNat<((s.length:Int) - (e:Int)).toNat by omega)
  ·have h2':Lib.hasPrefix rest [47,47]=false:=h2
   conv=>whnf
   refine CondP.intro (fun h3=>?_) (fun h3=>?_)
   ·have h3':Lib.hasPrefix rest [47,42]=true:=h3
    have hrl:=(hasPrefix_two h3').1
    conv=>whnf
    refine ⟨by omega,by omega,?_⟩
    conv=>whnf
    rw [cut_end]
    have hdl:(rest.drop 2).length=rest.length - 2:=by simp
    refine ⟨by have:(rest.drop ((2:Int).toNat)).length=rest.length - 2:=hdl;omega,?_⟩
    conv=>whnf
    have hge:=Lib.index_ge (rest.drop 2) [42,47]
    have hle:=index_le [42,47] (rest.drop 2)
    simp only [List.length_cons,List.length_nil,hdl] at hle
    refine CondP.dec (fun h4=>?_) (fun h4=>?_)
    ·conv=>whnf
     exact hend _ (bg2 h2' h3' h4)
    ·have h4':¬Lib.index (rest.drop 2) [42,47]<0:=h4
     have bg:=bg3 h2' h3' h4'
     obtain ⟨n,hn⟩:∃n:Nat,Lib.index (rest.drop 2) [42,47]=n:=⟨(Lib.index (rest.drop 2) [42,47]).toNat,by omega⟩
     conv=>whnf
     generalize hi:Lib.index _ _=i
     have hi':i=n:=by rw [← hi];exact hn
     subst hi'
     rw [hn] at hle
     rw [hn,Int.toNat_natCast] at bg
     refine Or.inl ⟨InR.i64 (by omega) (by omega),?_⟩
     conv=>whnf
     refine Or.inl ⟨InR.i64 (by omega) (by omega),?_⟩
     conv=>whnf
     obtain ⟨k1,k2,k3,k4,k5⟩:=hgo _ (by omega) (by omega) bg
     refine ⟨⟨rfl,_,f,?_,k1,k2,k3,k4,k5⟩,?_⟩
     ·rw [show (s.length:Int) - (rest.length:Int)+((n:Int)+4)=((s.length - rest.length+(n+4):Nat):Int) by omega];rfl
     ·exact (show ((s.length:Int) - ((s.length:Int) - (rest.length:Int)+((n:Int)+4))).toNat<((s.length:Int) - (e:Int)).toNat by omega)
   ·conv=>whnf
    exact hend _ (bg4 h2' h3)
 ·exact h.elim
end Go.PM.Lex
end

section
set_option maxRecDepth 100000
set_option maxHeartbeats 4000000
namespace Go.PM.Lex
open Go.Proofs
variable {w0:World} {nG:Nat}
theorem orU (n:Fin 256):bitsOf .or .u8 (n.val:Int) 32=((n.val ||| 32:Nat):Int):=by rw [bitsOf_eq];revert n;decide +kernel
theorem orH:∀n:Fin 256,(97≤(n.val ||| 32)∧(n.val ||| 32)≤102)↔((97≤n.val∧n.val≤102)∨(65≤n.val∧n.val≤70)):=by decide +kernel
theorem or_hex (b:UInt8):(97≤bitsOf .or .u8 (b.toNat:Int) 32∧bitsOf .or .u8 (b.toNat:Int) 32≤102)↔((97≤b.toNat∧b.toNat≤102)∨(65≤b.toNat∧b.toNat≤70)):=by
 have h2:=orU ⟨b.toNat,b.toNat_lt⟩
 have h3:=orH ⟨b.toNat,b.toNat_lt⟩
 simp only at h2 h3
 rw [h2]
 omega
theorem takeWhile_take (p:UInt8→Bool):∀l:Bs,l.takeWhile p=l.take (l.takeWhile p).length
 | []=>rfl
 | x::l=>by
  by_cases h:p x=true
  ·simp only [List.takeWhile_cons,h,if_true,List.length_cons,List.take_succ_cons];rw [← takeWhile_take p l]
  ·simp [List.takeWhile_cons,h]
theorem takeWhile_all (p:UInt8→Bool):∀l:Bs,(l.takeWhile p).all p=true
 | []=>rfl
 | x::l=>by
  by_cases h:p x=true
  ·simp only [List.takeWhile_cons,h,if_true,List.all_cons,takeWhile_all p l,Bool.and_self]
  ·simp [List.takeWhile_cons,h]
theorem takeWhile_le (p:UInt8→Bool) (l:Bs):(l.takeWhile p).length≤l.length:=List.Sublist.length_le (List.takeWhile_sublist p)
theorem drop_at {s:Bs} {e:Nat} (h:e<s.length):s.drop e=s.getD e 0::s.drop (e+1):=by
 rw [List.drop_eq_getElem_cons h];simp [List.getD,h]
noncomputable def tblNumber:Tbl:=[(267,spHasPrefix),(268,spDigit),(312,spParseUint),(209,spPeek),(210,spLetter)]
theorem number_ok (ht:TblOK (GG w0 nG) tblNumber):PCalls (GG w0 nG) 281 spNumber:=by
 refine pcalls tab_ok mixed ht Tryz.func281 rfl (by kernel_rfl) (by kernel_rfl) ?_
 intro args σ K h
 unfold spNumber at h
 split at h
 ·rename_i t s a
  obtain ⟨⟨h0,h1,hs⟩,h⟩:=h
  obtain ⟨a,rfl⟩:∃n:Nat,a=n:=⟨a.toNat,by omega⟩
  simp only [Int.toNat_natCast] at h
  refine ⟨loopsOf [(5,⟨[5],[0,2,3,4,6],fun vs σ=>σ=⟨[.cells t [.d (.str s),.d (.int .i64 a)],.cells 218 [.d (.int .u8 0),.d (.str []),.d (.int .i64 0),.d (.int .i64 0),.d (.int .i64 0)],.cells 220 [.d (.int .i64 0),.d (.int .i64 0)]],[],0⟩ ∧
   ∃e:Nat,vs=[.d (.int .i64 e)]∧a+(if isHex (s.drop a) then 2 else 0)≤e∧e≤s.length∧e - (a+(if isHex (s.drop a) then 2 else 0))+((s.drop e).takeWhile (digB (isHex (s.drop a)))).length=(numDigits (s.drop a)).length,muI s.length⟩)],1,false,by simp,Nat.le_of_ble_eq_true rfl,?_⟩
  have hbad:numberF (s.drop a)=none→K (.ret (.tuple [tokPV 0 [] 0 0 0,fltPV a 142])) ⟨[.cells t [.d (.str s),.d (.int .i64 a)]],[],0⟩:=fun g=>by
   have e1:numberR a (s.drop a)=.bad a 142:=by rw [numberR,g]
   rw [e1] at h;exact h
  have hgood:∀n:Nat,numberF (s.drop a)=some n→K (.ret (.tuple [tokPV 2 [] (IntKind.i64.wrap n) a ((a+numLen (s.drop a):Nat):Int),fltPV 0 0])) ⟨[.cells t [.d (.str s),.d (.int .i64 a)]],[],0⟩:=fun n g=>by
   have e1:numberR a (s.drop a)=.tok ⟨2,[],IntKind.i64.wrap n,a,a+numLen (s.drop a)⟩:=by rw [numberR,g]
   rw [e1] at h;exact h
  conv=>whnf
  refine ⟨by omega,by omega,?_⟩
  conv=>whnf
  rw [cut_end]
  refine CondP.intro (fun hx=>?_) (fun hx=>?_)
  ·have hx':isHex (s.drop a)=true:=hx
   simp only [hx',if_true,Bool.false_eq_true,if_false]
   have hnd:numDigits (s.drop a)=(s.drop (a+2)).takeWhile (digB true):=by simp [numDigits,hx',List.drop_drop]
   have hnl:numLen (s.drop a)=2+(numDigits (s.drop a)).length:=by simp [numLen,hx']
   have hl2:=(hasPrefix_two hx).1
   rw [List.length_drop] at hl2
   conv=>whnf
   refine Or.inl ⟨InR.i64 (by omega) (by omega),?_⟩
   conv=>whnf
   refine ⟨⟨rfl,(a+2),rfl,by omega,by omega,by rw [hnd];simp⟩,?_⟩
   intro vs σ1 hI
   obtain ⟨rfl,e,rfl,he1,he2,hn⟩:=hI
   have htail:∀(g:((s.drop e).takeWhile (digB true)).length=0),e=a+numLen (s.drop a)∧numDigits (s.drop a)=cut s (a+2) e:=fun g=>by
    rw [g] at hn
    refine ⟨by omega,?_⟩
    rw [cut_mid,show e - (a+2)=(numDigits (s.drop a)).length by omega,hnd]
    exact takeWhile_take _ _
   have hall:(numDigits (s.drop a)).all (digB true)=true:=by rw [hnd];exact takeWhile_all _ _
   have hnlen:(numDigits (s.drop a)).length≤s.length:=by
    rw [hnd];have:=takeWhile_le (digB true) (s.drop (a+2));rw [List.length_drop] at this;omega
   conv=>whnf
   refine CondP.dec (fun h2=>?_) (fun h2=>?_)
   ·have h2':e<s.length:=by omega
    have hdr:=drop_at h2'
    have hb:=(s.getD e 0).toNat_lt
    have hstep:digB true (s.getD e 0)=true→e+1 - (a+2)+((s.drop (e+1)).takeWhile (digB true)).length=(numDigits (s.drop a)).length:=fun g=>by
     rw [← hn,hdr,List.takeWhile_cons,if_pos g,List.length_cons];omega
    have hstop:digB true (s.getD e 0)=false→((s.drop e).takeWhile (digB true)).length=0:=fun g=>by
     rw [hdr,List.takeWhile_cons,if_neg (by rw [g];simp)];rfl
    conv=>whnf
    refine ⟨by omega,by omega,?_⟩
    conv=>whnf
    refine Or.inl ⟨InR.i32 (by omega) (by simp only [Int.toNat_natCast];omega),?_⟩
    conv=>whnf
    refine CondP.intro (fun h3=>?_) (fun h3=>?_)
    ·conv=>whnf
     refine Or.inl ⟨InR.i64 (by omega) (by omega),?_⟩
     conv=>whnf
     refine ⟨⟨rfl,e+1,rfl,by omega,by omega,hstep (by have h3':isDigit ((s.getD e 0).toNat:Int)=true:=h3;simp only [digB,h3',Bool.true_or])⟩,?_⟩
     exact (show ((s.length:Int) - ((e:Int)+1)).toNat<((s.length:Int) - (e:Int)).toNat by omega)
    ·have h3':isDigit ((s.getD e 0).toNat:Int)=false:=h3
     conv=>whnf
     have hoh:=or_hex (s.getD e 0)
     refine CondP.dec (fun h4=>?_) (fun h4=>?_)
     ·conv=>whnf
      refine CondP.dec (fun h5=>?_) (fun h5=>?_)
      ·have hd:digB true (s.getD e 0)=true:=by
        have:=hoh.1 ⟨h4,h5⟩
        simp only [digB,h3',Bool.false_or,Bool.true_and,decide_eq_true_eq];omega
       conv=>whnf
       refine Or.inl ⟨InR.i64 (by omega) (by omega),?_⟩
       conv=>whnf
       refine ⟨⟨rfl,e+1,rfl,by omega,by omega,hstep hd⟩,?_⟩
       exact (show ((s.length:Int) - ((e:Int)+1)).toNat<((s.length:Int) - (e:Int)).toNat by omega)
      ·have hd:digB true (s.getD e 0)=false:=by
        have:¬((97≤(s.getD e 0).toNat∧(s.getD e 0).toNat≤102)∨(65≤(s.getD e 0).toNat∧(s.getD e 0).toNat≤70)):=fun g=>h5 (hoh.2 g).2
        simp only [digB,h3',Bool.false_or,Bool.true_and,decide_eq_false_iff_not];exact this
       have hst:=htail (hstop hd)
       conv=>whnf
       refine ⟨by omega,by omega,by omega,?_⟩
       conv=>whnf
       have hcut:cut s (((a:Int)+2)).toNat ((e:Int)).toNat=numDigits (s.drop a):=by rw [hst.2];congr 1 <;> omega
       refine ⟨true,⟨⟨?_,?_⟩,rfl,rfl⟩,fun h5 nn=>?_,fun h5=>?_⟩
       ·exact (congrArg (fun l:Bs=>l.all (digB true)=true) hcut).mpr hall
       ·exact (congrArg (fun l:Bs=>l.length<4294967281) hcut).mpr (show _<_ by omega)
       ·have h5':numDigits (s.drop a)=[]∨18446744073709551616≤numV 16 (numDigits (s.drop a)):=by rw [← hcut];exact h5
        have g5:numberF (s.drop a)=none:=by
         unfold numberF
         simp only [hx',if_true,Bool.false_eq_true,if_false]
         rcases h5' with g | g
         ·rw [if_pos g]
         ·by_cases g0:numDigits (s.drop a)=[]
          ·rw [if_pos g0]
          ·rw [if_neg g0,if_pos g]
        conv=>whnf
        refine ⟨⟨by omega,by omega⟩,?_⟩
        conv=>whnf
        (try (refine ⟨rfl,?_⟩;conv=>whnf))
        (try (refine ⟨rfl,?_⟩;conv=>whnf))
        exact hbad g5
       ·have h5':¬(numDigits (s.drop a)=[]∨18446744073709551616≤numV 16 (numDigits (s.drop a))):=by rw [← hcut];exact h5
        simp only [not_or] at h5'
        have hpr:=pk_rng (s.drop (a+numLen (s.drop a)))
        have hpr':=pk_rng (s.drop ((e:Int)).toNat)
        have hee:(pk (s.drop ((e:Int)).toNat)).1=(pk ((s.drop a).drop (numLen (s.drop a)))).1:=by rw [List.drop_drop,← hst.1];rfl
        have g6:numberF (s.drop a)=if isLetter (pk ((s.drop a).drop (numLen (s.drop a)))).1=true∨isDigit (pk ((s.drop a).drop (numLen (s.drop a)))).1=true∨(isHex (s.drop a)=true∧16<(numDigits (s.drop a)).length) then none else some (numV 16 (numDigits (s.drop a))):=by
         unfold numberF
         simp only [hx',if_true,Bool.false_eq_true,if_false]
         rw [if_neg h5'.1,if_neg h5'.2]
        conv=>whnf
        refine ⟨⟨by omega,by omega⟩,?_⟩
        conv=>whnf
        refine ⟨⟨hpr'.1,by omega⟩,?_⟩
        conv=>whnf
        refine CondP.intro (fun h6=>?_) (fun h6=>?_)
        ·conv=>whnf
         (try (refine ⟨rfl,?_⟩;conv=>whnf))
         (try (refine ⟨rfl,?_⟩;conv=>whnf))
         exact hbad (by rw [g6,if_pos (.inl (by rw [← hee];exact h6))])
        ·conv=>whnf
         refine CondP.intro (fun h7=>?_) (fun h7=>?_)
         ·conv=>whnf
          (try (refine ⟨rfl,?_⟩;conv=>whnf))
          (try (refine ⟨rfl,?_⟩;conv=>whnf))
          exact hbad (by rw [g6,if_pos (.inr (.inl (by rw [← hee];exact h7)))])
         ·have g7:¬isLetter (pk ((s.drop a).drop (numLen (s.drop a)))).1=true∧¬isDigit (pk ((s.drop a).drop (numLen (s.drop a)))).1=true:=by
           rw [← hee];exact ⟨by have h6':isLetter (pk (s.drop ((e:Int)).toNat)).1=false:=h6;rw [h6'];simp,by have h7':isDigit (pk (s.drop ((e:Int)).toNat)).1=false:=h7;rw [h7'];simp⟩
          conv=>whnf
          refine Or.inl ⟨InR.i64 (by omega) (by omega),?_⟩
          conv=>whnf
          refine CondP.dec (fun h8=>?_) (fun h8=>?_)
          ·conv=>whnf
           (try (refine ⟨rfl,?_⟩;conv=>whnf))
           (try (refine ⟨rfl,?_⟩;conv=>whnf))
           exact hbad (by rw [g6,if_pos (.inr (.inr ⟨hx',by omega⟩))])
          ·conv=>whnf
           have g9:=hgood _ (by rw [g6,if_neg (by simp only [not_or];exact ⟨g7.1,g7.2,by omega⟩)])
           rw [← hst.1,← hcut] at g9
           exact Or.inr g9
     ·have hd:digB true (s.getD e 0)=false:=by
       have:¬((97≤(s.getD e 0).toNat∧(s.getD e 0).toNat≤102)∨(65≤(s.getD e 0).toNat∧(s.getD e 0).toNat≤70)):=fun g=>h4 (hoh.2 g).1
       simp only [digB,h3',Bool.false_or,Bool.true_and,decide_eq_false_iff_not];exact this
      have hst:=htail (hstop hd)
      conv=>whnf
      refine ⟨by omega,by omega,by omega,?_⟩
      conv=>whnf
      have hcut:cut s (((a:Int)+2)).toNat ((e:Int)).toNat=numDigits (s.drop a):=by rw [hst.2];congr 1 <;> omega
      refine ⟨true,⟨⟨?_,?_⟩,rfl,rfl⟩,fun h5 nn=>?_,fun h5=>?_⟩
      ·exact (congrArg (fun l:Bs=>l.all (digB true)=true) hcut).mpr hall
      ·exact (congrArg (fun l:Bs=>l.length<4294967281) hcut).mpr (show _<_ by omega)
      ·have h5':numDigits (s.drop a)=[]∨18446744073709551616≤numV 16 (numDigits (s.drop a)):=by rw [← hcut];exact h5
       have g5:numberF (s.drop a)=none:=by
        unfold numberF
        simp only [hx',if_true,Bool.false_eq_true,if_false]
        rcases h5' with g | g
        ·rw [if_pos g]
        ·by_cases g0:numDigits (s.drop a)=[]
         ·rw [if_pos g0]
         ·rw [if_neg g0,if_pos g]
       conv=>whnf
       refine ⟨⟨by omega,by omega⟩,?_⟩
       conv=>whnf
       (try (refine ⟨rfl,?_⟩;conv=>whnf))
       (try (refine ⟨rfl,?_⟩;conv=>whnf))
       exact hbad g5
      ·have h5':¬(numDigits (s.drop a)=[]∨18446744073709551616≤numV 16 (numDigits (s.drop a))):=by rw [← hcut];exact h5
       simp only [not_or] at h5'
       have hpr:=pk_rng (s.drop (a+numLen (s.drop a)))
       have hpr':=pk_rng (s.drop ((e:Int)).toNat)
       have hee:(pk (s.drop ((e:Int)).toNat)).1=(pk ((s.drop a).drop (numLen (s.drop a)))).1:=by rw [List.drop_drop,← hst.1];rfl
       have g6:numberF (s.drop a)=if isLetter (pk ((s.drop a).drop (numLen (s.drop a)))).1=true∨isDigit (pk ((s.drop a).drop (numLen (s.drop a)))).1=true∨(isHex (s.drop a)=true∧16<(numDigits (s.drop a)).length) then none else some (numV 16 (numDigits (s.drop a))):=by
        unfold numberF
        simp only [hx',if_true,Bool.false_eq_true,if_false]
        rw [if_neg h5'.1,if_neg h5'.2]
       conv=>whnf
       refine ⟨⟨by omega,by omega⟩,?_⟩
       conv=>whnf
       refine ⟨⟨hpr'.1,by omega⟩,?_⟩
       conv=>whnf
       refine CondP.intro (fun h6=>?_) (fun h6=>?_)
       ·conv=>whnf
        (try (refine ⟨rfl,?_⟩;conv=>whnf))
        (try (refine ⟨rfl,?_⟩;conv=>whnf))
        exact hbad (by rw [g6,if_pos (.inl (by rw [← hee];exact h6))])
       ·conv=>whnf
        refine CondP.intro (fun h7=>?_) (fun h7=>?_)
        ·conv=>whnf
         (try (refine ⟨rfl,?_⟩;conv=>whnf))
         (try (refine ⟨rfl,?_⟩;conv=>whnf))
         exact hbad (by rw [g6,if_pos (.inr (.inl (by rw [← hee];exact h7)))])
        ·have g7:¬isLetter (pk ((s.drop a).drop (numLen (s.drop a)))).1=true∧¬isDigit (pk ((s.drop a).drop (numLen (s.drop a)))).1=true:=by
          rw [← hee];exact ⟨by have h6':isLetter (pk (s.drop ((e:Int)).toNat)).1=false:=h6;rw [h6'];simp,by have h7':isDigit (pk (s.drop ((e:Int)).toNat)).1=false:=h7;rw [h7'];simp⟩
         conv=>whnf
         refine Or.inl ⟨InR.i64 (by omega) (by omega),?_⟩
         conv=>whnf
         refine CondP.dec (fun h8=>?_) (fun h8=>?_)
         ·conv=>whnf
          (try (refine ⟨rfl,?_⟩;conv=>whnf))
          (try (refine ⟨rfl,?_⟩;conv=>whnf))
          exact hbad (by rw [g6,if_pos (.inr (.inr ⟨hx',by omega⟩))])
         ·conv=>whnf
          have g9:=hgood _ (by rw [g6,if_neg (by simp only [not_or];exact ⟨g7.1,g7.2,by omega⟩)])
          rw [← hst.1,← hcut] at g9
          exact Or.inr g9
   ·have hd0:((s.drop e).takeWhile (digB true)).length=0:=by rw [List.drop_eq_nil_of_le (by omega)];rfl
    have hst:=htail (hd0)
    conv=>whnf
    refine ⟨by omega,by omega,by omega,?_⟩
    conv=>whnf
    have hcut:cut s (((a:Int)+2)).toNat ((e:Int)).toNat=numDigits (s.drop a):=by rw [hst.2];congr 1 <;> omega
    refine ⟨true,⟨⟨?_,?_⟩,rfl,rfl⟩,fun h5 nn=>?_,fun h5=>?_⟩
    ·exact (congrArg (fun l:Bs=>l.all (digB true)=true) hcut).mpr hall
    ·exact (congrArg (fun l:Bs=>l.length<4294967281) hcut).mpr (show _<_ by omega)
    ·have h5':numDigits (s.drop a)=[]∨18446744073709551616≤numV 16 (numDigits (s.drop a)):=by rw [← hcut];exact h5
     have g5:numberF (s.drop a)=none:=by
      unfold numberF
      simp only [hx',if_true,Bool.false_eq_true,if_false]
      rcases h5' with g | g
      ·rw [if_pos g]
      ·by_cases g0:numDigits (s.drop a)=[]
       ·rw [if_pos g0]
       ·rw [if_neg g0,if_pos g]
     conv=>whnf
     refine ⟨⟨by omega,by omega⟩,?_⟩
     conv=>whnf
     (try (refine ⟨rfl,?_⟩;conv=>whnf))
     (try (refine ⟨rfl,?_⟩;conv=>whnf))
     exact hbad g5
    ·have h5':¬(numDigits (s.drop a)=[]∨18446744073709551616≤numV 16 (numDigits (s.drop a))):=by rw [← hcut];exact h5
     simp only [not_or] at h5'
     have hpr:=pk_rng (s.drop (a+numLen (s.drop a)))
     have hpr':=pk_rng (s.drop ((e:Int)).toNat)
     have hee:(pk (s.drop ((e:Int)).toNat)).1=(pk ((s.drop a).drop (numLen (s.drop a)))).1:=by rw [List.drop_drop,← hst.1];rfl
     have g6:numberF (s.drop a)=if isLetter (pk ((s.drop a).drop (numLen (s.drop a)))).1=true∨isDigit (pk ((s.drop a).drop (numLen (s.drop a)))).1=true∨(isHex (s.drop a)=true∧16<(numDigits (s.drop a)).length) then none else some (numV 16 (numDigits (s.drop a))):=by
      unfold numberF
      simp only [hx',if_true,Bool.false_eq_true,if_false]
      rw [if_neg h5'.1,if_neg h5'.2]
     conv=>whnf
     refine ⟨⟨by omega,by omega⟩,?_⟩
     conv=>whnf
     refine ⟨⟨hpr'.1,by omega⟩,?_⟩
     conv=>whnf
     refine CondP.intro (fun h6=>?_) (fun h6=>?_)
     ·conv=>whnf
      (try (refine ⟨rfl,?_⟩;conv=>whnf))
      (try (refine ⟨rfl,?_⟩;conv=>whnf))
      exact hbad (by rw [g6,if_pos (.inl (by rw [← hee];exact h6))])
     ·conv=>whnf
      refine CondP.intro (fun h7=>?_) (fun h7=>?_)
      ·conv=>whnf
       (try (refine ⟨rfl,?_⟩;conv=>whnf))
       (try (refine ⟨rfl,?_⟩;conv=>whnf))
       exact hbad (by rw [g6,if_pos (.inr (.inl (by rw [← hee];exact h7)))])
      ·have g7:¬isLetter (pk ((s.drop a).drop (numLen (s.drop a)))).1=true∧¬isDigit (pk ((s.drop a).drop (numLen (s.drop a)))).1=true:=by
        rw [← hee];exact ⟨by have h6':isLetter (pk (s.drop ((e:Int)).toNat)).1=false:=h6;rw [h6'];simp,by have h7':isDigit (pk (s.drop ((e:Int)).toNat)).1=false:=h7;rw [h7'];simp⟩
       conv=>whnf
       refine Or.inl ⟨InR.i64 (by omega) (by omega),?_⟩
       conv=>whnf
       refine CondP.dec (fun h8=>?_) (fun h8=>?_)
       ·conv=>whnf
        (try (refine ⟨rfl,?_⟩;conv=>whnf))
        (try (refine ⟨rfl,?_⟩;conv=>whnf))
        exact hbad (by rw [g6,if_pos (.inr (.inr ⟨hx',by omega⟩))])
       ·conv=>whnf
        have g9:=hgood _ (by rw [g6,if_neg (by simp only [not_or];exact ⟨g7.1,g7.2,by omega⟩)])
        rw [← hst.1,← hcut] at g9
        exact Or.inr g9
  ·have hx':isHex (s.drop a)=false:=hx
   simp only [hx',if_true,Bool.false_eq_true,if_false]
   have hnd:numDigits (s.drop a)=(s.drop (a+0)).takeWhile (digB false):=by simp [numDigits,hx',List.drop_drop]
   have hnl:numLen (s.drop a)=0+(numDigits (s.drop a)).length:=by simp [numLen,hx']
   conv=>whnf
   refine ⟨⟨rfl,a,rfl,by omega,by omega,by rw [hnd];simp⟩,?_⟩
   intro vs σ1 hI
   obtain ⟨rfl,e,rfl,he1,he2,hn⟩:=hI
   have htail:∀(g:((s.drop e).takeWhile (digB false)).length=0),e=a+numLen (s.drop a)∧numDigits (s.drop a)=cut s (a+0) e:=fun g=>by
    rw [g] at hn
    refine ⟨by omega,?_⟩
    rw [cut_mid,show e - (a+0)=(numDigits (s.drop a)).length by omega,hnd]
    exact takeWhile_take _ _
   have hall:(numDigits (s.drop a)).all (digB false)=true:=by rw [hnd];exact takeWhile_all _ _
   have hnlen:(numDigits (s.drop a)).length≤s.length:=by
    rw [hnd];have:=takeWhile_le (digB false) (s.drop (a+0));rw [List.length_drop] at this;omega
   conv=>whnf
   refine CondP.dec (fun h2=>?_) (fun h2=>?_)
   ·have h2':e<s.length:=by omega
    have hdr:=drop_at h2'
    have hb:=(s.getD e 0).toNat_lt
    have hstep:digB false (s.getD e 0)=true→e+1 - (a+0)+((s.drop (e+1)).takeWhile (digB false)).length=(numDigits (s.drop a)).length:=fun g=>by
     rw [← hn,hdr,List.takeWhile_cons,if_pos g,List.length_cons];omega
    have hstop:digB false (s.getD e 0)=false→((s.drop e).takeWhile (digB false)).length=0:=fun g=>by
     rw [hdr,List.takeWhile_cons,if_neg (by rw [g];simp)];rfl
    conv=>whnf
    refine ⟨by omega,by omega,?_⟩
    conv=>whnf
    refine Or.inl ⟨InR.i32 (by omega) (by simp only [Int.toNat_natCast];omega),?_⟩
    conv=>whnf
    refine CondP.intro (fun h3=>?_) (fun h3=>?_)
    ·conv=>whnf
     refine Or.inl ⟨InR.i64 (by omega) (by omega),?_⟩
     conv=>whnf
     refine ⟨⟨rfl,e+1,rfl,by omega,by omega,hstep (by have h3':isDigit ((s.getD e 0).toNat:Int)=true:=h3;simp only [digB,h3',Bool.true_or])⟩,?_⟩
     exact (show ((s.length:Int) - ((e:Int)+1)).toNat<((s.length:Int) - (e:Int)).toNat by omega)
    ·have h3':isDigit ((s.getD e 0).toNat:Int)=false:=h3
     conv=>whnf
     have hd:digB false (s.getD e 0)=false:=by simp only [digB,h3',Bool.false_and,Bool.or_false]
     have hst:=htail (hstop hd)
     conv=>whnf
     refine ⟨by omega,by omega,by omega,?_⟩
     conv=>whnf
     have hcut:cut s ((a:Int)).toNat ((e:Int)).toNat=numDigits (s.drop a):=by rw [hst.2];congr 1 <;> omega
     refine ⟨false,⟨⟨?_,?_⟩,rfl,rfl⟩,fun h5 nn=>?_,fun h5=>?_⟩
     ·exact (congrArg (fun l:Bs=>l.all (digB false)=true) hcut).mpr hall
     ·exact (congrArg (fun l:Bs=>l.length<4294967281) hcut).mpr (show _<_ by omega)
     ·have h5':numDigits (s.drop a)=[]∨9223372036854775808≤numV 10 (numDigits (s.drop a)):=by rw [← hcut];exact h5
      have g5:numberF (s.drop a)=none:=by
       unfold numberF
       simp only [hx',if_true,Bool.false_eq_true,if_false]
       rcases h5' with g | g
       ·rw [if_pos g]
       ·by_cases g0:numDigits (s.drop a)=[]
        ·rw [if_pos g0]
        ·rw [if_neg g0,if_pos g]
      conv=>whnf
      refine ⟨⟨by omega,by omega⟩,?_⟩
      conv=>whnf
      (try (refine ⟨rfl,?_⟩;conv=>whnf))
      (try (refine ⟨rfl,?_⟩;conv=>whnf))
      exact hbad g5
     ·have h5':¬(numDigits (s.drop a)=[]∨9223372036854775808≤numV 10 (numDigits (s.drop a))):=by rw [← hcut];exact h5
      simp only [not_or] at h5'
      have hpr:=pk_rng (s.drop (a+numLen (s.drop a)))
      have hpr':=pk_rng (s.drop ((e:Int)).toNat)
      have hee:(pk (s.drop ((e:Int)).toNat)).1=(pk ((s.drop a).drop (numLen (s.drop a)))).1:=by rw [List.drop_drop,← hst.1];rfl
      have g6:numberF (s.drop a)=if isLetter (pk ((s.drop a).drop (numLen (s.drop a)))).1=true∨isDigit (pk ((s.drop a).drop (numLen (s.drop a)))).1=true∨(isHex (s.drop a)=true∧16<(numDigits (s.drop a)).length) then none else some (numV 10 (numDigits (s.drop a))):=by
       unfold numberF
       simp only [hx',if_true,Bool.false_eq_true,if_false]
       rw [if_neg h5'.1,if_neg h5'.2]
      conv=>whnf
      refine ⟨⟨by omega,by omega⟩,?_⟩
      conv=>whnf
      refine ⟨⟨hpr'.1,by omega⟩,?_⟩
      conv=>whnf
      refine CondP.intro (fun h6=>?_) (fun h6=>?_)
      ·conv=>whnf
       (try (refine ⟨rfl,?_⟩;conv=>whnf))
       (try (refine ⟨rfl,?_⟩;conv=>whnf))
       exact hbad (by rw [g6,if_pos (.inl (by rw [← hee];exact h6))])
      ·conv=>whnf
       refine CondP.intro (fun h7=>?_) (fun h7=>?_)
       ·conv=>whnf
        (try (refine ⟨rfl,?_⟩;conv=>whnf))
        (try (refine ⟨rfl,?_⟩;conv=>whnf))
        exact hbad (by rw [g6,if_pos (.inr (.inl (by rw [← hee];exact h7)))])
       ·have g7:¬isLetter (pk ((s.drop a).drop (numLen (s.drop a)))).1=true∧¬isDigit (pk ((s.drop a).drop (numLen (s.drop a)))).1=true:=by
         rw [← hee];exact ⟨by have h6':isLetter (pk (s.drop ((e:Int)).toNat)).1=false:=h6;rw [h6'];simp,by have h7':isDigit (pk (s.drop ((e:Int)).toNat)).1=false:=h7;rw [h7'];simp⟩
        conv=>whnf
        have g9:=hgood _ (by rw [g6,if_neg (by simp only [not_or];exact ⟨g7.1,g7.2,by rw [hx'];simp⟩)])
        rw [← hst.1,← hcut] at g9
        exact Or.inr g9
   ·have hd0:((s.drop e).takeWhile (digB false)).length=0:=by rw [List.drop_eq_nil_of_le (by omega)];rfl
    have hst:=htail (hd0)
    conv=>whnf
    refine ⟨by omega,by omega,by omega,?_⟩
    conv=>whnf
    have hcut:cut s ((a:Int)).toNat ((e:Int)).toNat=numDigits (s.drop a):=by rw [hst.2];congr 1 <;> omega
    refine ⟨false,⟨⟨?_,?_⟩,rfl,rfl⟩,fun h5 nn=>?_,fun h5=>?_⟩
    ·exact (congrArg (fun l:Bs=>l.all (digB false)=true) hcut).mpr hall
    ·exact (congrArg (fun l:Bs=>l.length<4294967281) hcut).mpr (show _<_ by omega)
    ·have h5':numDigits (s.drop a)=[]∨9223372036854775808≤numV 10 (numDigits (s.drop a)):=by rw [← hcut];exact h5
     have g5:numberF (s.drop a)=none:=by
      unfold numberF
      simp only [hx',if_true,Bool.false_eq_true,if_false]
      rcases h5' with g | g
      ·rw [if_pos g]
      ·by_cases g0:numDigits (s.drop a)=[]
       ·rw [if_pos g0]
       ·rw [if_neg g0,if_pos g]
     conv=>whnf
     refine ⟨⟨by omega,by omega⟩,?_⟩
     conv=>whnf
     (try (refine ⟨rfl,?_⟩;conv=>whnf))
     (try (refine ⟨rfl,?_⟩;conv=>whnf))
     exact hbad g5
    ·have h5':¬(numDigits (s.drop a)=[]∨9223372036854775808≤numV 10 (numDigits (s.drop a))):=by rw [← hcut];exact h5
     simp only [not_or] at h5'
     have hpr:=pk_rng (s.drop (a+numLen (s.drop a)))
     have hpr':=pk_rng (s.drop ((e:Int)).toNat)
     have hee:(pk (s.drop ((e:Int)).toNat)).1=(pk ((s.drop a).drop (numLen (s.drop a)))).1:=by rw [List.drop_drop,← hst.1];rfl
     have g6:numberF (s.drop a)=if isLetter (pk ((s.drop a).drop (numLen (s.drop a)))).1=true∨isDigit (pk ((s.drop a).drop (numLen (s.drop a)))).1=true∨(isHex (s.drop a)=true∧16<(numDigits (s.drop a)).length) then none else some (numV 10 (numDigits (s.drop a))):=by
      unfold numberF
      simp only [hx',if_true,Bool.false_eq_true,if_false]
      rw [if_neg h5'.1,if_neg h5'.2]
     conv=>whnf
     refine ⟨⟨by omega,by omega⟩,?_⟩
     conv=>whnf
     refine ⟨⟨hpr'.1,by omega⟩,?_⟩
     conv=>whnf
     refine CondP.intro (fun h6=>?_) (fun h6=>?_)
     ·conv=>whnf
      (try (refine ⟨rfl,?_⟩;conv=>whnf))
      (try (refine ⟨rfl,?_⟩;conv=>whnf))
      exact hbad (by rw [g6,if_pos (.inl (by rw [← hee];exact h6))])
     ·conv=>whnf
      refine CondP.intro (fun h7=>?_) (fun h7=>?_)
      ·conv=>whnf
       (try (refine ⟨rfl,?_⟩;conv=>whnf))
       (try (refine ⟨rfl,?_⟩;conv=>whnf))
       exact hbad (by rw [g6,if_pos (.inr (.inl (by rw [← hee];exact h7)))])
      ·have g7:¬isLetter (pk ((s.drop a).drop (numLen (s.drop a)))).1=true∧¬isDigit (pk ((s.drop a).drop (numLen (s.drop a)))).1=true:=by
        rw [← hee];exact ⟨by have h6':isLetter (pk (s.drop ((e:Int)).toNat)).1=false:=h6;rw [h6'];simp,by have h7':isDigit (pk (s.drop ((e:Int)).toNat)).1=false:=h7;rw [h7'];simp⟩
       conv=>whnf
       have g9:=hgood _ (by rw [g6,if_neg (by simp only [not_or];exact ⟨g7.1,g7.2,by rw [hx'];simp⟩)])
       rw [← hst.1,← hcut] at g9
       exact Or.inr g9
 ·exact h.elim
end Go.PM.Lex
end
