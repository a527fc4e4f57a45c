/-
  A part of the proof: the texts VtC of this seat, joined.
-/
import Derived.Test.YtphjbeffckignaaGreatTab
import Derived.Test.YtphjbeffckignaaGreatAmG
import Derived.Test.YtphjbeffckignaaGreatProg
import Derived.ProofKit
open Go Go.Proofs Am
namespace Am.Vt
set_option maxRecDepth 1000000
def annAt (f i:Nat):List (Nat × Nat × Ann)→Ann
  | []=>{}
  | (g,j,a)::l=>bif Nat.beq f g&&Nat.beq i j then a else annAt f i l
def cloneAt (f:Nat):List (Nat × Nat)→Option Nat
  | []=>none
  | (g,e)::l=>bif Nat.beq f g then some e else cloneAt f l
def pinAt (g f:Nat) (b:Bool):List (Nat × Nat × Nat × Bool)→Bool
  | []=>b
  | (x,d,y,c)::l=>bif Nat.beq (g / 100000) x&&((Nat.beq d 0||Nat.beq (g % 100000) d)&&Nat.beq f y) then c else pinAt g f b l
def cfg : Cfg:={ pure:=fun k=>memN k pureL,clone:=fun k=>cloneAt k cloneL,drop:=fun k=>memN k dropL,grow:=fun k=>cloneAt k growL,pin:=fun g f b=>pinAt g f b pinL,ann:=fun f id=>annAt f id annL }
theorem c9 : cFunc Tryz.prog cfg 9=some f9:=by kernel_rfl
theorem c16 : cFunc Tryz.prog cfg 16=some f16:=by kernel_rfl
theorem c17 : cFunc Tryz.prog cfg 17=some f17:=by kernel_rfl
theorem c22 : cFunc Tryz.prog cfg 22=some f22:=by kernel_rfl
theorem c25 : cFunc Tryz.prog cfg 25=some f25:=by kernel_rfl
theorem c28 : cFunc Tryz.prog cfg 28=some f28:=by kernel_rfl
theorem c34 : cFunc Tryz.prog cfg 34=some f34:=by kernel_rfl
theorem c35 : cFunc Tryz.prog cfg 35=some f35:=by kernel_rfl
theorem c39 : cFunc Tryz.prog cfg 39=some f39:=by kernel_rfl
theorem c40 : cFunc Tryz.prog cfg 40=some f40:=by kernel_rfl
theorem c41 : cFunc Tryz.prog cfg 41=some f41:=by kernel_rfl
theorem c46 : cFunc Tryz.prog cfg 46=some f46:=by kernel_rfl
theorem c47 : cFunc Tryz.prog cfg 47=some f47:=by kernel_rfl
theorem c48 : cFunc Tryz.prog cfg 48=some f48:=by kernel_rfl
theorem c49 : cFunc Tryz.prog cfg 49=some f49:=by kernel_rfl
theorem c50 : cFunc Tryz.prog cfg 50=some f50:=by kernel_rfl
theorem c51 : cFunc Tryz.prog cfg 51=some f51:=by kernel_rfl
theorem c52 : cFunc Tryz.prog cfg 52=some f52:=by kernel_rfl
theorem c57 : cFunc Tryz.prog cfg 57=some f57:=by kernel_rfl
theorem c62 : cFunc Tryz.prog cfg 62=some f62:=by kernel_rfl
theorem c63 : cFunc Tryz.prog cfg 63=some f63:=by kernel_rfl
theorem c64 : cFunc Tryz.prog cfg 64=some f64:=by kernel_rfl
theorem c68 : cFunc Tryz.prog cfg 68=some f68:=by kernel_rfl
theorem c69 : cFunc Tryz.prog cfg 69=some f69:=by kernel_rfl
theorem c70 : cFunc Tryz.prog cfg 70=some f70:=by kernel_rfl
theorem c71 : cFunc Tryz.prog cfg 71=some f71:=by kernel_rfl
theorem c74 : cFunc Tryz.prog cfg 74=some f74:=by kernel_rfl
theorem c75 : cFunc Tryz.prog cfg 75=some f75:=by kernel_rfl
theorem c76 : cFunc Tryz.prog cfg 76=some f76:=by kernel_rfl
theorem c77 : cFunc Tryz.prog cfg 77=some f77:=by kernel_rfl
theorem c81 : cFunc Tryz.prog cfg 81=some f81:=by kernel_rfl
theorem c82 : cFunc Tryz.prog cfg 82=some f82:=by kernel_rfl
theorem c83 : cFunc Tryz.prog cfg 83=some f83:=by kernel_rfl
theorem c84 : cFunc Tryz.prog cfg 84=some f84:=by kernel_rfl
theorem c85 : cFunc Tryz.prog cfg 85=some f85:=by kernel_rfl
theorem c86 : cFunc Tryz.prog cfg 86=some f86:=by kernel_rfl
theorem c87 : cFunc Tryz.prog cfg 87=some f87:=by kernel_rfl
theorem c88 : cFunc Tryz.prog cfg 88=some f88:=by kernel_rfl
theorem c89 : cFunc Tryz.prog cfg 89=some f89:=by kernel_rfl
theorem c91 : cFunc Tryz.prog cfg 91=some f91:=by kernel_rfl
theorem c92 : cFunc Tryz.prog cfg 92=some f92:=by kernel_rfl
theorem c93 : cFunc Tryz.prog cfg 93=some f93:=by kernel_rfl
theorem c94 : cFunc Tryz.prog cfg 94=some f94:=by kernel_rfl
theorem c95 : cFunc Tryz.prog cfg 95=some f95:=by kernel_rfl
theorem c96 : cFunc Tryz.prog cfg 96=some f96:=by kernel_rfl
theorem c97 : cFunc Tryz.prog cfg 97=some f97:=by kernel_rfl
theorem c98 : cFunc Tryz.prog cfg 98=some f98:=by kernel_rfl
theorem c99 : cFunc Tryz.prog cfg 99=some f99:=by kernel_rfl
theorem c100 : cFunc Tryz.prog cfg 100=some f100:=by kernel_rfl
theorem c101 : cFunc Tryz.prog cfg 101=some f101:=by kernel_rfl
theorem c102 : cFunc Tryz.prog cfg 102=some f102:=by kernel_rfl
theorem c104 : cFunc Tryz.prog cfg 104=some f104:=by kernel_rfl
theorem c105 : cFunc Tryz.prog cfg 105=some f105:=by kernel_rfl
theorem c109 : cFunc Tryz.prog cfg 109=some f109:=by kernel_rfl
theorem c110 : cFunc Tryz.prog cfg 110=some f110:=by kernel_rfl
theorem c111 : cFunc Tryz.prog cfg 111=some f111:=by kernel_rfl
theorem c112 : cFunc Tryz.prog cfg 112=some f112:=by kernel_rfl
theorem c113 : cFunc Tryz.prog cfg 113=some f113:=by kernel_rfl
theorem c118 : cFunc Tryz.prog cfg 118=some f118:=by kernel_rfl
theorem c119 : cFunc Tryz.prog cfg 119=some f119:=by kernel_rfl
theorem c120 : cFunc Tryz.prog cfg 120=some f120:=by kernel_rfl
theorem c121 : cFunc Tryz.prog cfg 121=some f121:=by kernel_rfl
theorem c122 : cFunc Tryz.prog cfg 122=some f122:=by kernel_rfl
theorem c123 : cFunc Tryz.prog cfg 123=some f123:=by kernel_rfl
theorem c124 : cFunc Tryz.prog cfg 124=some f124:=by kernel_rfl
theorem c125 : cFunc Tryz.prog cfg 125=some f125:=by kernel_rfl
theorem c126 : cFunc Tryz.prog cfg 126=some f126:=by kernel_rfl
theorem c127 : cFunc Tryz.prog cfg 127=some f127:=by kernel_rfl
theorem c129 : cFunc Tryz.prog cfg 129=some f129:=by kernel_rfl
theorem c130 : cFunc Tryz.prog cfg 130=some f130:=by kernel_rfl
theorem c131 : cFunc Tryz.prog cfg 131=some f131:=by kernel_rfl
theorem c132 : cFunc Tryz.prog cfg 132=some f132:=by kernel_rfl
theorem c133 : cFunc Tryz.prog cfg 133=some f133:=by kernel_rfl
theorem c134 : cFunc Tryz.prog cfg 134=some f134:=by kernel_rfl
theorem c135 : cFunc Tryz.prog cfg 135=some f135:=by kernel_rfl
theorem c136 : cFunc Tryz.prog cfg 136=some f136:=by kernel_rfl
theorem c137 : cFunc Tryz.prog cfg 137=some f137:=by kernel_rfl
theorem c138 : cFunc Tryz.prog cfg 138=some f138:=by kernel_rfl
theorem c139 : cFunc Tryz.prog cfg 139=some f139:=by kernel_rfl
theorem c140 : cFunc Tryz.prog cfg 140=some f140:=by kernel_rfl
theorem c141 : cFunc Tryz.prog cfg 141=some f141:=by kernel_rfl
theorem c142 : cFunc Tryz.prog cfg 142=some f142:=by kernel_rfl
theorem c143 : cFunc Tryz.prog cfg 143=some f143:=by kernel_rfl
theorem c144 : cFunc Tryz.prog cfg 144=some f144:=by kernel_rfl
theorem c145 : cFunc Tryz.prog cfg 145=some f145:=by kernel_rfl
theorem c146 : cFunc Tryz.prog cfg 146=some f146:=by kernel_rfl
theorem c147 : cFunc Tryz.prog cfg 147=some f147:=by kernel_rfl
theorem c148 : cFunc Tryz.prog cfg 148=some f148:=by kernel_rfl
theorem c149 : cFunc Tryz.prog cfg 149=some f149:=by kernel_rfl
theorem c150 : cFunc Tryz.prog cfg 150=some f150:=by kernel_rfl
theorem c151 : cFunc Tryz.prog cfg 151=some f151:=by kernel_rfl
theorem c152 : cFunc Tryz.prog cfg 152=some f152:=by kernel_rfl
theorem c153 : cFunc Tryz.prog cfg 153=some f153:=by kernel_rfl
theorem c154 : cFunc Tryz.prog cfg 154=some f154:=by kernel_rfl
theorem c155 : cFunc Tryz.prog cfg 155=some f155:=by kernel_rfl
theorem c158 : cFunc Tryz.prog cfg 158=some f158:=by kernel_rfl
theorem c160 : cFunc Tryz.prog cfg 160=some f160:=by kernel_rfl
theorem c161 : cFunc Tryz.prog cfg 161=some f161:=by kernel_rfl
theorem c162 : cFunc Tryz.prog cfg 162=some f162:=by kernel_rfl
theorem c163 : cFunc Tryz.prog cfg 163=some f163:=by kernel_rfl
theorem c164 : cFunc Tryz.prog cfg 164=some f164:=by kernel_rfl
theorem c165 : cFunc Tryz.prog cfg 165=some f165:=by kernel_rfl
theorem c166 : cFunc Tryz.prog cfg 166=some f166:=by kernel_rfl
theorem c167 : cFunc Tryz.prog cfg 167=some f167:=by kernel_rfl
theorem c168 : cFunc Tryz.prog cfg 168=some f168:=by kernel_rfl
theorem c169 : cFunc Tryz.prog cfg 169=some f169:=by kernel_rfl
theorem c170 : cFunc Tryz.prog cfg 170=some f170:=by kernel_rfl
theorem c171 : cFunc Tryz.prog cfg 171=some f171:=by kernel_rfl
theorem c172 : cFunc Tryz.prog cfg 172=some f172:=by kernel_rfl
theorem c173 : cFunc Tryz.prog cfg 173=some f173:=by kernel_rfl
theorem c174 : cFunc Tryz.prog cfg 174=some f174:=by kernel_rfl
theorem c175 : cFunc Tryz.prog cfg 175=some f175:=by kernel_rfl
theorem c176 : cFunc Tryz.prog cfg 176=some f176:=by kernel_rfl
theorem c177 : cFunc Tryz.prog cfg 177=some f177:=by kernel_rfl
theorem c178 : cFunc Tryz.prog cfg 178=some f178:=by kernel_rfl
theorem c179 : cFunc Tryz.prog cfg 179=some f179:=by kernel_rfl
theorem c180 : cFunc Tryz.prog cfg 180=some f180:=by kernel_rfl
theorem c181 : cFunc Tryz.prog cfg 181=some f181:=by kernel_rfl
theorem c182 : cFunc Tryz.prog cfg 182=some f182:=by kernel_rfl
theorem c183 : cFunc Tryz.prog cfg 183=some f183:=by kernel_rfl
theorem c184 : cFunc Tryz.prog cfg 184=some f184:=by kernel_rfl
theorem c185 : cFunc Tryz.prog cfg 185=some f185:=by kernel_rfl
theorem c186 : cFunc Tryz.prog cfg 186=some f186:=by kernel_rfl
theorem c187 : cFunc Tryz.prog cfg 187=some f187:=by kernel_rfl
theorem c188 : cFunc Tryz.prog cfg 188=some f188:=by kernel_rfl
theorem c189 : cFunc Tryz.prog cfg 189=some f189:=by kernel_rfl
theorem c190 : cFunc Tryz.prog cfg 190=some f190:=by kernel_rfl
theorem c191 : cFunc Tryz.prog cfg 191=some f191:=by kernel_rfl
theorem c192 : cFunc Tryz.prog cfg 192=some f192:=by kernel_rfl
theorem c193 : cFunc Tryz.prog cfg 193=some f193:=by kernel_rfl
theorem c194 : cFunc Tryz.prog cfg 194=some f194:=by kernel_rfl
theorem hG : ∀k fn,tab k=some fn→cFunc Tryz.prog cfg k=some fn:=by
  intro k fn h
  match k,h with
  | 0,h=>exact absurd (show none=some fn from h) (by simp)
  | 1,h=>exact absurd (show none=some fn from h) (by simp)
  | 2,h=>exact absurd (show none=some fn from h) (by simp)
  | 3,h=>exact absurd (show none=some fn from h) (by simp)
  | 4,h=>exact absurd (show none=some fn from h) (by simp)
  | 5,h=>exact absurd (show none=some fn from h) (by simp)
  | 6,h=>exact absurd (show none=some fn from h) (by simp)
  | 7,h=>exact absurd (show none=some fn from h) (by simp)
  | 8,h=>exact absurd (show none=some fn from h) (by simp)
  | 9,h=>exact (show some f9=some fn from h) ▸ c9
  | 10,h=>exact absurd (show none=some fn from h) (by simp)
  | 11,h=>exact absurd (show none=some fn from h) (by simp)
  | 12,h=>exact absurd (show none=some fn from h) (by simp)
  | 13,h=>exact absurd (show none=some fn from h) (by simp)
  | 14,h=>exact absurd (show none=some fn from h) (by simp)
  | 15,h=>exact absurd (show none=some fn from h) (by simp)
  | 16,h=>exact (show some f16=some fn from h) ▸ c16
  | 17,h=>exact (show some f17=some fn from h) ▸ c17
  | 18,h=>exact absurd (show none=some fn from h) (by simp)
  | 19,h=>exact absurd (show none=some fn from h) (by simp)
  | 20,h=>exact absurd (show none=some fn from h) (by simp)
  | 21,h=>exact absurd (show none=some fn from h) (by simp)
  | 22,h=>exact (show some f22=some fn from h) ▸ c22
  | 23,h=>exact absurd (show none=some fn from h) (by simp)
  | 24,h=>exact absurd (show none=some fn from h) (by simp)
  | 25,h=>exact (show some f25=some fn from h) ▸ c25
  | 26,h=>exact absurd (show none=some fn from h) (by simp)
  | 27,h=>exact absurd (show none=some fn from h) (by simp)
  | 28,h=>exact (show some f28=some fn from h) ▸ c28
  | 29,h=>exact absurd (show none=some fn from h) (by simp)
  | 30,h=>exact absurd (show none=some fn from h) (by simp)
  | 31,h=>exact absurd (show none=some fn from h) (by simp)
  | 32,h=>exact absurd (show none=some fn from h) (by simp)
  | 33,h=>exact absurd (show none=some fn from h) (by simp)
  | 34,h=>exact (show some f34=some fn from h) ▸ c34
  | 35,h=>exact (show some f35=some fn from h) ▸ c35
  | 36,h=>exact absurd (show none=some fn from h) (by simp)
  | 37,h=>exact absurd (show none=some fn from h) (by simp)
  | 38,h=>exact absurd (show none=some fn from h) (by simp)
  | 39,h=>exact (show some f39=some fn from h) ▸ c39
  | 40,h=>exact (show some f40=some fn from h) ▸ c40
  | 41,h=>exact (show some f41=some fn from h) ▸ c41
  | 42,h=>exact absurd (show none=some fn from h) (by simp)
  | 43,h=>exact absurd (show none=some fn from h) (by simp)
  | 44,h=>exact absurd (show none=some fn from h) (by simp)
  | 45,h=>exact absurd (show none=some fn from h) (by simp)
  | 46,h=>exact (show some f46=some fn from h) ▸ c46
  | 47,h=>exact (show some f47=some fn from h) ▸ c47
  | 48,h=>exact (show some f48=some fn from h) ▸ c48
  | 49,h=>exact (show some f49=some fn from h) ▸ c49
  | 50,h=>exact (show some f50=some fn from h) ▸ c50
  | 51,h=>exact (show some f51=some fn from h) ▸ c51
  | 52,h=>exact (show some f52=some fn from h) ▸ c52
  | 53,h=>exact absurd (show none=some fn from h) (by simp)
  | 54,h=>exact absurd (show none=some fn from h) (by simp)
  | 55,h=>exact absurd (show none=some fn from h) (by simp)
  | 56,h=>exact absurd (show none=some fn from h) (by simp)
  | 57,h=>exact (show some f57=some fn from h) ▸ c57
  | 58,h=>exact absurd (show none=some fn from h) (by simp)
  | 59,h=>exact absurd (show none=some fn from h) (by simp)
  | 60,h=>exact absurd (show none=some fn from h) (by simp)
  | 61,h=>exact absurd (show none=some fn from h) (by simp)
  | 62,h=>exact (show some f62=some fn from h) ▸ c62
  | 63,h=>exact (show some f63=some fn from h) ▸ c63
  | 64,h=>exact (show some f64=some fn from h) ▸ c64
  | 65,h=>exact absurd (show none=some fn from h) (by simp)
  | 66,h=>exact absurd (show none=some fn from h) (by simp)
  | 67,h=>exact absurd (show none=some fn from h) (by simp)
  | 68,h=>exact (show some f68=some fn from h) ▸ c68
  | 69,h=>exact (show some f69=some fn from h) ▸ c69
  | 70,h=>exact (show some f70=some fn from h) ▸ c70
  | 71,h=>exact (show some f71=some fn from h) ▸ c71
  | 72,h=>exact absurd (show none=some fn from h) (by simp)
  | 73,h=>exact absurd (show none=some fn from h) (by simp)
  | 74,h=>exact (show some f74=some fn from h) ▸ c74
  | 75,h=>exact (show some f75=some fn from h) ▸ c75
  | 76,h=>exact (show some f76=some fn from h) ▸ c76
  | 77,h=>exact (show some f77=some fn from h) ▸ c77
  | 78,h=>exact absurd (show none=some fn from h) (by simp)
  | 79,h=>exact absurd (show none=some fn from h) (by simp)
  | 80,h=>exact absurd (show none=some fn from h) (by simp)
  | 81,h=>exact (show some f81=some fn from h) ▸ c81
  | 82,h=>exact (show some f82=some fn from h) ▸ c82
  | 83,h=>exact (show some f83=some fn from h) ▸ c83
  | 84,h=>exact (show some f84=some fn from h) ▸ c84
  | 85,h=>exact (show some f85=some fn from h) ▸ c85
  | 86,h=>exact (show some f86=some fn from h) ▸ c86
  | 87,h=>exact (show some f87=some fn from h) ▸ c87
  | 88,h=>exact (show some f88=some fn from h) ▸ c88
  | 89,h=>exact (show some f89=some fn from h) ▸ c89
  | 90,h=>exact absurd (show none=some fn from h) (by simp)
  | 91,h=>exact (show some f91=some fn from h) ▸ c91
  | 92,h=>exact (show some f92=some fn from h) ▸ c92
  | 93,h=>exact (show some f93=some fn from h) ▸ c93
  | 94,h=>exact (show some f94=some fn from h) ▸ c94
  | 95,h=>exact (show some f95=some fn from h) ▸ c95
  | 96,h=>exact (show some f96=some fn from h) ▸ c96
  | 97,h=>exact (show some f97=some fn from h) ▸ c97
  | 98,h=>exact (show some f98=some fn from h) ▸ c98
  | 99,h=>exact (show some f99=some fn from h) ▸ c99
  | 100,h=>exact (show some f100=some fn from h) ▸ c100
  | 101,h=>exact (show some f101=some fn from h) ▸ c101
  | 102,h=>exact (show some f102=some fn from h) ▸ c102
  | 103,h=>exact absurd (show none=some fn from h) (by simp)
  | 104,h=>exact (show some f104=some fn from h) ▸ c104
  | 105,h=>exact (show some f105=some fn from h) ▸ c105
  | 106,h=>exact absurd (show none=some fn from h) (by simp)
  | 107,h=>exact absurd (show none=some fn from h) (by simp)
  | 108,h=>exact absurd (show none=some fn from h) (by simp)
  | 109,h=>exact (show some f109=some fn from h) ▸ c109
  | 110,h=>exact (show some f110=some fn from h) ▸ c110
  | 111,h=>exact (show some f111=some fn from h) ▸ c111
  | 112,h=>exact (show some f112=some fn from h) ▸ c112
  | 113,h=>exact (show some f113=some fn from h) ▸ c113
  | 114,h=>exact absurd (show none=some fn from h) (by simp)
  | 115,h=>exact absurd (show none=some fn from h) (by simp)
  | 116,h=>exact absurd (show none=some fn from h) (by simp)
  | 117,h=>exact absurd (show none=some fn from h) (by simp)
  | 118,h=>exact (show some f118=some fn from h) ▸ c118
  | 119,h=>exact (show some f119=some fn from h) ▸ c119
  | 120,h=>exact (show some f120=some fn from h) ▸ c120
  | 121,h=>exact (show some f121=some fn from h) ▸ c121
  | 122,h=>exact (show some f122=some fn from h) ▸ c122
  | 123,h=>exact (show some f123=some fn from h) ▸ c123
  | 124,h=>exact (show some f124=some fn from h) ▸ c124
  | 125,h=>exact (show some f125=some fn from h) ▸ c125
  | 126,h=>exact (show some f126=some fn from h) ▸ c126
  | 127,h=>exact (show some f127=some fn from h) ▸ c127
  | 128,h=>exact absurd (show none=some fn from h) (by simp)
  | 129,h=>exact (show some f129=some fn from h) ▸ c129
  | 130,h=>exact (show some f130=some fn from h) ▸ c130
  | 131,h=>exact (show some f131=some fn from h) ▸ c131
  | 132,h=>exact (show some f132=some fn from h) ▸ c132
  | 133,h=>exact (show some f133=some fn from h) ▸ c133
  | 134,h=>exact (show some f134=some fn from h) ▸ c134
  | 135,h=>exact (show some f135=some fn from h) ▸ c135
  | 136,h=>exact (show some f136=some fn from h) ▸ c136
  | 137,h=>exact (show some f137=some fn from h) ▸ c137
  | 138,h=>exact (show some f138=some fn from h) ▸ c138
  | 139,h=>exact (show some f139=some fn from h) ▸ c139
  | 140,h=>exact (show some f140=some fn from h) ▸ c140
  | 141,h=>exact (show some f141=some fn from h) ▸ c141
  | 142,h=>exact (show some f142=some fn from h) ▸ c142
  | 143,h=>exact (show some f143=some fn from h) ▸ c143
  | 144,h=>exact (show some f144=some fn from h) ▸ c144
  | 145,h=>exact (show some f145=some fn from h) ▸ c145
  | 146,h=>exact (show some f146=some fn from h) ▸ c146
  | 147,h=>exact (show some f147=some fn from h) ▸ c147
  | 148,h=>exact (show some f148=some fn from h) ▸ c148
  | 149,h=>exact (show some f149=some fn from h) ▸ c149
  | 150,h=>exact (show some f150=some fn from h) ▸ c150
  | 151,h=>exact (show some f151=some fn from h) ▸ c151
  | 152,h=>exact (show some f152=some fn from h) ▸ c152
  | 153,h=>exact (show some f153=some fn from h) ▸ c153
  | 154,h=>exact (show some f154=some fn from h) ▸ c154
  | 155,h=>exact (show some f155=some fn from h) ▸ c155
  | 156,h=>exact absurd (show none=some fn from h) (by simp)
  | 157,h=>exact absurd (show none=some fn from h) (by simp)
  | 158,h=>exact (show some f158=some fn from h) ▸ c158
  | 159,h=>exact absurd (show none=some fn from h) (by simp)
  | 160,h=>exact (show some f160=some fn from h) ▸ c160
  | 161,h=>exact (show some f161=some fn from h) ▸ c161
  | 162,h=>exact (show some f162=some fn from h) ▸ c162
  | 163,h=>exact (show some f163=some fn from h) ▸ c163
  | 164,h=>exact (show some f164=some fn from h) ▸ c164
  | 165,h=>exact (show some f165=some fn from h) ▸ c165
  | 166,h=>exact (show some f166=some fn from h) ▸ c166
  | 167,h=>exact (show some f167=some fn from h) ▸ c167
  | 168,h=>exact (show some f168=some fn from h) ▸ c168
  | 169,h=>exact (show some f169=some fn from h) ▸ c169
  | 170,h=>exact (show some f170=some fn from h) ▸ c170
  | 171,h=>exact (show some f171=some fn from h) ▸ c171
  | 172,h=>exact (show some f172=some fn from h) ▸ c172
  | 173,h=>exact (show some f173=some fn from h) ▸ c173
  | 174,h=>exact (show some f174=some fn from h) ▸ c174
  | 175,h=>exact (show some f175=some fn from h) ▸ c175
  | 176,h=>exact (show some f176=some fn from h) ▸ c176
  | 177,h=>exact (show some f177=some fn from h) ▸ c177
  | 178,h=>exact (show some f178=some fn from h) ▸ c178
  | 179,h=>exact (show some f179=some fn from h) ▸ c179
  | 180,h=>exact (show some f180=some fn from h) ▸ c180
  | 181,h=>exact (show some f181=some fn from h) ▸ c181
  | 182,h=>exact (show some f182=some fn from h) ▸ c182
  | 183,h=>exact (show some f183=some fn from h) ▸ c183
  | 184,h=>exact (show some f184=some fn from h) ▸ c184
  | 185,h=>exact (show some f185=some fn from h) ▸ c185
  | 186,h=>exact (show some f186=some fn from h) ▸ c186
  | 187,h=>exact (show some f187=some fn from h) ▸ c187
  | 188,h=>exact (show some f188=some fn from h) ▸ c188
  | 189,h=>exact (show some f189=some fn from h) ▸ c189
  | 190,h=>exact (show some f190=some fn from h) ▸ c190
  | 191,h=>exact (show some f191=some fn from h) ▸ c191
  | 192,h=>exact (show some f192=some fn from h) ▸ c192
  | 193,h=>exact (show some f193=some fn from h) ▸ c193
  | 194,h=>exact (show some f194=some fn from h) ▸ c194
  | 195,h=>exact absurd (show none=some fn from h) (by simp)
  | 196,h=>exact absurd (show none=some fn from h) (by simp)
  | 197,h=>exact absurd (show none=some fn from h) (by simp)
  | 198,h=>exact absurd (show none=some fn from h) (by simp)
  | 199,h=>exact absurd (show none=some fn from h) (by simp)
  | 200,h=>exact absurd (show none=some fn from h) (by simp)
  | 201,h=>exact absurd (show none=some fn from h) (by simp)
  | 202,h=>exact absurd (show none=some fn from h) (by simp)
  | 203,h=>exact absurd (show none=some fn from h) (by simp)
  | 204,h=>exact absurd (show none=some fn from h) (by simp)
  | 205,h=>exact absurd (show none=some fn from h) (by simp)
  | 206,h=>exact absurd (show none=some fn from h) (by simp)
  | 207,h=>exact absurd (show none=some fn from h) (by simp)
  | 208,h=>exact absurd (show none=some fn from h) (by simp)
  | 209,h=>exact absurd (show none=some fn from h) (by simp)
  | 210,h=>exact absurd (show none=some fn from h) (by simp)
  | 211,h=>exact absurd (show none=some fn from h) (by simp)
  | k+212,h=>exact absurd (show none=some fn from h) (by simp)
theorem mixed : Tryz.prog.follows .mixedOrders=true:=by kernel_rfl
end Am.Vt
