/-
  A part of the proof: the texts VtC of this seat, joined.
-/
import Derived.Test.YtblekjhhceknaaaGreatTab
import Derived.Test.YtblekjhhceknaaaGreatAmG
import Derived.Test.YtblekjhhceknaaaGreatProg
import Derived.ProofKit
open Go Go.Proofs Am
namespace Am.Vt
set_option maxRecDepth 1000000
def annAt (f i:Nat):List (Nat × Nat × Ann)→Ann
  | []=>{}
  | (g,j,a)::l=>bif Nat.beq f g&&Nat.beq i j then a else annAt f i l
def cloneAt (f:Nat):List (Nat × Nat)→Option Nat
  | []=>none
  | (g,e)::l=>bif Nat.beq f g then some e else cloneAt f l
def pinAt (g f:Nat) (b:Bool):List (Nat × Nat × Nat × Bool)→Bool
  | []=>b
  | (x,d,y,c)::l=>bif Nat.beq (g / 100000) x&&((Nat.beq d 0||Nat.beq (g % 100000) d)&&Nat.beq f y) then c else pinAt g f b l
def cfg : Cfg:={ pure:=fun k=>memN k pureL,clone:=fun k=>cloneAt k cloneL,drop:=fun k=>memN k dropL,grow:=fun k=>cloneAt k growL,pin:=fun g f b=>pinAt g f b pinL,ann:=fun f id=>annAt f id annL }
theorem c11 : cFunc Tryz.prog cfg 11=some f11:=by kernel_rfl
theorem c14 : cFunc Tryz.prog cfg 14=some f14:=by kernel_rfl
theorem c16 : cFunc Tryz.prog cfg 16=some f16:=by kernel_rfl
theorem c17 : cFunc Tryz.prog cfg 17=some f17:=by kernel_rfl
theorem c18 : cFunc Tryz.prog cfg 18=some f18:=by kernel_rfl
theorem c20 : cFunc Tryz.prog cfg 20=some f20:=by kernel_rfl
theorem c22 : cFunc Tryz.prog cfg 22=some f22:=by kernel_rfl
theorem c25 : cFunc Tryz.prog cfg 25=some f25:=by kernel_rfl
theorem c26 : cFunc Tryz.prog cfg 26=some f26:=by kernel_rfl
theorem c27 : cFunc Tryz.prog cfg 27=some f27:=by kernel_rfl
theorem c29 : cFunc Tryz.prog cfg 29=some f29:=by kernel_rfl
theorem c30 : cFunc Tryz.prog cfg 30=some f30:=by kernel_rfl
theorem c32 : cFunc Tryz.prog cfg 32=some f32:=by kernel_rfl
theorem c34 : cFunc Tryz.prog cfg 34=some f34:=by kernel_rfl
theorem c35 : cFunc Tryz.prog cfg 35=some f35:=by kernel_rfl
theorem c38 : cFunc Tryz.prog cfg 38=some f38:=by kernel_rfl
theorem c39 : cFunc Tryz.prog cfg 39=some f39:=by kernel_rfl
theorem c40 : cFunc Tryz.prog cfg 40=some f40:=by kernel_rfl
theorem c44 : cFunc Tryz.prog cfg 44=some f44:=by kernel_rfl
theorem c45 : cFunc Tryz.prog cfg 45=some f45:=by kernel_rfl
theorem c50 : cFunc Tryz.prog cfg 50=some f50:=by kernel_rfl
theorem c51 : cFunc Tryz.prog cfg 51=some f51:=by kernel_rfl
theorem c52 : cFunc Tryz.prog cfg 52=some f52:=by kernel_rfl
theorem c55 : cFunc Tryz.prog cfg 55=some f55:=by kernel_rfl
theorem c59 : cFunc Tryz.prog cfg 59=some f59:=by kernel_rfl
theorem c60 : cFunc Tryz.prog cfg 60=some f60:=by kernel_rfl
theorem c61 : cFunc Tryz.prog cfg 61=some f61:=by kernel_rfl
theorem c62 : cFunc Tryz.prog cfg 62=some f62:=by kernel_rfl
theorem c66 : cFunc Tryz.prog cfg 66=some f66:=by kernel_rfl
theorem c67 : cFunc Tryz.prog cfg 67=some f67:=by kernel_rfl
theorem c68 : cFunc Tryz.prog cfg 68=some f68:=by kernel_rfl
theorem c69 : cFunc Tryz.prog cfg 69=some f69:=by kernel_rfl
theorem c70 : cFunc Tryz.prog cfg 70=some f70:=by kernel_rfl
theorem c71 : cFunc Tryz.prog cfg 71=some f71:=by kernel_rfl
theorem c72 : cFunc Tryz.prog cfg 72=some f72:=by kernel_rfl
theorem c73 : cFunc Tryz.prog cfg 73=some f73:=by kernel_rfl
theorem c74 : cFunc Tryz.prog cfg 74=some f74:=by kernel_rfl
theorem c75 : cFunc Tryz.prog cfg 75=some f75:=by kernel_rfl
theorem c76 : cFunc Tryz.prog cfg 76=some f76:=by kernel_rfl
theorem c77 : cFunc Tryz.prog cfg 77=some f77:=by kernel_rfl
theorem c78 : cFunc Tryz.prog cfg 78=some f78:=by kernel_rfl
theorem c79 : cFunc Tryz.prog cfg 79=some f79:=by kernel_rfl
theorem c80 : cFunc Tryz.prog cfg 80=some f80:=by kernel_rfl
theorem c81 : cFunc Tryz.prog cfg 81=some f81:=by kernel_rfl
theorem c82 : cFunc Tryz.prog cfg 82=some f82:=by kernel_rfl
theorem c83 : cFunc Tryz.prog cfg 83=some f83:=by kernel_rfl
theorem c84 : cFunc Tryz.prog cfg 84=some f84:=by kernel_rfl
theorem c85 : cFunc Tryz.prog cfg 85=some f85:=by kernel_rfl
theorem c86 : cFunc Tryz.prog cfg 86=some f86:=by kernel_rfl
theorem c87 : cFunc Tryz.prog cfg 87=some f87:=by kernel_rfl
theorem c88 : cFunc Tryz.prog cfg 88=some f88:=by kernel_rfl
theorem c89 : cFunc Tryz.prog cfg 89=some f89:=by kernel_rfl
theorem c90 : cFunc Tryz.prog cfg 90=some f90:=by kernel_rfl
theorem c91 : cFunc Tryz.prog cfg 91=some f91:=by kernel_rfl
theorem c92 : cFunc Tryz.prog cfg 92=some f92:=by kernel_rfl
theorem c93 : cFunc Tryz.prog cfg 93=some f93:=by kernel_rfl
theorem c94 : cFunc Tryz.prog cfg 94=some f94:=by kernel_rfl
theorem c95 : cFunc Tryz.prog cfg 95=some f95:=by kernel_rfl
theorem c98 : cFunc Tryz.prog cfg 98=some f98:=by kernel_rfl
theorem c99 : cFunc Tryz.prog cfg 99=some f99:=by kernel_rfl
theorem c100 : cFunc Tryz.prog cfg 100=some f100:=by kernel_rfl
theorem c101 : cFunc Tryz.prog cfg 101=some f101:=by kernel_rfl
theorem c102 : cFunc Tryz.prog cfg 102=some f102:=by kernel_rfl
theorem c103 : cFunc Tryz.prog cfg 103=some f103:=by kernel_rfl
theorem c104 : cFunc Tryz.prog cfg 104=some f104:=by kernel_rfl
theorem c105 : cFunc Tryz.prog cfg 105=some f105:=by kernel_rfl
theorem c106 : cFunc Tryz.prog cfg 106=some f106:=by kernel_rfl
theorem c107 : cFunc Tryz.prog cfg 107=some f107:=by kernel_rfl
theorem c108 : cFunc Tryz.prog cfg 108=some f108:=by kernel_rfl
theorem c110 : cFunc Tryz.prog cfg 110=some f110:=by kernel_rfl
theorem c111 : cFunc Tryz.prog cfg 111=some f111:=by kernel_rfl
theorem c113 : cFunc Tryz.prog cfg 113=some f113:=by kernel_rfl
theorem c114 : cFunc Tryz.prog cfg 114=some f114:=by kernel_rfl
theorem c115 : cFunc Tryz.prog cfg 115=some f115:=by kernel_rfl
theorem c116 : cFunc Tryz.prog cfg 116=some f116:=by kernel_rfl
theorem c118 : cFunc Tryz.prog cfg 118=some f118:=by kernel_rfl
theorem c120 : cFunc Tryz.prog cfg 120=some f120:=by kernel_rfl
theorem c121 : cFunc Tryz.prog cfg 121=some f121:=by kernel_rfl
theorem c122 : cFunc Tryz.prog cfg 122=some f122:=by kernel_rfl
theorem c123 : cFunc Tryz.prog cfg 123=some f123:=by kernel_rfl
theorem c124 : cFunc Tryz.prog cfg 124=some f124:=by kernel_rfl
theorem c125 : cFunc Tryz.prog cfg 125=some f125:=by kernel_rfl
theorem c126 : cFunc Tryz.prog cfg 126=some f126:=by kernel_rfl
theorem c127 : cFunc Tryz.prog cfg 127=some f127:=by kernel_rfl
theorem c128 : cFunc Tryz.prog cfg 128=some f128:=by kernel_rfl
theorem c129 : cFunc Tryz.prog cfg 129=some f129:=by kernel_rfl
theorem c130 : cFunc Tryz.prog cfg 130=some f130:=by kernel_rfl
theorem c131 : cFunc Tryz.prog cfg 131=some f131:=by kernel_rfl
theorem c132 : cFunc Tryz.prog cfg 132=some f132:=by kernel_rfl
theorem c133 : cFunc Tryz.prog cfg 133=some f133:=by kernel_rfl
theorem c134 : cFunc Tryz.prog cfg 134=some f134:=by kernel_rfl
theorem c135 : cFunc Tryz.prog cfg 135=some f135:=by kernel_rfl
theorem c136 : cFunc Tryz.prog cfg 136=some f136:=by kernel_rfl
theorem c137 : cFunc Tryz.prog cfg 137=some f137:=by kernel_rfl
theorem c138 : cFunc Tryz.prog cfg 138=some f138:=by kernel_rfl
theorem c139 : cFunc Tryz.prog cfg 139=some f139:=by kernel_rfl
theorem c140 : cFunc Tryz.prog cfg 140=some f140:=by kernel_rfl
theorem c141 : cFunc Tryz.prog cfg 141=some f141:=by kernel_rfl
theorem c142 : cFunc Tryz.prog cfg 142=some f142:=by kernel_rfl
theorem c143 : cFunc Tryz.prog cfg 143=some f143:=by kernel_rfl
theorem c144 : cFunc Tryz.prog cfg 144=some f144:=by kernel_rfl
theorem c145 : cFunc Tryz.prog cfg 145=some f145:=by kernel_rfl
theorem c146 : cFunc Tryz.prog cfg 146=some f146:=by kernel_rfl
theorem c147 : cFunc Tryz.prog cfg 147=some f147:=by kernel_rfl
theorem c148 : cFunc Tryz.prog cfg 148=some f148:=by kernel_rfl
theorem c149 : cFunc Tryz.prog cfg 149=some f149:=by kernel_rfl
theorem c150 : cFunc Tryz.prog cfg 150=some f150:=by kernel_rfl
theorem hG : ∀k fn,tab k=some fn→cFunc Tryz.prog cfg k=some fn:=by
  intro k fn h
  match k,h with
  | 0,h=>exact absurd (show none=some fn from h) (by simp)
  | 1,h=>exact absurd (show none=some fn from h) (by simp)
  | 2,h=>exact absurd (show none=some fn from h) (by simp)
  | 3,h=>exact absurd (show none=some fn from h) (by simp)
  | 4,h=>exact absurd (show none=some fn from h) (by simp)
  | 5,h=>exact absurd (show none=some fn from h) (by simp)
  | 6,h=>exact absurd (show none=some fn from h) (by simp)
  | 7,h=>exact absurd (show none=some fn from h) (by simp)
  | 8,h=>exact absurd (show none=some fn from h) (by simp)
  | 9,h=>exact absurd (show none=some fn from h) (by simp)
  | 10,h=>exact absurd (show none=some fn from h) (by simp)
  | 11,h=>exact (show some f11=some fn from h) ▸ c11
  | 12,h=>exact absurd (show none=some fn from h) (by simp)
  | 13,h=>exact absurd (show none=some fn from h) (by simp)
  | 14,h=>exact (show some f14=some fn from h) ▸ c14
  | 15,h=>exact absurd (show none=some fn from h) (by simp)
  | 16,h=>exact (show some f16=some fn from h) ▸ c16
  | 17,h=>exact (show some f17=some fn from h) ▸ c17
  | 18,h=>exact (show some f18=some fn from h) ▸ c18
  | 19,h=>exact absurd (show none=some fn from h) (by simp)
  | 20,h=>exact (show some f20=some fn from h) ▸ c20
  | 21,h=>exact absurd (show none=some fn from h) (by simp)
  | 22,h=>exact (show some f22=some fn from h) ▸ c22
  | 23,h=>exact absurd (show none=some fn from h) (by simp)
  | 24,h=>exact absurd (show none=some fn from h) (by simp)
  | 25,h=>exact (show some f25=some fn from h) ▸ c25
  | 26,h=>exact (show some f26=some fn from h) ▸ c26
  | 27,h=>exact (show some f27=some fn from h) ▸ c27
  | 28,h=>exact absurd (show none=some fn from h) (by simp)
  | 29,h=>exact (show some f29=some fn from h) ▸ c29
  | 30,h=>exact (show some f30=some fn from h) ▸ c30
  | 31,h=>exact absurd (show none=some fn from h) (by simp)
  | 32,h=>exact (show some f32=some fn from h) ▸ c32
  | 33,h=>exact absurd (show none=some fn from h) (by simp)
  | 34,h=>exact (show some f34=some fn from h) ▸ c34
  | 35,h=>exact (show some f35=some fn from h) ▸ c35
  | 36,h=>exact absurd (show none=some fn from h) (by simp)
  | 37,h=>exact absurd (show none=some fn from h) (by simp)
  | 38,h=>exact (show some f38=some fn from h) ▸ c38
  | 39,h=>exact (show some f39=some fn from h) ▸ c39
  | 40,h=>exact (show some f40=some fn from h) ▸ c40
  | 41,h=>exact absurd (show none=some fn from h) (by simp)
  | 42,h=>exact absurd (show none=some fn from h) (by simp)
  | 43,h=>exact absurd (show none=some fn from h) (by simp)
  | 44,h=>exact (show some f44=some fn from h) ▸ c44
  | 45,h=>exact (show some f45=some fn from h) ▸ c45
  | 46,h=>exact absurd (show none=some fn from h) (by simp)
  | 47,h=>exact absurd (show none=some fn from h) (by simp)
  | 48,h=>exact absurd (show none=some fn from h) (by simp)
  | 49,h=>exact absurd (show none=some fn from h) (by simp)
  | 50,h=>exact (show some f50=some fn from h) ▸ c50
  | 51,h=>exact (show some f51=some fn from h) ▸ c51
  | 52,h=>exact (show some f52=some fn from h) ▸ c52
  | 53,h=>exact absurd (show none=some fn from h) (by simp)
  | 54,h=>exact absurd (show none=some fn from h) (by simp)
  | 55,h=>exact (show some f55=some fn from h) ▸ c55
  | 56,h=>exact absurd (show none=some fn from h) (by simp)
  | 57,h=>exact absurd (show none=some fn from h) (by simp)
  | 58,h=>exact absurd (show none=some fn from h) (by simp)
  | 59,h=>exact (show some f59=some fn from h) ▸ c59
  | 60,h=>exact (show some f60=some fn from h) ▸ c60
  | 61,h=>exact (show some f61=some fn from h) ▸ c61
  | 62,h=>exact (show some f62=some fn from h) ▸ c62
  | 63,h=>exact absurd (show none=some fn from h) (by simp)
  | 64,h=>exact absurd (show none=some fn from h) (by simp)
  | 65,h=>exact absurd (show none=some fn from h) (by simp)
  | 66,h=>exact (show some f66=some fn from h) ▸ c66
  | 67,h=>exact (show some f67=some fn from h) ▸ c67
  | 68,h=>exact (show some f68=some fn from h) ▸ c68
  | 69,h=>exact (show some f69=some fn from h) ▸ c69
  | 70,h=>exact (show some f70=some fn from h) ▸ c70
  | 71,h=>exact (show some f71=some fn from h) ▸ c71
  | 72,h=>exact (show some f72=some fn from h) ▸ c72
  | 73,h=>exact (show some f73=some fn from h) ▸ c73
  | 74,h=>exact (show some f74=some fn from h) ▸ c74
  | 75,h=>exact (show some f75=some fn from h) ▸ c75
  | 76,h=>exact (show some f76=some fn from h) ▸ c76
  | 77,h=>exact (show some f77=some fn from h) ▸ c77
  | 78,h=>exact (show some f78=some fn from h) ▸ c78
  | 79,h=>exact (show some f79=some fn from h) ▸ c79
  | 80,h=>exact (show some f80=some fn from h) ▸ c80
  | 81,h=>exact (show some f81=some fn from h) ▸ c81
  | 82,h=>exact (show some f82=some fn from h) ▸ c82
  | 83,h=>exact (show some f83=some fn from h) ▸ c83
  | 84,h=>exact (show some f84=some fn from h) ▸ c84
  | 85,h=>exact (show some f85=some fn from h) ▸ c85
  | 86,h=>exact (show some f86=some fn from h) ▸ c86
  | 87,h=>exact (show some f87=some fn from h) ▸ c87
  | 88,h=>exact (show some f88=some fn from h) ▸ c88
  | 89,h=>exact (show some f89=some fn from h) ▸ c89
  | 90,h=>exact (show some f90=some fn from h) ▸ c90
  | 91,h=>exact (show some f91=some fn from h) ▸ c91
  | 92,h=>exact (show some f92=some fn from h) ▸ c92
  | 93,h=>exact (show some f93=some fn from h) ▸ c93
  | 94,h=>exact (show some f94=some fn from h) ▸ c94
  | 95,h=>exact (show some f95=some fn from h) ▸ c95
  | 96,h=>exact absurd (show none=some fn from h) (by simp)
  | 97,h=>exact absurd (show none=some fn from h) (by simp)
  | 98,h=>exact (show some f98=some fn from h) ▸ c98
  | 99,h=>exact (show some f99=some fn from h) ▸ c99
  | 100,h=>exact (show some f100=some fn from h) ▸ c100
  | 101,h=>exact (show some f101=some fn from h) ▸ c101
  | 102,h=>exact (show some f102=some fn from h) ▸ c102
  | 103,h=>exact (show some f103=some fn from h) ▸ c103
  | 104,h=>exact (show some f104=some fn from h) ▸ c104
  | 105,h=>exact (show some f105=some fn from h) ▸ c105
  | 106,h=>exact (show some f106=some fn from h) ▸ c106
  | 107,h=>exact (show some f107=some fn from h) ▸ c107
  | 108,h=>exact (show some f108=some fn from h) ▸ c108
  | 109,h=>exact absurd (show none=some fn from h) (by simp)
  | 110,h=>exact (show some f110=some fn from h) ▸ c110
  | 111,h=>exact (show some f111=some fn from h) ▸ c111
  | 112,h=>exact absurd (show none=some fn from h) (by simp)
  | 113,h=>exact (show some f113=some fn from h) ▸ c113
  | 114,h=>exact (show some f114=some fn from h) ▸ c114
  | 115,h=>exact (show some f115=some fn from h) ▸ c115
  | 116,h=>exact (show some f116=some fn from h) ▸ c116
  | 117,h=>exact absurd (show none=some fn from h) (by simp)
  | 118,h=>exact (show some f118=some fn from h) ▸ c118
  | 119,h=>exact absurd (show none=some fn from h) (by simp)
  | 120,h=>exact (show some f120=some fn from h) ▸ c120
  | 121,h=>exact (show some f121=some fn from h) ▸ c121
  | 122,h=>exact (show some f122=some fn from h) ▸ c122
  | 123,h=>exact (show some f123=some fn from h) ▸ c123
  | 124,h=>exact (show some f124=some fn from h) ▸ c124
  | 125,h=>exact (show some f125=some fn from h) ▸ c125
  | 126,h=>exact (show some f126=some fn from h) ▸ c126
  | 127,h=>exact (show some f127=some fn from h) ▸ c127
  | 128,h=>exact (show some f128=some fn from h) ▸ c128
  | 129,h=>exact (show some f129=some fn from h) ▸ c129
  | 130,h=>exact (show some f130=some fn from h) ▸ c130
  | 131,h=>exact (show some f131=some fn from h) ▸ c131
  | 132,h=>exact (show some f132=some fn from h) ▸ c132
  | 133,h=>exact (show some f133=some fn from h) ▸ c133
  | 134,h=>exact (show some f134=some fn from h) ▸ c134
  | 135,h=>exact (show some f135=some fn from h) ▸ c135
  | 136,h=>exact (show some f136=some fn from h) ▸ c136
  | 137,h=>exact (show some f137=some fn from h) ▸ c137
  | 138,h=>exact (show some f138=some fn from h) ▸ c138
  | 139,h=>exact (show some f139=some fn from h) ▸ c139
  | 140,h=>exact (show some f140=some fn from h) ▸ c140
  | 141,h=>exact (show some f141=some fn from h) ▸ c141
  | 142,h=>exact (show some f142=some fn from h) ▸ c142
  | 143,h=>exact (show some f143=some fn from h) ▸ c143
  | 144,h=>exact (show some f144=some fn from h) ▸ c144
  | 145,h=>exact (show some f145=some fn from h) ▸ c145
  | 146,h=>exact (show some f146=some fn from h) ▸ c146
  | 147,h=>exact (show some f147=some fn from h) ▸ c147
  | 148,h=>exact (show some f148=some fn from h) ▸ c148
  | 149,h=>exact (show some f149=some fn from h) ▸ c149
  | 150,h=>exact (show some f150=some fn from h) ▸ c150
  | 151,h=>exact absurd (show none=some fn from h) (by simp)
  | 152,h=>exact absurd (show none=some fn from h) (by simp)
  | 153,h=>exact absurd (show none=some fn from h) (by simp)
  | 154,h=>exact absurd (show none=some fn from h) (by simp)
  | 155,h=>exact absurd (show none=some fn from h) (by simp)
  | 156,h=>exact absurd (show none=some fn from h) (by simp)
  | 157,h=>exact absurd (show none=some fn from h) (by simp)
  | 158,h=>exact absurd (show none=some fn from h) (by simp)
  | 159,h=>exact absurd (show none=some fn from h) (by simp)
  | 160,h=>exact absurd (show none=some fn from h) (by simp)
  | 161,h=>exact absurd (show none=some fn from h) (by simp)
  | 162,h=>exact absurd (show none=some fn from h) (by simp)
  | 163,h=>exact absurd (show none=some fn from h) (by simp)
  | 164,h=>exact absurd (show none=some fn from h) (by simp)
  | 165,h=>exact absurd (show none=some fn from h) (by simp)
  | 166,h=>exact absurd (show none=some fn from h) (by simp)
  | 167,h=>exact absurd (show none=some fn from h) (by simp)
  | k+168,h=>exact absurd (show none=some fn from h) (by simp)
theorem mixed : Tryz.prog.follows .mixedOrders=true:=by kernel_rfl
end Am.Vt
