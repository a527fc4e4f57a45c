/-
  A part of the proof: the texts VtC of this seat, joined.
-/
import Derived.Test.YtnknceencnjnkaaGreatTab
import Derived.Test.YtnknceencnjnkaaGreatAmG
import Derived.Test.YtnknceencnjnkaaGreatProg
import Derived.ProofKit
open Go Go.Proofs Am
namespace Am.Vt
set_option maxRecDepth 1000000
def annAt (f i:Nat):List (Nat × Nat × Ann)→Ann
  | []=>{}
  | (g,j,a)::l=>bif Nat.beq f g&&Nat.beq i j then a else annAt f i l
def cloneAt (f:Nat):List (Nat × Nat)→Option Nat
  | []=>none
  | (g,e)::l=>bif Nat.beq f g then some e else cloneAt f l
def pinAt (g f:Nat) (b:Bool):List (Nat × Nat × Nat × Bool)→Bool
  | []=>b
  | (x,d,y,c)::l=>bif Nat.beq (g / 100000) x&&((Nat.beq d 0||Nat.beq (g % 100000) d)&&Nat.beq f y) then c else pinAt g f b l
def cfg : Cfg:={ pure:=fun k=>memN k pureL,clone:=fun k=>cloneAt k cloneL,drop:=fun k=>memN k dropL,grow:=fun k=>cloneAt k growL,pin:=fun g f b=>pinAt g f b pinL,ann:=fun f id=>annAt f id annL }
theorem c3 : cFunc Tryz.prog cfg 3=some f3:=by kernel_rfl
theorem c4 : cFunc Tryz.prog cfg 4=some f4:=by kernel_rfl
theorem c5 : cFunc Tryz.prog cfg 5=some f5:=by kernel_rfl
theorem c6 : cFunc Tryz.prog cfg 6=some f6:=by kernel_rfl
theorem c7 : cFunc Tryz.prog cfg 7=some f7:=by kernel_rfl
theorem c8 : cFunc Tryz.prog cfg 8=some f8:=by kernel_rfl
theorem c9 : cFunc Tryz.prog cfg 9=some f9:=by kernel_rfl
theorem c10 : cFunc Tryz.prog cfg 10=some f10:=by kernel_rfl
theorem c11 : cFunc Tryz.prog cfg 11=some f11:=by kernel_rfl
theorem c12 : cFunc Tryz.prog cfg 12=some f12:=by kernel_rfl
theorem c13 : cFunc Tryz.prog cfg 13=some f13:=by kernel_rfl
theorem c14 : cFunc Tryz.prog cfg 14=some f14:=by kernel_rfl
theorem c15 : cFunc Tryz.prog cfg 15=some f15:=by kernel_rfl
theorem c16 : cFunc Tryz.prog cfg 16=some f16:=by kernel_rfl
theorem c17 : cFunc Tryz.prog cfg 17=some f17:=by kernel_rfl
theorem c18 : cFunc Tryz.prog cfg 18=some f18:=by kernel_rfl
theorem c19 : cFunc Tryz.prog cfg 19=some f19:=by kernel_rfl
theorem c20 : cFunc Tryz.prog cfg 20=some f20:=by kernel_rfl
theorem c21 : cFunc Tryz.prog cfg 21=some f21:=by kernel_rfl
theorem c22 : cFunc Tryz.prog cfg 22=some f22:=by kernel_rfl
theorem c23 : cFunc Tryz.prog cfg 23=some f23:=by kernel_rfl
theorem c24 : cFunc Tryz.prog cfg 24=some f24:=by kernel_rfl
theorem c25 : cFunc Tryz.prog cfg 25=some f25:=by kernel_rfl
theorem c26 : cFunc Tryz.prog cfg 26=some f26:=by kernel_rfl
theorem c27 : cFunc Tryz.prog cfg 27=some f27:=by kernel_rfl
theorem c28 : cFunc Tryz.prog cfg 28=some f28:=by kernel_rfl
theorem c29 : cFunc Tryz.prog cfg 29=some f29:=by kernel_rfl
theorem c30 : cFunc Tryz.prog cfg 30=some f30:=by kernel_rfl
theorem c31 : cFunc Tryz.prog cfg 31=some f31:=by kernel_rfl
theorem c32 : cFunc Tryz.prog cfg 32=some f32:=by kernel_rfl
theorem c33 : cFunc Tryz.prog cfg 33=some f33:=by kernel_rfl
theorem c34 : cFunc Tryz.prog cfg 34=some f34:=by kernel_rfl
theorem c35 : cFunc Tryz.prog cfg 35=some f35:=by kernel_rfl
theorem c36 : cFunc Tryz.prog cfg 36=some f36:=by kernel_rfl
theorem c37 : cFunc Tryz.prog cfg 37=some f37:=by kernel_rfl
theorem c38 : cFunc Tryz.prog cfg 38=some f38:=by kernel_rfl
theorem c39 : cFunc Tryz.prog cfg 39=some f39:=by kernel_rfl
theorem c40 : cFunc Tryz.prog cfg 40=some f40:=by kernel_rfl
theorem c41 : cFunc Tryz.prog cfg 41=some f41:=by kernel_rfl
theorem c42 : cFunc Tryz.prog cfg 42=some f42:=by kernel_rfl
theorem c43 : cFunc Tryz.prog cfg 43=some f43:=by kernel_rfl
theorem c44 : cFunc Tryz.prog cfg 44=some f44:=by kernel_rfl
theorem c45 : cFunc Tryz.prog cfg 45=some f45:=by kernel_rfl
theorem c46 : cFunc Tryz.prog cfg 46=some f46:=by kernel_rfl
theorem c47 : cFunc Tryz.prog cfg 47=some f47:=by kernel_rfl
theorem c48 : cFunc Tryz.prog cfg 48=some f48:=by kernel_rfl
theorem c49 : cFunc Tryz.prog cfg 49=some f49:=by kernel_rfl
theorem c50 : cFunc Tryz.prog cfg 50=some f50:=by kernel_rfl
theorem c51 : cFunc Tryz.prog cfg 51=some f51:=by kernel_rfl
theorem c52 : cFunc Tryz.prog cfg 52=some f52:=by kernel_rfl
theorem c53 : cFunc Tryz.prog cfg 53=some f53:=by kernel_rfl
theorem c54 : cFunc Tryz.prog cfg 54=some f54:=by kernel_rfl
theorem c55 : cFunc Tryz.prog cfg 55=some f55:=by kernel_rfl
theorem c56 : cFunc Tryz.prog cfg 56=some f56:=by kernel_rfl
theorem c57 : cFunc Tryz.prog cfg 57=some f57:=by kernel_rfl
theorem c58 : cFunc Tryz.prog cfg 58=some f58:=by kernel_rfl
theorem c59 : cFunc Tryz.prog cfg 59=some f59:=by kernel_rfl
theorem c60 : cFunc Tryz.prog cfg 60=some f60:=by kernel_rfl
theorem c61 : cFunc Tryz.prog cfg 61=some f61:=by kernel_rfl
theorem c62 : cFunc Tryz.prog cfg 62=some f62:=by kernel_rfl
theorem c63 : cFunc Tryz.prog cfg 63=some f63:=by kernel_rfl
theorem c64 : cFunc Tryz.prog cfg 64=some f64:=by kernel_rfl
theorem c65 : cFunc Tryz.prog cfg 65=some f65:=by kernel_rfl
theorem c66 : cFunc Tryz.prog cfg 66=some f66:=by kernel_rfl
theorem c67 : cFunc Tryz.prog cfg 67=some f67:=by kernel_rfl
theorem c68 : cFunc Tryz.prog cfg 68=some f68:=by kernel_rfl
theorem c69 : cFunc Tryz.prog cfg 69=some f69:=by kernel_rfl
theorem c70 : cFunc Tryz.prog cfg 70=some f70:=by kernel_rfl
theorem c71 : cFunc Tryz.prog cfg 71=some f71:=by kernel_rfl
theorem c72 : cFunc Tryz.prog cfg 72=some f72:=by kernel_rfl
theorem c73 : cFunc Tryz.prog cfg 73=some f73:=by kernel_rfl
theorem c74 : cFunc Tryz.prog cfg 74=some f74:=by kernel_rfl
theorem c75 : cFunc Tryz.prog cfg 75=some f75:=by kernel_rfl
theorem c76 : cFunc Tryz.prog cfg 76=some f76:=by kernel_rfl
theorem c77 : cFunc Tryz.prog cfg 77=some f77:=by kernel_rfl
theorem c78 : cFunc Tryz.prog cfg 78=some f78:=by kernel_rfl
theorem c79 : cFunc Tryz.prog cfg 79=some f79:=by kernel_rfl
theorem c80 : cFunc Tryz.prog cfg 80=some f80:=by kernel_rfl
theorem c81 : cFunc Tryz.prog cfg 81=some f81:=by kernel_rfl
theorem c82 : cFunc Tryz.prog cfg 82=some f82:=by kernel_rfl
theorem c83 : cFunc Tryz.prog cfg 83=some f83:=by kernel_rfl
theorem c84 : cFunc Tryz.prog cfg 84=some f84:=by kernel_rfl
theorem c85 : cFunc Tryz.prog cfg 85=some f85:=by kernel_rfl
theorem c86 : cFunc Tryz.prog cfg 86=some f86:=by kernel_rfl
theorem c87 : cFunc Tryz.prog cfg 87=some f87:=by kernel_rfl
theorem c88 : cFunc Tryz.prog cfg 88=some f88:=by kernel_rfl
theorem c89 : cFunc Tryz.prog cfg 89=some f89:=by kernel_rfl
theorem c90 : cFunc Tryz.prog cfg 90=some f90:=by kernel_rfl
theorem c91 : cFunc Tryz.prog cfg 91=some f91:=by kernel_rfl
theorem c92 : cFunc Tryz.prog cfg 92=some f92:=by kernel_rfl
theorem c93 : cFunc Tryz.prog cfg 93=some f93:=by kernel_rfl
theorem c94 : cFunc Tryz.prog cfg 94=some f94:=by kernel_rfl
theorem c95 : cFunc Tryz.prog cfg 95=some f95:=by kernel_rfl
theorem c96 : cFunc Tryz.prog cfg 96=some f96:=by kernel_rfl
theorem c97 : cFunc Tryz.prog cfg 97=some f97:=by kernel_rfl
theorem c98 : cFunc Tryz.prog cfg 98=some f98:=by kernel_rfl
theorem c99 : cFunc Tryz.prog cfg 99=some f99:=by kernel_rfl
theorem c100 : cFunc Tryz.prog cfg 100=some f100:=by kernel_rfl
theorem c101 : cFunc Tryz.prog cfg 101=some f101:=by kernel_rfl
theorem c102 : cFunc Tryz.prog cfg 102=some f102:=by kernel_rfl
theorem c103 : cFunc Tryz.prog cfg 103=some f103:=by kernel_rfl
theorem c104 : cFunc Tryz.prog cfg 104=some f104:=by kernel_rfl
theorem c105 : cFunc Tryz.prog cfg 105=some f105:=by kernel_rfl
theorem c106 : cFunc Tryz.prog cfg 106=some f106:=by kernel_rfl
theorem c107 : cFunc Tryz.prog cfg 107=some f107:=by kernel_rfl
theorem c108 : cFunc Tryz.prog cfg 108=some f108:=by kernel_rfl
theorem c109 : cFunc Tryz.prog cfg 109=some f109:=by kernel_rfl
theorem c110 : cFunc Tryz.prog cfg 110=some f110:=by kernel_rfl
theorem c111 : cFunc Tryz.prog cfg 111=some f111:=by kernel_rfl
theorem c112 : cFunc Tryz.prog cfg 112=some f112:=by kernel_rfl
theorem c113 : cFunc Tryz.prog cfg 113=some f113:=by kernel_rfl
theorem c114 : cFunc Tryz.prog cfg 114=some f114:=by kernel_rfl
theorem c115 : cFunc Tryz.prog cfg 115=some f115:=by kernel_rfl
theorem c116 : cFunc Tryz.prog cfg 116=some f116:=by kernel_rfl
theorem c117 : cFunc Tryz.prog cfg 117=some f117:=by kernel_rfl
theorem c118 : cFunc Tryz.prog cfg 118=some f118:=by kernel_rfl
theorem c119 : cFunc Tryz.prog cfg 119=some f119:=by kernel_rfl
theorem c120 : cFunc Tryz.prog cfg 120=some f120:=by kernel_rfl
theorem c121 : cFunc Tryz.prog cfg 121=some f121:=by kernel_rfl
theorem c122 : cFunc Tryz.prog cfg 122=some f122:=by kernel_rfl
theorem c123 : cFunc Tryz.prog cfg 123=some f123:=by kernel_rfl
theorem c124 : cFunc Tryz.prog cfg 124=some f124:=by kernel_rfl
theorem c125 : cFunc Tryz.prog cfg 125=some f125:=by kernel_rfl
theorem c126 : cFunc Tryz.prog cfg 126=some f126:=by kernel_rfl
theorem c127 : cFunc Tryz.prog cfg 127=some f127:=by kernel_rfl
theorem c128 : cFunc Tryz.prog cfg 128=some f128:=by kernel_rfl
theorem c129 : cFunc Tryz.prog cfg 129=some f129:=by kernel_rfl
theorem c130 : cFunc Tryz.prog cfg 130=some f130:=by kernel_rfl
theorem c131 : cFunc Tryz.prog cfg 131=some f131:=by kernel_rfl
theorem c132 : cFunc Tryz.prog cfg 132=some f132:=by kernel_rfl
theorem c133 : cFunc Tryz.prog cfg 133=some f133:=by kernel_rfl
theorem c134 : cFunc Tryz.prog cfg 134=some f134:=by kernel_rfl
theorem c135 : cFunc Tryz.prog cfg 135=some f135:=by kernel_rfl
theorem c136 : cFunc Tryz.prog cfg 136=some f136:=by kernel_rfl
theorem hG : ∀k fn,tab k=some fn→cFunc Tryz.prog cfg k=some fn:=by
  intro k fn h
  match k,h with
  | 0,h=>exact absurd (show none=some fn from h) (by simp)
  | 1,h=>exact absurd (show none=some fn from h) (by simp)
  | 2,h=>exact absurd (show none=some fn from h) (by simp)
  | 3,h=>exact (show some f3=some fn from h) ▸ c3
  | 4,h=>exact (show some f4=some fn from h) ▸ c4
  | 5,h=>exact (show some f5=some fn from h) ▸ c5
  | 6,h=>exact (show some f6=some fn from h) ▸ c6
  | 7,h=>exact (show some f7=some fn from h) ▸ c7
  | 8,h=>exact (show some f8=some fn from h) ▸ c8
  | 9,h=>exact (show some f9=some fn from h) ▸ c9
  | 10,h=>exact (show some f10=some fn from h) ▸ c10
  | 11,h=>exact (show some f11=some fn from h) ▸ c11
  | 12,h=>exact (show some f12=some fn from h) ▸ c12
  | 13,h=>exact (show some f13=some fn from h) ▸ c13
  | 14,h=>exact (show some f14=some fn from h) ▸ c14
  | 15,h=>exact (show some f15=some fn from h) ▸ c15
  | 16,h=>exact (show some f16=some fn from h) ▸ c16
  | 17,h=>exact (show some f17=some fn from h) ▸ c17
  | 18,h=>exact (show some f18=some fn from h) ▸ c18
  | 19,h=>exact (show some f19=some fn from h) ▸ c19
  | 20,h=>exact (show some f20=some fn from h) ▸ c20
  | 21,h=>exact (show some f21=some fn from h) ▸ c21
  | 22,h=>exact (show some f22=some fn from h) ▸ c22
  | 23,h=>exact (show some f23=some fn from h) ▸ c23
  | 24,h=>exact (show some f24=some fn from h) ▸ c24
  | 25,h=>exact (show some f25=some fn from h) ▸ c25
  | 26,h=>exact (show some f26=some fn from h) ▸ c26
  | 27,h=>exact (show some f27=some fn from h) ▸ c27
  | 28,h=>exact (show some f28=some fn from h) ▸ c28
  | 29,h=>exact (show some f29=some fn from h) ▸ c29
  | 30,h=>exact (show some f30=some fn from h) ▸ c30
  | 31,h=>exact (show some f31=some fn from h) ▸ c31
  | 32,h=>exact (show some f32=some fn from h) ▸ c32
  | 33,h=>exact (show some f33=some fn from h) ▸ c33
  | 34,h=>exact (show some f34=some fn from h) ▸ c34
  | 35,h=>exact (show some f35=some fn from h) ▸ c35
  | 36,h=>exact (show some f36=some fn from h) ▸ c36
  | 37,h=>exact (show some f37=some fn from h) ▸ c37
  | 38,h=>exact (show some f38=some fn from h) ▸ c38
  | 39,h=>exact (show some f39=some fn from h) ▸ c39
  | 40,h=>exact (show some f40=some fn from h) ▸ c40
  | 41,h=>exact (show some f41=some fn from h) ▸ c41
  | 42,h=>exact (show some f42=some fn from h) ▸ c42
  | 43,h=>exact (show some f43=some fn from h) ▸ c43
  | 44,h=>exact (show some f44=some fn from h) ▸ c44
  | 45,h=>exact (show some f45=some fn from h) ▸ c45
  | 46,h=>exact (show some f46=some fn from h) ▸ c46
  | 47,h=>exact (show some f47=some fn from h) ▸ c47
  | 48,h=>exact (show some f48=some fn from h) ▸ c48
  | 49,h=>exact (show some f49=some fn from h) ▸ c49
  | 50,h=>exact (show some f50=some fn from h) ▸ c50
  | 51,h=>exact (show some f51=some fn from h) ▸ c51
  | 52,h=>exact (show some f52=some fn from h) ▸ c52
  | 53,h=>exact (show some f53=some fn from h) ▸ c53
  | 54,h=>exact (show some f54=some fn from h) ▸ c54
  | 55,h=>exact (show some f55=some fn from h) ▸ c55
  | 56,h=>exact (show some f56=some fn from h) ▸ c56
  | 57,h=>exact (show some f57=some fn from h) ▸ c57
  | 58,h=>exact (show some f58=some fn from h) ▸ c58
  | 59,h=>exact (show some f59=some fn from h) ▸ c59
  | 60,h=>exact (show some f60=some fn from h) ▸ c60
  | 61,h=>exact (show some f61=some fn from h) ▸ c61
  | 62,h=>exact (show some f62=some fn from h) ▸ c62
  | 63,h=>exact (show some f63=some fn from h) ▸ c63
  | 64,h=>exact (show some f64=some fn from h) ▸ c64
  | 65,h=>exact (show some f65=some fn from h) ▸ c65
  | 66,h=>exact (show some f66=some fn from h) ▸ c66
  | 67,h=>exact (show some f67=some fn from h) ▸ c67
  | 68,h=>exact (show some f68=some fn from h) ▸ c68
  | 69,h=>exact (show some f69=some fn from h) ▸ c69
  | 70,h=>exact (show some f70=some fn from h) ▸ c70
  | 71,h=>exact (show some f71=some fn from h) ▸ c71
  | 72,h=>exact (show some f72=some fn from h) ▸ c72
  | 73,h=>exact (show some f73=some fn from h) ▸ c73
  | 74,h=>exact (show some f74=some fn from h) ▸ c74
  | 75,h=>exact (show some f75=some fn from h) ▸ c75
  | 76,h=>exact (show some f76=some fn from h) ▸ c76
  | 77,h=>exact (show some f77=some fn from h) ▸ c77
  | 78,h=>exact (show some f78=some fn from h) ▸ c78
  | 79,h=>exact (show some f79=some fn from h) ▸ c79
  | 80,h=>exact (show some f80=some fn from h) ▸ c80
  | 81,h=>exact (show some f81=some fn from h) ▸ c81
  | 82,h=>exact (show some f82=some fn from h) ▸ c82
  | 83,h=>exact (show some f83=some fn from h) ▸ c83
  | 84,h=>exact (show some f84=some fn from h) ▸ c84
  | 85,h=>exact (show some f85=some fn from h) ▸ c85
  | 86,h=>exact (show some f86=some fn from h) ▸ c86
  | 87,h=>exact (show some f87=some fn from h) ▸ c87
  | 88,h=>exact (show some f88=some fn from h) ▸ c88
  | 89,h=>exact (show some f89=some fn from h) ▸ c89
  | 90,h=>exact (show some f90=some fn from h) ▸ c90
  | 91,h=>exact (show some f91=some fn from h) ▸ c91
  | 92,h=>exact (show some f92=some fn from h) ▸ c92
  | 93,h=>exact (show some f93=some fn from h) ▸ c93
  | 94,h=>exact (show some f94=some fn from h) ▸ c94
  | 95,h=>exact (show some f95=some fn from h) ▸ c95
  | 96,h=>exact (show some f96=some fn from h) ▸ c96
  | 97,h=>exact (show some f97=some fn from h) ▸ c97
  | 98,h=>exact (show some f98=some fn from h) ▸ c98
  | 99,h=>exact (show some f99=some fn from h) ▸ c99
  | 100,h=>exact (show some f100=some fn from h) ▸ c100
  | 101,h=>exact (show some f101=some fn from h) ▸ c101
  | 102,h=>exact (show some f102=some fn from h) ▸ c102
  | 103,h=>exact (show some f103=some fn from h) ▸ c103
  | 104,h=>exact (show some f104=some fn from h) ▸ c104
  | 105,h=>exact (show some f105=some fn from h) ▸ c105
  | 106,h=>exact (show some f106=some fn from h) ▸ c106
  | 107,h=>exact (show some f107=some fn from h) ▸ c107
  | 108,h=>exact (show some f108=some fn from h) ▸ c108
  | 109,h=>exact (show some f109=some fn from h) ▸ c109
  | 110,h=>exact (show some f110=some fn from h) ▸ c110
  | 111,h=>exact (show some f111=some fn from h) ▸ c111
  | 112,h=>exact (show some f112=some fn from h) ▸ c112
  | 113,h=>exact (show some f113=some fn from h) ▸ c113
  | 114,h=>exact (show some f114=some fn from h) ▸ c114
  | 115,h=>exact (show some f115=some fn from h) ▸ c115
  | 116,h=>exact (show some f116=some fn from h) ▸ c116
  | 117,h=>exact (show some f117=some fn from h) ▸ c117
  | 118,h=>exact (show some f118=some fn from h) ▸ c118
  | 119,h=>exact (show some f119=some fn from h) ▸ c119
  | 120,h=>exact (show some f120=some fn from h) ▸ c120
  | 121,h=>exact (show some f121=some fn from h) ▸ c121
  | 122,h=>exact (show some f122=some fn from h) ▸ c122
  | 123,h=>exact (show some f123=some fn from h) ▸ c123
  | 124,h=>exact (show some f124=some fn from h) ▸ c124
  | 125,h=>exact (show some f125=some fn from h) ▸ c125
  | 126,h=>exact (show some f126=some fn from h) ▸ c126
  | 127,h=>exact (show some f127=some fn from h) ▸ c127
  | 128,h=>exact (show some f128=some fn from h) ▸ c128
  | 129,h=>exact (show some f129=some fn from h) ▸ c129
  | 130,h=>exact (show some f130=some fn from h) ▸ c130
  | 131,h=>exact (show some f131=some fn from h) ▸ c131
  | 132,h=>exact (show some f132=some fn from h) ▸ c132
  | 133,h=>exact (show some f133=some fn from h) ▸ c133
  | 134,h=>exact (show some f134=some fn from h) ▸ c134
  | 135,h=>exact (show some f135=some fn from h) ▸ c135
  | 136,h=>exact (show some f136=some fn from h) ▸ c136
  | 137,h=>exact absurd (show none=some fn from h) (by simp)
  | 138,h=>exact absurd (show none=some fn from h) (by simp)
  | 139,h=>exact absurd (show none=some fn from h) (by simp)
  | 140,h=>exact absurd (show none=some fn from h) (by simp)
  | 141,h=>exact absurd (show none=some fn from h) (by simp)
  | 142,h=>exact absurd (show none=some fn from h) (by simp)
  | 143,h=>exact absurd (show none=some fn from h) (by simp)
  | 144,h=>exact absurd (show none=some fn from h) (by simp)
  | 145,h=>exact absurd (show none=some fn from h) (by simp)
  | 146,h=>exact absurd (show none=some fn from h) (by simp)
  | 147,h=>exact absurd (show none=some fn from h) (by simp)
  | 148,h=>exact absurd (show none=some fn from h) (by simp)
  | 149,h=>exact absurd (show none=some fn from h) (by simp)
  | 150,h=>exact absurd (show none=some fn from h) (by simp)
  | 151,h=>exact absurd (show none=some fn from h) (by simp)
  | 152,h=>exact absurd (show none=some fn from h) (by simp)
  | 153,h=>exact absurd (show none=some fn from h) (by simp)
  | 154,h=>exact absurd (show none=some fn from h) (by simp)
  | k+155,h=>exact absurd (show none=some fn from h) (by simp)
theorem mixed : Tryz.prog.follows .mixedOrders=true:=by kernel_rfl
end Am.Vt
