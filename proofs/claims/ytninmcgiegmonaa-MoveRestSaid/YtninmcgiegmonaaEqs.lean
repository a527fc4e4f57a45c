/-
  A part of the proof: the texts TmC of this seat, joined.
-/
import Derived.Test.YtninmcgiegmonaaTab
import Derived.Test.YtninmcgiegmonaaAmG
import Derived.Test.YtninmcgiegmonaaProg
import Derived.ProofKit
open Go Go.Proofs Am
namespace Am.Tm
set_option maxRecDepth 1000000
def annAt (f i:Nat):List (Nat × Nat × Ann)→Ann
  | []=>{}
  | (g,j,a)::l=>bif Nat.beq f g&&Nat.beq i j then a else annAt f i l
def cloneAt (f:Nat):List (Nat × Nat)→Option Nat
  | []=>none
  | (g,e)::l=>bif Nat.beq f g then some e else cloneAt f l
def pinAt (g f:Nat) (b:Bool):List (Nat × Nat × Nat × Bool)→Bool
  | []=>b
  | (x,d,y,c)::l=>bif Nat.beq (g / 100000) x&&((Nat.beq d 0||Nat.beq (g % 100000) d)&&Nat.beq f y) then c else pinAt g f b l
def frzOf (g:Nat):List (Nat × Nat × Nat)→List Nat
  | []=>[]
  | (x,d,s)::l=>bif Nat.beq (g / 100000) x&&Nat.beq (g % 100000) d then s::frzOf g l else frzOf g l
def litOf (g:Nat):List (Nat × Nat)→Bool
  | []=>false
  | (x,d)::l=>bif Nat.beq (g / 100000) x&&Nat.beq (g % 100000) d then true else litOf g l
def cfg : Cfg:={ litc:=fun g=>litOf g litcL,frz:=fun g=>frzOf g frzL,pure:=fun k=>memN k pureL,clone:=fun k=>cloneAt k cloneL,drop:=fun k=>memN k dropL,grow:=fun k=>cloneAt k growL,pin:=fun g f b=>pinAt g f b pinL,ann:=fun f id=>annAt f id annL }
theorem c3 : cFunc Try.prog cfg 3=some f3:=by kernel_rfl
theorem c4 : cFunc Try.prog cfg 4=some f4:=by kernel_rfl
theorem c5 : cFunc Try.prog cfg 5=some f5:=by kernel_rfl
theorem c6 : cFunc Try.prog cfg 6=some f6:=by kernel_rfl
theorem c7 : cFunc Try.prog cfg 7=some f7:=by kernel_rfl
theorem c8 : cFunc Try.prog cfg 8=some f8:=by kernel_rfl
theorem c9 : cFunc Try.prog cfg 9=some f9:=by kernel_rfl
theorem c10 : cFunc Try.prog cfg 10=some f10:=by kernel_rfl
theorem c11 : cFunc Try.prog cfg 11=some f11:=by kernel_rfl
theorem c12 : cFunc Try.prog cfg 12=some f12:=by kernel_rfl
theorem c13 : cFunc Try.prog cfg 13=some f13:=by kernel_rfl
theorem c14 : cFunc Try.prog cfg 14=some f14:=by kernel_rfl
theorem c15 : cFunc Try.prog cfg 15=some f15:=by kernel_rfl
theorem c16 : cFunc Try.prog cfg 16=some f16:=by kernel_rfl
theorem c17 : cFunc Try.prog cfg 17=some f17:=by kernel_rfl
theorem c18 : cFunc Try.prog cfg 18=some f18:=by kernel_rfl
theorem c19 : cFunc Try.prog cfg 19=some f19:=by kernel_rfl
theorem c20 : cFunc Try.prog cfg 20=some f20:=by kernel_rfl
theorem c21 : cFunc Try.prog cfg 21=some f21:=by kernel_rfl
theorem c22 : cFunc Try.prog cfg 22=some f22:=by kernel_rfl
theorem c23 : cFunc Try.prog cfg 23=some f23:=by kernel_rfl
theorem c24 : cFunc Try.prog cfg 24=some f24:=by kernel_rfl
theorem c25 : cFunc Try.prog cfg 25=some f25:=by kernel_rfl
theorem c26 : cFunc Try.prog cfg 26=some f26:=by kernel_rfl
theorem c27 : cFunc Try.prog cfg 27=some f27:=by kernel_rfl
theorem c28 : cFunc Try.prog cfg 28=some f28:=by kernel_rfl
theorem c29 : cFunc Try.prog cfg 29=some f29:=by kernel_rfl
theorem c30 : cFunc Try.prog cfg 30=some f30:=by kernel_rfl
theorem c31 : cFunc Try.prog cfg 31=some f31:=by kernel_rfl
theorem c32 : cFunc Try.prog cfg 32=some f32:=by kernel_rfl
theorem c33 : cFunc Try.prog cfg 33=some f33:=by kernel_rfl
theorem c34 : cFunc Try.prog cfg 34=some f34:=by kernel_rfl
theorem c35 : cFunc Try.prog cfg 35=some f35:=by kernel_rfl
theorem c36 : cFunc Try.prog cfg 36=some f36:=by kernel_rfl
theorem c37 : cFunc Try.prog cfg 37=some f37:=by kernel_rfl
theorem c38 : cFunc Try.prog cfg 38=some f38:=by kernel_rfl
theorem c39 : cFunc Try.prog cfg 39=some f39:=by kernel_rfl
theorem c40 : cFunc Try.prog cfg 40=some f40:=by kernel_rfl
theorem c41 : cFunc Try.prog cfg 41=some f41:=by kernel_rfl
theorem c42 : cFunc Try.prog cfg 42=some f42:=by kernel_rfl
theorem c43 : cFunc Try.prog cfg 43=some f43:=by kernel_rfl
theorem c44 : cFunc Try.prog cfg 44=some f44:=by kernel_rfl
theorem c45 : cFunc Try.prog cfg 45=some f45:=by kernel_rfl
theorem c46 : cFunc Try.prog cfg 46=some f46:=by kernel_rfl
theorem c47 : cFunc Try.prog cfg 47=some f47:=by kernel_rfl
theorem c48 : cFunc Try.prog cfg 48=some f48:=by kernel_rfl
theorem c49 : cFunc Try.prog cfg 49=some f49:=by kernel_rfl
theorem c50 : cFunc Try.prog cfg 50=some f50:=by kernel_rfl
theorem c51 : cFunc Try.prog cfg 51=some f51:=by kernel_rfl
theorem c52 : cFunc Try.prog cfg 52=some f52:=by kernel_rfl
theorem c53 : cFunc Try.prog cfg 53=some f53:=by kernel_rfl
theorem c54 : cFunc Try.prog cfg 54=some f54:=by kernel_rfl
theorem c55 : cFunc Try.prog cfg 55=some f55:=by kernel_rfl
theorem c56 : cFunc Try.prog cfg 56=some f56:=by kernel_rfl
theorem c57 : cFunc Try.prog cfg 57=some f57:=by kernel_rfl
theorem c58 : cFunc Try.prog cfg 58=some f58:=by kernel_rfl
theorem c59 : cFunc Try.prog cfg 59=some f59:=by kernel_rfl
theorem c60 : cFunc Try.prog cfg 60=some f60:=by kernel_rfl
theorem c61 : cFunc Try.prog cfg 61=some f61:=by kernel_rfl
theorem c62 : cFunc Try.prog cfg 62=some f62:=by kernel_rfl
theorem c63 : cFunc Try.prog cfg 63=some f63:=by kernel_rfl
theorem c64 : cFunc Try.prog cfg 64=some f64:=by kernel_rfl
theorem c65 : cFunc Try.prog cfg 65=some f65:=by kernel_rfl
theorem c66 : cFunc Try.prog cfg 66=some f66:=by kernel_rfl
theorem c67 : cFunc Try.prog cfg 67=some f67:=by kernel_rfl
theorem c68 : cFunc Try.prog cfg 68=some f68:=by kernel_rfl
theorem c69 : cFunc Try.prog cfg 69=some f69:=by kernel_rfl
theorem c70 : cFunc Try.prog cfg 70=some f70:=by kernel_rfl
theorem hG : ∀k fn,tab k=some fn→cFunc Try.prog cfg k=some fn:=by
  intro k fn h
  match k,h with
  | 0,h=>exact absurd (show none=some fn from h) (by simp)
  | 1,h=>exact absurd (show none=some fn from h) (by simp)
  | 2,h=>exact absurd (show none=some fn from h) (by simp)
  | 3,h=>exact (show some f3=some fn from h) ▸ c3
  | 4,h=>exact (show some f4=some fn from h) ▸ c4
  | 5,h=>exact (show some f5=some fn from h) ▸ c5
  | 6,h=>exact (show some f6=some fn from h) ▸ c6
  | 7,h=>exact (show some f7=some fn from h) ▸ c7
  | 8,h=>exact (show some f8=some fn from h) ▸ c8
  | 9,h=>exact (show some f9=some fn from h) ▸ c9
  | 10,h=>exact (show some f10=some fn from h) ▸ c10
  | 11,h=>exact (show some f11=some fn from h) ▸ c11
  | 12,h=>exact (show some f12=some fn from h) ▸ c12
  | 13,h=>exact (show some f13=some fn from h) ▸ c13
  | 14,h=>exact (show some f14=some fn from h) ▸ c14
  | 15,h=>exact (show some f15=some fn from h) ▸ c15
  | 16,h=>exact (show some f16=some fn from h) ▸ c16
  | 17,h=>exact (show some f17=some fn from h) ▸ c17
  | 18,h=>exact (show some f18=some fn from h) ▸ c18
  | 19,h=>exact (show some f19=some fn from h) ▸ c19
  | 20,h=>exact (show some f20=some fn from h) ▸ c20
  | 21,h=>exact (show some f21=some fn from h) ▸ c21
  | 22,h=>exact (show some f22=some fn from h) ▸ c22
  | 23,h=>exact (show some f23=some fn from h) ▸ c23
  | 24,h=>exact (show some f24=some fn from h) ▸ c24
  | 25,h=>exact (show some f25=some fn from h) ▸ c25
  | 26,h=>exact (show some f26=some fn from h) ▸ c26
  | 27,h=>exact (show some f27=some fn from h) ▸ c27
  | 28,h=>exact (show some f28=some fn from h) ▸ c28
  | 29,h=>exact (show some f29=some fn from h) ▸ c29
  | 30,h=>exact (show some f30=some fn from h) ▸ c30
  | 31,h=>exact (show some f31=some fn from h) ▸ c31
  | 32,h=>exact (show some f32=some fn from h) ▸ c32
  | 33,h=>exact (show some f33=some fn from h) ▸ c33
  | 34,h=>exact (show some f34=some fn from h) ▸ c34
  | 35,h=>exact (show some f35=some fn from h) ▸ c35
  | 36,h=>exact (show some f36=some fn from h) ▸ c36
  | 37,h=>exact (show some f37=some fn from h) ▸ c37
  | 38,h=>exact (show some f38=some fn from h) ▸ c38
  | 39,h=>exact (show some f39=some fn from h) ▸ c39
  | 40,h=>exact (show some f40=some fn from h) ▸ c40
  | 41,h=>exact (show some f41=some fn from h) ▸ c41
  | 42,h=>exact (show some f42=some fn from h) ▸ c42
  | 43,h=>exact (show some f43=some fn from h) ▸ c43
  | 44,h=>exact (show some f44=some fn from h) ▸ c44
  | 45,h=>exact (show some f45=some fn from h) ▸ c45
  | 46,h=>exact (show some f46=some fn from h) ▸ c46
  | 47,h=>exact (show some f47=some fn from h) ▸ c47
  | 48,h=>exact (show some f48=some fn from h) ▸ c48
  | 49,h=>exact (show some f49=some fn from h) ▸ c49
  | 50,h=>exact (show some f50=some fn from h) ▸ c50
  | 51,h=>exact (show some f51=some fn from h) ▸ c51
  | 52,h=>exact (show some f52=some fn from h) ▸ c52
  | 53,h=>exact (show some f53=some fn from h) ▸ c53
  | 54,h=>exact (show some f54=some fn from h) ▸ c54
  | 55,h=>exact (show some f55=some fn from h) ▸ c55
  | 56,h=>exact (show some f56=some fn from h) ▸ c56
  | 57,h=>exact (show some f57=some fn from h) ▸ c57
  | 58,h=>exact (show some f58=some fn from h) ▸ c58
  | 59,h=>exact (show some f59=some fn from h) ▸ c59
  | 60,h=>exact (show some f60=some fn from h) ▸ c60
  | 61,h=>exact (show some f61=some fn from h) ▸ c61
  | 62,h=>exact (show some f62=some fn from h) ▸ c62
  | 63,h=>exact (show some f63=some fn from h) ▸ c63
  | 64,h=>exact (show some f64=some fn from h) ▸ c64
  | 65,h=>exact (show some f65=some fn from h) ▸ c65
  | 66,h=>exact (show some f66=some fn from h) ▸ c66
  | 67,h=>exact (show some f67=some fn from h) ▸ c67
  | 68,h=>exact (show some f68=some fn from h) ▸ c68
  | 69,h=>exact (show some f69=some fn from h) ▸ c69
  | 70,h=>exact (show some f70=some fn from h) ▸ c70
  | 71,h=>exact absurd (show none=some fn from h) (by simp)
  | 72,h=>exact absurd (show none=some fn from h) (by simp)
  | 73,h=>exact absurd (show none=some fn from h) (by simp)
  | 74,h=>exact absurd (show none=some fn from h) (by simp)
  | 75,h=>exact absurd (show none=some fn from h) (by simp)
  | 76,h=>exact absurd (show none=some fn from h) (by simp)
  | 77,h=>exact absurd (show none=some fn from h) (by simp)
  | 78,h=>exact absurd (show none=some fn from h) (by simp)
  | 79,h=>exact absurd (show none=some fn from h) (by simp)
  | 80,h=>exact absurd (show none=some fn from h) (by simp)
  | 81,h=>exact absurd (show none=some fn from h) (by simp)
  | 82,h=>exact absurd (show none=some fn from h) (by simp)
  | 83,h=>exact absurd (show none=some fn from h) (by simp)
  | 84,h=>exact absurd (show none=some fn from h) (by simp)
  | 85,h=>exact absurd (show none=some fn from h) (by simp)
  | 86,h=>exact absurd (show none=some fn from h) (by simp)
  | 87,h=>exact absurd (show none=some fn from h) (by simp)
  | k+88,h=>exact absurd (show none=some fn from h) (by simp)
theorem mixed : Try.prog.follows .mixedOrders=true:=by kernel_rfl
end Am.Tm
