/-
  A part of the proof: the texts CrTabA of this seat, joined.
-/
import Derived.Test.YthffdgldmpceoaaAmA
namespace Am.Cr
open Go Am
set_option maxRecDepth 100000
def f3 : AFunc:=⟨312,[.tmp 0],false,
 (.seq (.region 0 [] [
 ⟨(some 0),.mov (.cst (.c (.bool false))),none,0⟩])
 (.seq (.region 1 [] [
 ⟨(some 27),.call 4 false [],none,0⟩,
 ⟨(some 1),.alloc [.nils,.nils],none,0⟩,
 ⟨none,.store (some 2) (.tmp 1) (.tmp 27),none,1⟩])
 (.seq (.region 0 [] [
 ⟨(some 28),.faddr 1 (.tmp 1),none,0⟩,
 ⟨(some 29),.load none (.tmp 28),none,0⟩,
 ⟨(some 30),.iaddr 1 (.tmp 29) (.cst (.c (.int .i64 1))),none,0⟩,
 ⟨none,.store none (.tmp 30) (.cst (.c (.int .i64 1))),none,0⟩])
 (.seq (.seq (.frz [1])
 (.region 1 [(0,1),(0,2),(1,2),(5,6),(6,7)] [
 ⟨(some 32),.call 6 true [(.cst (.c (.int .i64 0)))],none,0⟩,
 ⟨(some 33),.load (some 2) (.tmp 1),none,0⟩,
 ⟨(some 34),.bslice 1 2 [(.int .i64 0)] [(0,(.cst (.c (.int .i64 1)))),(1,(.cst (.c (.int .i64 3))))],none,0⟩,
 ⟨(some 35),.call 5 true [(.tmp 32),(.tmp 33),(.tmp 34)],none,1⟩,
 ⟨(some 31),.mov (.tmp 35),none,1⟩,
 ⟨(some 36),.extract 0 (.tmp 31),none,1⟩,
 ⟨(some 37),.extract 1 (.tmp 31),none,1⟩,
 ⟨(some 2),.mov (.tmp 36),none,1⟩,
 ⟨(some 3),.mov (.tmp 37),none,1⟩]))
 (.seq (.region 2 [] [
 ⟨(some 39),.call 6 true [(.cst (.c (.int .i64 0)))],none,0⟩,
 ⟨(some 40),.bslice 1 2 [(.int .i64 0)] [(0,(.cst (.c (.int .i64 2)))),(1,(.cst (.c (.int .i64 4))))],none,0⟩,
 ⟨(some 41),.call 7 true [(.tmp 39),(.tmp 40)],none,1⟩,
 ⟨(some 38),.mov (.tmp 41),none,1⟩,
 ⟨(some 42),.extract 0 (.tmp 38),none,1⟩,
 ⟨(some 43),.extract 1 (.tmp 38),none,1⟩,
 ⟨(some 4),.alloc [(.int .i64 0),(.int .i64 0)],none,1⟩,
 ⟨none,.store (some 2) (.tmp 4) (.tmp 42),none,2⟩,
 ⟨(some 5),.mov (.tmp 43),none,2⟩])
 (.seq (.region 1 [] [
 ⟨(some 45),.call 6 true [(.cst (.c (.int .i64 0)))],none,0⟩,
 ⟨(some 46),.call 7 true [(.tmp 45),(.cst (.c .nils))],none,0⟩,
 ⟨(some 44),.mov (.tmp 46),none,0⟩,
 ⟨(some 47),.extract 0 (.tmp 44),none,0⟩,
 ⟨(some 48),.extract 1 (.tmp 44),none,0⟩,
 ⟨(some 6),.alloc [(.int .i64 0),(.int .i64 0)],none,0⟩,
 ⟨none,.store (some 2) (.tmp 6) (.tmp 47),none,1⟩,
 ⟨(some 7),.mov (.tmp 48),none,1⟩])
 (.seq (.region 1 [] [
 ⟨(some 50),.call 6 true [(.cst (.c (.int .i64 0)))],none,0⟩,
 ⟨(some 51),.call 8 true [(.tmp 50),(.cst (.c (.int .i64 2)))],none,0⟩,
 ⟨(some 49),.mov (.tmp 51),none,0⟩,
 ⟨(some 52),.extract 0 (.tmp 49),none,0⟩,
 ⟨(some 53),.extract 1 (.tmp 49),none,0⟩,
 ⟨(some 8),.alloc [(.int .i64 0),(.int .i64 0)],none,0⟩,
 ⟨none,.store (some 2) (.tmp 8) (.tmp 52),none,1⟩,
 ⟨(some 9),.mov (.tmp 53),none,1⟩])
 (.seq (.region 2 [] [
 ⟨(some 55),.call 6 true [(.cst (.c (.int .i64 1)))],none,0⟩,
 ⟨(some 56),.bslice 1 2 [(.int .i64 0)] [(0,(.cst (.c (.int .i64 2)))),(1,(.cst (.c (.int .i64 4))))],none,0⟩,
 ⟨(some 57),.call 7 true [(.tmp 55),(.tmp 56)],none,1⟩,
 ⟨(some 54),.mov (.tmp 57),none,1⟩,
 ⟨(some 58),.extract 0 (.tmp 54),none,1⟩,
 ⟨(some 59),.extract 1 (.tmp 54),none,1⟩,
 ⟨(some 10),.alloc [(.int .i64 0),(.int .i64 0)],none,1⟩,
 ⟨none,.store (some 2) (.tmp 10) (.tmp 58),none,2⟩,
 ⟨(some 11),.mov (.tmp 59),none,2⟩])
 (.seq (.region 0 [] [
 ⟨(some 61),.call 6 true [(.cst (.c (.int .i64 1)))],none,0⟩,
 ⟨(some 62),.call 9 true [(.tmp 61)],none,0⟩,
 ⟨(some 60),.mov (.tmp 62),none,0⟩,
 ⟨(some 63),.extract 0 (.tmp 60),none,0⟩,
 ⟨(some 64),.extract 1 (.tmp 60),none,0⟩,
 ⟨(some 12),.mov (.tmp 63),none,0⟩,
 ⟨(some 13),.mov (.tmp 64),none,0⟩])
 (.seq (.seq (.region 2 [(8,11),(9,11),(10,11),(19,20),(28,29),(37,38),(46,47),(60,61),(66,67),(71,72),(77,78)] [
 ⟨(some 65),.mov (.tmp 3),none,0⟩,
 ⟨(some 66),.bin .neq (.tmp 65) (.cst (.c (.int .i64 0))),none,0⟩,
 ⟨(some 67),.mov (.tmp 66),none,0⟩,
 ⟨(some 68),.mov (.tmp 2),some (67,false),0⟩,
 ⟨(some 69),.len (.tmp 68),some (67,false),0⟩,
 ⟨(some 70),.bin .neq (.tmp 69) (.cst (.c (.int .i64 2))),some (67,false),0⟩,
 ⟨(some 71),.pick (.tmp 67) (.cst (.c (.bool true))) (.tmp 70),none,0⟩,
 ⟨(some 72),.mov (.tmp 71),none,0⟩,
 ⟨(some 73),.mov (.tmp 2),some (72,false),0⟩,
 ⟨(some 74),.iaddr 3 (.tmp 73) (.cst (.c (.int .i64 0))),some (72,false),0⟩,
 ⟨(some 75),.load (some 3) (.tmp 74),some (72,false),0⟩,
 ⟨(some 76),.build [(.int .i64 0),(.int .i64 0),(.int .i64 0)] [(0,1,(.cst (.c (.int .i64 9)))),(1,1,(.cst (.c (.int .i64 20)))),(2,1,(.cst (.c (.int .i64 180))))],some (72,false),0⟩,
 ⟨(some 77),.eqA true [(some .i64),(some .i64),(some .i64)] (.tmp 75) (.tmp 76),some (72,false),0⟩,
 ⟨(some 78),.pick (.tmp 72) (.cst (.c (.bool true))) (.tmp 77),none,0⟩,
 ⟨(some 79),.mov (.tmp 78),none,0⟩,
 ⟨(some 80),.mov (.tmp 5),some (79,false),0⟩,
 ⟨(some 81),.bin .neq (.tmp 80) (.cst (.c (.int .i64 0))),some (79,false),0⟩,
 ⟨(some 82),.pick (.tmp 79) (.cst (.c (.bool true))) (.tmp 81),none,0⟩,
 ⟨(some 83),.mov (.tmp 82),none,0⟩,
 ⟨(some 84),.load (some 2) (.tmp 4),some (83,false),0⟩,
 ⟨(some 85),.call 10 true [(.cst (.c (.int .i64 474))),(.cst (.c (.int .i64 521)))],some (83,false),0⟩,
 ⟨(some 86),.eqA true [(some .i64),(some .i64)] (.tmp 84) (.tmp 85),some (83,false),0⟩,
 ⟨(some 87),.pick (.tmp 83) (.cst (.c (.bool true))) (.tmp 86),none,0⟩,
 ⟨(some 88),.mov (.tmp 87),none,0⟩,
 ⟨(some 89),.mov (.tmp 7),some (88,false),0⟩,
 ⟨(some 90),.bin .neq (.tmp 89) (.cst (.c (.int .i64 0))),some (88,false),0⟩,
 ⟨(some 91),.pick (.tmp 88) (.cst (.c (.bool true))) (.tmp 90),none,0⟩,
 ⟨(some 92),.mov (.tmp 91),none,0⟩,
 ⟨(some 93),.load (some 2) (.tmp 6),some (92,false),0⟩,
 ⟨(some 94),.build [(.int .i64 0),(.int .i64 0)] [],some (92,false),0⟩,
 ⟨(some 95),.eqA true [(some .i64),(some .i64)] (.tmp 93) (.tmp 94),some (92,false),0⟩,
 ⟨(some 96),.pick (.tmp 92) (.cst (.c (.bool true))) (.tmp 95),none,0⟩,
 ⟨(some 97),.mov (.tmp 96),none,0⟩,
 ⟨(some 98),.mov (.tmp 9),some (97,false),0⟩,
 ⟨(some 99),.bin .neq (.tmp 98) (.cst (.c (.int .i64 0))),some (97,false),0⟩,
 ⟨(some 100),.pick (.tmp 97) (.cst (.c (.bool true))) (.tmp 99),none,0⟩,
 ⟨(some 101),.mov (.tmp 100),none,0⟩,
 ⟨(some 102),.load (some 2) (.tmp 8),some (101,false),0⟩,
 ⟨(some 103),.call 10 true [(.cst (.c (.int .i64 24))),(.cst (.c (.int .i64 26)))],some (101,false),0⟩,
 ⟨(some 104),.eqA true [(some .i64),(some .i64)] (.tmp 102) (.tmp 103),some (101,false),0⟩,
 ⟨(some 105),.pick (.tmp 101) (.cst (.c (.bool true))) (.tmp 104),none,0⟩,
 ⟨(some 106),.mov (.tmp 105),none,0⟩,
 ⟨(some 107),.mov (.tmp 11),some (106,false),0⟩,
 ⟨(some 108),.bin .neq (.tmp 107) (.cst (.c (.int .i64 0))),some (106,false),0⟩,
 ⟨(some 109),.pick (.tmp 106) (.cst (.c (.bool true))) (.tmp 108),none,0⟩,
 ⟨(some 110),.mov (.tmp 109),none,0⟩,
 ⟨(some 111),.load (some 2) (.tmp 10),some (110,false),0⟩,
 ⟨(some 112),.call 10 true [(.cst (.c (.int .i64 490))),(.cst (.c (.int .i64 505)))],some (110,false),0⟩,
 ⟨(some 113),.eqA true [(some .i64),(some .i64)] (.tmp 111) (.tmp 112),some (110,false),0⟩,
 ⟨(some 114),.pick (.tmp 110) (.cst (.c (.bool true))) (.tmp 113),none,0⟩,
 ⟨(some 115),.mov (.tmp 114),none,0⟩,
 ⟨(some 116),.mov (.tmp 13),some (115,false),0⟩,
 ⟨(some 117),.bin .neq (.tmp 116) (.cst (.c (.int .i64 0))),some (115,false),0⟩,
 ⟨(some 118),.pick (.tmp 115) (.cst (.c (.bool true))) (.tmp 117),none,0⟩,
 ⟨(some 119),.mov (.tmp 118),none,0⟩,
 ⟨(some 120),.mov (.tmp 12),some (119,false),0⟩,
 ⟨(some 121),.len (.tmp 120),some (119,false),0⟩,
 ⟨(some 122),.bin .neq (.tmp 121) (.cst (.c (.int .i64 0))),some (119,false),0⟩,
 ⟨(some 123),.pick (.tmp 119) (.cst (.c (.bool true))) (.tmp 122),none,0⟩,
 ⟨(some 124),.mov (.tmp 123),none,0⟩,
 ⟨(some 125),.call 6 true [(.cst (.c (.int .i64 0)))],some (124,false),0⟩,
 ⟨(some 126),.load (some 2) (.tmp 1),some (124,false),0⟩,
 ⟨(some 127),.call 11 true [(.tmp 125),(.tmp 126)],some (124,false),0⟩,
 ⟨(some 128),.not (.tmp 127),some (124,false),0⟩,
 ⟨(some 129),.pick (.tmp 124) (.cst (.c (.bool true))) (.tmp 128),none,0⟩,
 ⟨(some 130),.mov (.tmp 129),none,0⟩,
 ⟨(some 131),.call 6 true [(.cst (.c (.int .i64 1)))],some (130,false),0⟩,
 ⟨(some 132),.load (some 2) (.tmp 1),some (130,false),0⟩,
 ⟨(some 133),.call 11 true [(.tmp 131),(.tmp 132)],some (130,false),0⟩,
 ⟨(some 134),.pick (.tmp 130) (.cst (.c (.bool true))) (.tmp 133),none,0⟩,
 ⟨(some 135),.mov (.tmp 134),none,0⟩,
 ⟨(some 136),.call 6 true [(.cst (.c (.int .i64 0)))],some (135,false),0⟩,
 ⟨(some 137),.bslice 1 2 [(.int .i64 0)] [(0,(.cst (.c (.int .i64 2)))),(1,(.cst (.c (.int .i64 4))))],some (135,false),0⟩,
 ⟨(some 138),.call 12 true [(.tmp 136),(.tmp 137),(.cst (.c (.int .i64 474)))],some (135,false),1⟩,
 ⟨(some 139),.not (.tmp 138),some (135,false),1⟩,
 ⟨(some 140),.pick (.tmp 135) (.cst (.c (.bool true))) (.tmp 139),none,1⟩,
 ⟨(some 141),.mov (.tmp 140),none,1⟩,
 ⟨(some 142),.call 6 true [(.cst (.c (.int .i64 0)))],some (141,false),1⟩,
 ⟨(some 143),.bslice 1 2 [(.int .i64 0)] [(0,(.cst (.c (.int .i64 2)))),(1,(.cst (.c (.int .i64 4))))],some (141,false),1⟩,
 ⟨(some 144),.call 12 true [(.tmp 142),(.tmp 143),(.cst (.c (.int .i64 475)))],some (141,false),2⟩,
 ⟨(some 145),.pick (.tmp 141) (.cst (.c (.bool true))) (.tmp 144),none,2⟩])
 (.cond (.tmp 145)
 (.seq (.region 0 [] [
 ⟨(some 0),.mov (.cst (.c (.bool false))),none,0⟩])
 .ret)
 .skip))
 (.seq (.region 2 [] [
 ⟨(some 146),.call 4 false [],none,0⟩,
 ⟨(some 147),.call 4 true [],none,0⟩,
 ⟨(some 14),.alloc [.nils,.nils],none,0⟩,
 ⟨(some 15),.alloc [.nils,.nils],none,1⟩,
 ⟨none,.store (some 2) (.tmp 14) (.tmp 146),none,2⟩,
 ⟨none,.store (some 2) (.tmp 15) (.tmp 147),none,2⟩])
 (.seq (.region 0 [] [
 ⟨(some 148),.faddr 1 (.tmp 14),none,0⟩,
 ⟨(some 149),.load none (.tmp 148),none,0⟩,
 ⟨(some 150),.iaddr 1 (.tmp 149) (.cst (.c (.int .i64 0))),none,0⟩,
 ⟨none,.store none (.tmp 150) (.cst (.c (.int .i64 1))),none,0⟩])
 (.seq (.region 0 [] [
 ⟨(some 151),.faddr 0 (.tmp 15),none,0⟩,
 ⟨(some 152),.load none (.tmp 151),none,0⟩,
 ⟨(some 153),.slice 1 (.tmp 152) none (some (.cst (.c (.int .i64 4)))),none,0⟩,
 ⟨(some 154),.faddr 0 (.tmp 15),none,0⟩,
 ⟨none,.store none (.tmp 154) (.tmp 153),none,0⟩])
 (.seq (.seq (.frz [14])
 (.region 0 [(0,1),(4,5)] [
 ⟨(some 156),.call 6 true [(.cst (.c (.int .i64 0)))],none,0⟩,
 ⟨(some 157),.load (some 2) (.tmp 14),none,0⟩,
 ⟨(some 158),.call 5 true [(.tmp 156),(.tmp 157),(.cst (.c .nils))],none,0⟩,
 ⟨(some 155),.mov (.tmp 158),none,0⟩,
 ⟨(some 159),.extract 0 (.tmp 155),none,0⟩,
 ⟨(some 160),.extract 1 (.tmp 155),none,0⟩,
 ⟨(some 3),.mov (.tmp 160),none,0⟩]))
 (.seq (.region 0 [(0,1),(4,5)] [
 ⟨(some 162),.call 6 true [(.cst (.c (.int .i64 0)))],none,0⟩,
 ⟨(some 163),.load (some 2) (.tmp 15),none,0⟩,
 ⟨(some 164),.call 5 true [(.tmp 162),(.tmp 163),(.cst (.c .nils))],none,0⟩,
 ⟨(some 161),.mov (.tmp 164),none,0⟩,
 ⟨(some 165),.extract 0 (.tmp 161),none,0⟩,
 ⟨(some 166),.extract 1 (.tmp 161),none,0⟩,
 ⟨(some 5),.mov (.tmp 166),none,0⟩])
 (.seq (.region 1 [] [
 ⟨(some 168),.call 6 true [(.cst (.c (.int .i64 0)))],none,0⟩,
 ⟨(some 169),.call 4 true [],none,0⟩,
 ⟨(some 170),.bslice 1 3 [(.int .i64 0)] [(0,(.cst (.c (.int .i64 0)))),(1,(.cst (.c (.int .i64 1)))),(2,(.cst (.c (.int .i64 2))))],none,0⟩,
 ⟨(some 171),.call 5 true [(.tmp 168),(.tmp 169),(.tmp 170)],none,1⟩,
 ⟨(some 167),.mov (.tmp 171),none,1⟩,
 ⟨(some 172),.extract 0 (.tmp 167),none,1⟩,
 ⟨(some 173),.extract 1 (.tmp 167),none,1⟩,
 ⟨(some 7),.mov (.tmp 173),none,1⟩])
 (.seq (.region 1 [] [
 ⟨(some 175),.call 6 true [(.cst (.c (.int .i64 2)))],none,0⟩,
 ⟨(some 176),.bslice 1 2 [(.int .i64 0)] [(0,(.cst (.c (.int .i64 2)))),(1,(.cst (.c (.int .i64 1))))],none,0⟩,
 ⟨(some 177),.call 13 true [(.tmp 175),(.tmp 176)],none,1⟩,
 ⟨(some 174),.mov (.tmp 177),none,1⟩,
 ⟨(some 178),.extract 0 (.tmp 174),none,1⟩,
 ⟨(some 179),.extract 1 (.tmp 174),none,1⟩,
 ⟨(some 9),.mov (.tmp 179),none,1⟩])
 (.seq (.region 0 [] [
 ⟨(some 181),.call 6 true [(.cst (.c (.int .i64 2)))],none,0⟩,
 ⟨(some 182),.call 8 true [(.tmp 181),(.cst (.c (.int .i64 5)))],none,0⟩,
 ⟨(some 180),.mov (.tmp 182),none,0⟩,
 ⟨(some 183),.extract 0 (.tmp 180),none,0⟩,
 ⟨(some 184),.extract 1 (.tmp 180),none,0⟩,
 ⟨(some 11),.mov (.tmp 184),none,0⟩])
 (.seq (.region 0 [] [
 ⟨(some 186),.call 6 true [(.cst (.c (.int .i64 2)))],none,0⟩,
 ⟨(some 187),.call 14 true [(.tmp 186)],none,0⟩,
 ⟨(some 185),.mov (.tmp 187),none,0⟩,
 ⟨(some 188),.extract 0 (.tmp 185),none,0⟩,
 ⟨(some 189),.extract 1 (.tmp 185),none,0⟩,
 ⟨(some 190),.extract 2 (.tmp 185),none,0⟩,
 ⟨(some 13),.mov (.tmp 190),none,0⟩])
 (.seq (.region 0 [] [
 ⟨(some 192),.call 6 true [(.cst (.c (.int .i64 1)))],none,0⟩,
 ⟨(some 193),.call 15 true [(.tmp 192)],none,0⟩,
 ⟨(some 191),.mov (.tmp 193),none,0⟩,
 ⟨(some 194),.extract 0 (.tmp 191),none,0⟩,
 ⟨(some 195),.extract 1 (.tmp 191),none,0⟩,
 ⟨(some 16),.mov (.tmp 194),none,0⟩,
 ⟨(some 17),.mov (.tmp 195),none,0⟩])
 (.seq (.region 9 [] [
 ⟨(some 196),.call 6 true [(.cst (.c (.int .i64 1)))],none,0⟩,
 ⟨(some 197),.call 6 false [(.cst (.c (.int .i64 1)))],none,0⟩,
 ⟨(some 198),.call 6 false [(.cst (.c (.int .i64 1)))],none,0⟩,
 ⟨(some 199),.call 6 false [(.cst (.c (.int .i64 1)))],none,0⟩,
 ⟨(some 200),.call 6 true [(.cst (.c (.int .i64 1)))],none,0⟩,
 ⟨(some 201),.call 6 true [(.cst (.c (.int .i64 1)))],none,0⟩,
 ⟨(some 202),.call 6 false [(.cst (.c (.int .i64 1)))],none,0⟩,
 ⟨(some 203),.call 6 true [(.cst (.c (.int .i64 1)))],none,0⟩,
 ⟨(some 204),.call 6 false [(.cst (.c (.int .i64 1)))],none,0⟩,
 ⟨(some 18),.alloc [(.int .i64 0),.nils,.nils,.nils,.nils,(.int .i64 0),(.int .i64 0),(.int .i64 0),.nils],none,0⟩,
 ⟨(some 19),.alloc [(.int .i64 0),.nils,.nils,.nils,.nils,(.int .i64 0),(.int .i64 0),(.int .i64 0),.nils],none,1⟩,
 ⟨(some 20),.alloc [(.int .i64 0),.nils,.nils,.nils,.nils,(.int .i64 0),(.int .i64 0),(.int .i64 0),.nils],none,2⟩,
 ⟨(some 21),.alloc [(.int .i64 0),.nils,.nils,.nils,.nils,(.int .i64 0),(.int .i64 0),(.int .i64 0),.nils],none,3⟩,
 ⟨(some 22),.alloc [(.int .i64 0),.nils,.nils,.nils,.nils,(.int .i64 0),(.int .i64 0),(.int .i64 0),.nils],none,4⟩,
 ⟨(some 23),.alloc [(.int .i64 0),.nils,.nils,.nils,.nils,(.int .i64 0),(.int .i64 0),(.int .i64 0),.nils],none,5⟩,
 ⟨(some 24),.alloc [(.int .i64 0),.nils,.nils,.nils,.nils,(.int .i64 0),(.int .i64 0),(.int .i64 0),.nils],none,6⟩,
 ⟨(some 25),.alloc [(.int .i64 0),.nils,.nils,.nils,.nils,(.int .i64 0),(.int .i64 0),(.int .i64 0),.nils],none,7⟩,
 ⟨(some 26),.alloc [(.int .i64 0),.nils,.nils,.nils,.nils,(.int .i64 0),(.int .i64 0),(.int .i64 0),.nils],none,8⟩,
 ⟨none,.store (some 9) (.tmp 18) (.tmp 196),none,9⟩,
 ⟨none,.store (some 9) (.tmp 19) (.tmp 197),none,9⟩,
 ⟨none,.store (some 9) (.tmp 20) (.tmp 198),none,9⟩,
 ⟨none,.store (some 9) (.tmp 21) (.tmp 199),none,9⟩,
 ⟨none,.store (some 9) (.tmp 22) (.tmp 200),none,9⟩,
 ⟨none,.store (some 9) (.tmp 23) (.tmp 201),none,9⟩,
 ⟨none,.store (some 9) (.tmp 24) (.tmp 202),none,9⟩,
 ⟨none,.store (some 9) (.tmp 25) (.tmp 203),none,9⟩,
 ⟨none,.store (some 9) (.tmp 26) (.tmp 204),none,9⟩])
 (.seq (.region 0 [] [
 ⟨(some 205),.faddr 0 (.tmp 18),none,0⟩,
 ⟨none,.store none (.tmp 205) (.cst (.c (.int .i64 10))),none,0⟩])
 (.seq (.region 0 [(0,2),(1,2)] [
 ⟨(some 206),.faddr 1 (.tmp 19),none,0⟩,
 ⟨(some 207),.load none (.tmp 206),none,0⟩,
 ⟨(some 208),.call 10 true [(.cst (.c (.int .i64 0))),(.cst (.c (.int .i64 51)))],none,0⟩,
 ⟨(some 209),.iaddr 2 (.tmp 207) (.cst (.c (.int .i64 0))),none,0⟩,
 ⟨none,.store (some 2) (.tmp 209) (.tmp 208),none,0⟩])
 (.seq (.region 0 [] [
 ⟨(some 210),.faddr 2 (.tmp 20),none,0⟩,
 ⟨(some 211),.load none (.tmp 210),none,0⟩,
 ⟨(some 212),.iaddr 1 (.tmp 211) (.cst (.c (.int .i64 0))),none,0⟩,
 ⟨none,.store none (.tmp 212) (.cst (.c (.int .i64 3))),none,0⟩])
 (.seq (.region 0 [] [
 ⟨(some 213),.faddr 3 (.tmp 21),none,0⟩,
 ⟨(some 214),.load none (.tmp 213),none,0⟩,
 ⟨(some 215),.iaddr 1 (.tmp 214) (.cst (.c (.int .i64 1))),none,0⟩,
 ⟨none,.store none (.tmp 215) (.cst (.c (.int .i64 21))),none,0⟩])
 (.seq (.region 0 [] [
 ⟨(some 216),.faddr 5 (.tmp 22),none,0⟩,
 ⟨none,.store none (.tmp 216) (.cst (.c (.int .i64 0))),none,0⟩])
 (.seq (.region 1 [] [
 ⟨(some 217),.bslice 1 3 [(.int .i64 0)] [(0,(.cst (.c (.int .i64 0)))),(1,(.cst (.c (.int .i64 1)))),(2,(.cst (.c (.int .i64 2))))],none,0⟩,
 ⟨(some 218),.faddr 4 (.tmp 23),none,1⟩,
 ⟨none,.store none (.tmp 218) (.tmp 217),none,1⟩])
 (.seq (.region 0 [] [
 ⟨(some 219),.faddr 8 (.tmp 24),none,0⟩,
 ⟨(some 220),.load none (.tmp 219),none,0⟩,
 ⟨(some 221),.iaddr 3 (.tmp 220) (.cst (.c (.int .i64 0))),none,0⟩,
 ⟨(some 222),.faddr 0 (.tmp 221),none,0⟩,
 ⟨none,.store none (.tmp 222) (.cst (.c (.int .i64 5))),none,0⟩])
 (.seq (.region 1 [] [
 ⟨(some 223),.bslice 1 4 [(.int .i64 0)] [(0,(.cst (.c (.int .i64 4)))),(1,(.cst (.c (.int .i64 3)))),(2,(.cst (.c (.int .i64 2)))),(3,(.cst (.c (.int .i64 1))))],none,0⟩,
 ⟨(some 224),.faddr 3 (.tmp 25),none,1⟩,
 ⟨none,.store none (.tmp 224) (.tmp 223),none,1⟩])
 (.seq (.region 0 [(0,2),(1,2),(0,3),(1,3),(0,4),(1,4),(2,4),(3,4),(0,5),(1,5),(2,5),(3,5),(2,6),(3,6),(2,7),(3,7)] [
 ⟨(some 225),.faddr 1 (.tmp 26),none,0⟩,
 ⟨(some 226),.load none (.tmp 225),none,0⟩,
 ⟨(some 227),.faddr 1 (.tmp 26),none,0⟩,
 ⟨(some 228),.load none (.tmp 227),none,0⟩,
 ⟨(some 229),.call 10 true [(.cst (.c (.int .i64 0))),(.cst (.c (.int .i64 49)))],none,0⟩,
 ⟨(some 230),.call 10 true [(.cst (.c (.int .i64 0))),(.cst (.c (.int .i64 10)))],none,0⟩,
 ⟨(some 231),.iaddr 2 (.tmp 226) (.cst (.c (.int .i64 0))),none,0⟩,
 ⟨none,.store (some 2) (.tmp 231) (.tmp 229),none,0⟩,
 ⟨(some 232),.iaddr 2 (.tmp 228) (.cst (.c (.int .i64 1))),none,0⟩,
 ⟨none,.store (some 2) (.tmp 232) (.tmp 230),none,0⟩])
 (.seq (.region 0 [] [
 ⟨(some 233),.mov (.tmp 3),none,0⟩,
 ⟨(some 234),.bin .eql (.tmp 233) (.cst (.c (.int .i64 2))),none,0⟩,
 ⟨(some 235),.mov (.tmp 234),none,0⟩,
 ⟨(some 236),.mov (.tmp 5),some (235,true),0⟩,
 ⟨(some 237),.bin .eql (.tmp 236) (.cst (.c (.int .i64 2))),some (235,true),0⟩,
 ⟨(some 238),.pick (.tmp 235) (.tmp 237) (.cst (.c (.bool false))),none,0⟩,
 ⟨(some 239),.mov (.tmp 238),none,0⟩,
 ⟨(some 240),.mov (.tmp 7),some (239,true),0⟩,
 ⟨(some 241),.bin .eql (.tmp 240) (.cst (.c (.int .i64 2))),some (239,true),0⟩,
 ⟨(some 242),.pick (.tmp 239) (.tmp 241) (.cst (.c (.bool false))),none,0⟩,
 ⟨(some 243),.mov (.tmp 242),none,0⟩,
 ⟨(some 244),.mov (.tmp 9),some (243,true),0⟩,
 ⟨(some 245),.bin .eql (.tmp 244) (.cst (.c (.int .i64 2))),some (243,true),0⟩,
 ⟨(some 246),.pick (.tmp 243) (.tmp 245) (.cst (.c (.bool false))),none,0⟩,
 ⟨(some 247),.mov (.tmp 246),none,0⟩,
 ⟨(some 248),.mov (.tmp 11),some (247,true),0⟩,
 ⟨(some 249),.bin .eql (.tmp 248) (.cst (.c (.int .i64 2))),some (247,true),0⟩,
 ⟨(some 250),.pick (.tmp 247) (.tmp 249) (.cst (.c (.bool false))),none,0⟩,
 ⟨(some 251),.mov (.tmp 250),none,0⟩,
 ⟨(some 252),.mov (.tmp 13),some (251,true),0⟩,
 ⟨(some 253),.bin .eql (.tmp 252) (.cst (.c (.int .i64 11))),some (251,true),0⟩,
 ⟨(some 254),.pick (.tmp 251) (.tmp 253) (.cst (.c (.bool false))),none,0⟩,
 ⟨(some 255),.mov (.tmp 254),none,0⟩,
 ⟨(some 256),.mov (.tmp 17),some (255,true),0⟩,
 ⟨(some 257),.bin .eql (.tmp 256) (.cst (.c (.int .i64 7))),some (255,true),0⟩,
 ⟨(some 258),.pick (.tmp 255) (.tmp 257) (.cst (.c (.bool false))),none,0⟩,
 ⟨(some 259),.mov (.tmp 258),none,0⟩,
 ⟨(some 260),.load (some 9) (.tmp 18),some (259,true),0⟩,
 ⟨(some 261),.call 16 true [(.tmp 260)],some (259,true),0⟩,
 ⟨(some 262),.bin .eql (.tmp 261) (.cst (.c (.int .i64 3))),some (259,true),0⟩,
 ⟨(some 263),.pick (.tmp 259) (.tmp 262) (.cst (.c (.bool false))),none,0⟩,
 ⟨(some 264),.mov (.tmp 263),none,0⟩,
 ⟨(some 265),.load (some 9) (.tmp 19),some (264,true),0⟩,
 ⟨(some 266),.call 16 true [(.tmp 265)],some (264,true),0⟩,
 ⟨(some 267),.bin .eql (.tmp 266) (.cst (.c (.int .i64 1))),some (264,true),0⟩,
 ⟨(some 268),.pick (.tmp 264) (.tmp 267) (.cst (.c (.bool false))),none,0⟩,
 ⟨(some 269),.mov (.tmp 268),none,0⟩,
 ⟨(some 270),.load (some 9) (.tmp 20),some (269,true),0⟩,
 ⟨(some 271),.call 16 true [(.tmp 270)],some (269,true),0⟩,
 ⟨(some 272),.bin .eql (.tmp 271) (.cst (.c (.int .i64 1))),some (269,true),0⟩,
 ⟨(some 273),.pick (.tmp 269) (.tmp 272) (.cst (.c (.bool false))),none,0⟩,
 ⟨(some 274),.mov (.tmp 273),none,0⟩,
 ⟨(some 275),.load (some 9) (.tmp 21),some (274,true),0⟩,
 ⟨(some 276),.call 16 true [(.tmp 275)],some (274,true),0⟩,
 ⟨(some 277),.bin .eql (.tmp 276) (.cst (.c (.int .i64 1))),some (274,true),0⟩,
 ⟨(some 278),.pick (.tmp 274) (.tmp 277) (.cst (.c (.bool false))),none,0⟩,
 ⟨(some 279),.mov (.tmp 278),none,0⟩,
 ⟨(some 280),.load (some 9) (.tmp 22),some (279,true),0⟩,
 ⟨(some 281),.call 16 true [(.tmp 280)],some (279,true),0⟩,
 ⟨(some 282),.bin .eql (.tmp 281) (.cst (.c (.int .i64 1))),some (279,true),0⟩,
 ⟨(some 283),.pick (.tmp 279) (.tmp 282) (.cst (.c (.bool false))),none,0⟩,
 ⟨(some 284),.mov (.tmp 283),none,0⟩,
 ⟨(some 285),.load (some 9) (.tmp 23),some (284,true),0⟩,
 ⟨(some 286),.call 16 true [(.tmp 285)],some (284,true),0⟩,
 ⟨(some 287),.bin .eql (.tmp 286) (.cst (.c (.int .i64 1))),some (284,true),0⟩,
 ⟨(some 288),.pick (.tmp 284) (.tmp 287) (.cst (.c (.bool false))),none,0⟩,
 ⟨(some 289),.mov (.tmp 288),none,0⟩,
 ⟨(some 290),.load (some 9) (.tmp 24),some (289,true),0⟩,
 ⟨(some 291),.call 16 true [(.tmp 290)],some (289,true),0⟩,
 ⟨(some 292),.bin .eql (.tmp 291) (.cst (.c (.int .i64 1))),some (289,true),0⟩,
 ⟨(some 293),.pick (.tmp 289) (.tmp 292) (.cst (.c (.bool false))),none,0⟩,
 ⟨(some 294),.mov (.tmp 293),none,0⟩,
 ⟨(some 295),.load (some 9) (.tmp 25),some (294,true),0⟩,
 ⟨(some 296),.call 16 true [(.tmp 295)],some (294,true),0⟩,
 ⟨(some 297),.bin .eql (.tmp 296) (.cst (.c (.int .i64 3))),some (294,true),0⟩,
 ⟨(some 298),.pick (.tmp 294) (.tmp 297) (.cst (.c (.bool false))),none,0⟩,
 ⟨(some 299),.mov (.tmp 298),none,0⟩,
 ⟨(some 300),.load (some 9) (.tmp 26),some (299,true),0⟩,
 ⟨(some 301),.call 16 true [(.tmp 300)],some (299,true),0⟩,
 ⟨(some 302),.bin .eql (.tmp 301) (.cst (.c (.int .i64 3))),some (299,true),0⟩,
 ⟨(some 303),.pick (.tmp 299) (.tmp 302) (.cst (.c (.bool false))),none,0⟩,
 ⟨(some 304),.mov (.tmp 303),none,0⟩,
 ⟨(some 305),.build [(.int .i64 0),.nils,.nils,.nils,.nils,(.int .i64 0),(.int .i64 0),(.int .i64 0),.nils] [],some (304,true),0⟩,
 ⟨(some 306),.call 16 true [(.tmp 305)],some (304,true),0⟩,
 ⟨(some 307),.bin .eql (.tmp 306) (.cst (.c (.int .i64 1))),some (304,true),0⟩,
 ⟨(some 308),.pick (.tmp 304) (.tmp 307) (.cst (.c (.bool false))),none,0⟩,
 ⟨(some 309),.mov (.tmp 308),none,0⟩,
 ⟨(some 310),.call 17 true [],some (309,true),0⟩,
 ⟨(some 311),.pick (.tmp 309) (.tmp 310) (.cst (.c (.bool false))),none,0⟩,
 ⟨(some 0),.mov (.tmp 311),none,0⟩])
 .ret)))))))))))))))))))))))))))))))⟩
def f4 : AFunc:=⟨4,[.cell 0 (some 2)],false,
 (.seq (.region 1 [] [
 ⟨(some 0),.alloc [.nils,.nils],none,0⟩])
 (.seq (.region 2 [] [
 ⟨(some 1),.bslice 1 5 [(.int .i64 0)] [(0,(.cst (.c (.int .i64 10)))),(1,(.cst (.c (.int .i64 8)))),(2,(.cst (.c (.int .i64 6)))),(3,(.cst (.c (.int .i64 4)))),(4,(.cst (.c (.int .i64 2))))],none,0⟩,
 ⟨(some 2),.bslice 1 5 [(.int .i64 0)] [(0,(.cst (.c (.int .i64 0)))),(1,(.cst (.c (.int .i64 0)))),(2,(.cst (.c (.int .i64 0)))),(3,(.cst (.c (.int .i64 1)))),(4,(.cst (.c (.int .i64 0))))],none,1⟩,
 ⟨(some 3),.build [.nils,.nils] [(0,1,(.tmp 1)),(1,1,(.tmp 2))],none,2⟩,
 ⟨none,.store (some 2) (.tmp 0) (.tmp 3),none,2⟩])
 .ret))⟩
def f5 : AFunc:=⟨29,[.tmp 6,.tmp 7],false,
 (.seq (.region 2 [] [
 ⟨(some 3),.box (.tmp 0),none,0⟩,
 ⟨(some 4),.box (.tmp 1),none,1⟩,
 ⟨(some 6),.mov (.cst (.c .nils)),none,2⟩,
 ⟨(some 7),.mov (.cst (.c (.int .i64 0))),none,2⟩])
 (.seq (.seq (.region 0 [] [
 ⟨(some 9),.load (some 9) (.tmp 3),none,0⟩,
 ⟨(some 10),.call 16 true [(.tmp 9)],none,0⟩,
 ⟨(some 8),.mov (.tmp 10),none,0⟩])
 (.seq (.region 0 [] [
 ⟨(some 11),.mov (.tmp 8),none,0⟩,
 ⟨(some 12),.bin .neq (.tmp 11) (.cst (.c (.int .i64 0))),none,0⟩])
 (.cond (.tmp 12)
 (.seq (.region 0 [] [
 ⟨(some 13),.mov (.tmp 8),none,0⟩,
 ⟨(some 6),.mov (.cst (.c .nils)),none,0⟩,
 ⟨(some 7),.mov (.tmp 13),none,0⟩])
 .ret)
 .skip)))
 (.seq (.seq (.region 0 [] [
 ⟨(some 14),.load (some 9) (.tmp 3),none,0⟩,
 ⟨(some 15),.load (some 2) (.tmp 4),none,0⟩,
 ⟨(some 16),.call 18 true [(.tmp 14),(.tmp 15)],none,0⟩,
 ⟨(some 17),.not (.tmp 16),none,0⟩,
 ⟨(some 18),.mov (.tmp 17),none,0⟩,
 ⟨(some 19),.load (some 9) (.tmp 3),some (18,false),0⟩,
 ⟨(some 20),.mov (.tmp 2),some (18,false),0⟩,
 ⟨(some 21),.call 19 true [(.tmp 19),(.tmp 20)],some (18,false),0⟩,
 ⟨(some 22),.not (.tmp 21),some (18,false),0⟩,
 ⟨(some 23),.pick (.tmp 18) (.cst (.c (.bool true))) (.tmp 22),none,0⟩])
 (.cond (.tmp 23)
 (.seq (.region 0 [] [
 ⟨(some 6),.mov (.cst (.c .nils)),none,0⟩,
 ⟨(some 7),.mov (.cst (.c (.int .i64 2))),none,0⟩])
 .ret)
 .skip))
 (.seq (.region 0 [(0,2),(1,2),(0,3),(1,3),(2,3)] [
 ⟨(some 24),.load (some 9) (.tmp 3),none,0⟩,
 ⟨(some 25),.call 20 false [(.tmp 24)],none,0⟩,
 ⟨(some 26),.load (some 2) (.tmp 4),none,0⟩,
 ⟨(some 27),.mov (.tmp 2),none,0⟩,
 ⟨(some 28),.call 21 false [(.tmp 25),(.tmp 26),(.tmp 27)],none,0⟩,
 ⟨(some 6),.mov (.tmp 28),none,0⟩,
 ⟨(some 7),.mov (.cst (.c (.int .i64 0))),none,0⟩])
 .ret))))⟩
def f6 : AFunc:=⟨21,[.cell 2 (some 9)],false,
 (.seq (.region 1 [] [
 ⟨(some 2),.alloc [(.int .i64 0),.nils,.nils,.nils,.nils,(.int .i64 0),(.int .i64 0),(.int .i64 0),.nils],none,0⟩])
 (.seq (.region 1 [] [
 ⟨(some 4),.call 10 true [(.cst (.c (.int .i64 25))),(.cst (.c (.int .i64 25)))],none,0⟩,
 ⟨(some 5),.build [(.int .i64 0),(.int .i64 0),(.int .i64 0)] [(0,1,(.cst (.c (.int .i64 2)))),(1,2,(.tmp 4))],none,0⟩,
 ⟨(some 6),.call 10 true [(.cst (.c (.int .i64 18))),(.cst (.c (.int .i64 18)))],none,0⟩,
 ⟨(some 7),.build [(.int .i64 0),(.int .i64 0),(.int .i64 0)] [(0,1,(.cst (.c (.int .i64 1)))),(1,2,(.tmp 6))],none,0⟩,
 ⟨(some 8),.bslice 3 2 [(.int .i64 0),(.int .i64 0),(.int .i64 0)] [(0,(.tmp 5)),(1,(.tmp 7))],none,0⟩,
 ⟨(some 3),.mov (.tmp 8),none,1⟩])
 (.seq (.region 3 [(0,6),(1,6),(2,6),(3,6),(4,6),(5,6),(0,7),(1,7),(2,7),(3,7),(4,7),(5,7),(6,7),(0,8),(1,8),(2,8),(3,8),(4,8),(5,8),(6,8),(7,8),(0,9),(1,9),(2,9),(3,9),(4,9),(5,9),(6,9),(7,9),(8,9),(0,10),(1,10),(2,10),(3,10),(4,10),(5,10),(6,10),(7,10)] [
 ⟨(some 9),.call 10 true [(.cst (.c (.int .i64 10))),(.cst (.c (.int .i64 12)))],none,0⟩,
 ⟨(some 10),.call 10 true [(.cst (.c (.int .i64 8))),(.cst (.c (.int .i64 8)))],none,0⟩,
 ⟨(some 11),.call 10 true [(.cst (.c (.int .i64 6))),(.cst (.c (.int .i64 6)))],none,0⟩,
 ⟨(some 12),.call 10 true [(.cst (.c (.int .i64 4))),(.cst (.c (.int .i64 5)))],none,0⟩,
 ⟨(some 13),.call 10 true [(.cst (.c (.int .i64 2))),(.cst (.c (.int .i64 2)))],none,0⟩,
 ⟨(some 14),.bslice 2 5 [(.int .i64 0),(.int .i64 0)] [(0,(.tmp 9)),(1,(.tmp 10)),(2,(.tmp 11)),(3,(.tmp 12)),(4,(.tmp 13))],none,0⟩,
 ⟨(some 15),.bslice 1 5 [(.int .i64 0)] [(0,(.cst (.c (.int .i64 0)))),(1,(.cst (.c (.int .i64 2)))),(2,(.cst (.c (.int .i64 0)))),(3,(.cst (.c (.int .i64 1)))),(4,(.cst (.c (.int .i64 0))))],none,1⟩,
 ⟨(some 16),.bslice 1 2 [(.int .i64 0)] [(0,(.cst (.c (.int .i64 20)))),(1,(.cst (.c (.int .i64 15))))],none,2⟩,
 ⟨(some 17),.mov (.tmp 3),none,3⟩,
 ⟨(some 18),.mov (.tmp 0),none,3⟩,
 ⟨(some 19),.slice 3 (.tmp 17) none (some (.tmp 18)),none,3⟩,
 ⟨(some 20),.build [(.int .i64 0),.nils,.nils,.nils,.nils,(.int .i64 0),(.int .i64 0),(.int .i64 0),.nils] [(0,1,(.cst (.c (.int .i64 4)))),(1,1,(.tmp 14)),(2,1,(.tmp 15)),(3,1,(.tmp 16)),(5,1,(.cst (.c (.int .i64 2)))),(6,1,(.cst (.c (.int .i64 4)))),(7,1,(.cst (.c (.int .i64 50)))),(8,1,(.tmp 19))],none,3⟩,
 ⟨none,.store (some 9) (.tmp 2) (.tmp 20),none,3⟩])
 .ret)))⟩
def f7 : AFunc:=⟨21,[.cell 4 (some 2),.tmp 5],false,
 (.seq (.region 3 [] [
 ⟨(some 2),.box (.tmp 0),none,0⟩,
 ⟨(some 3),.box (.tmp 1),none,1⟩,
 ⟨(some 4),.alloc [(.int .i64 0),(.int .i64 0)],none,2⟩,
 ⟨(some 5),.mov (.cst (.c (.int .i64 0))),none,3⟩])
 (.seq (.region 1 [] [
 ⟨(some 9),.load (some 9) (.tmp 2),none,0⟩,
 ⟨(some 10),.load none (.tmp 3),none,0⟩,
 ⟨(some 11),.call 22 false [(.tmp 9),(.tmp 10)],none,0⟩,
 ⟨(some 8),.mov (.tmp 11),none,0⟩,
 ⟨(some 12),.extract 0 (.tmp 8),none,0⟩,
 ⟨(some 13),.extract 1 (.tmp 8),none,0⟩,
 ⟨(some 6),.alloc [.nilp],none,0⟩,
 ⟨none,.store none (.tmp 6) (.tmp 12),none,1⟩,
 ⟨(some 7),.mov (.tmp 13),none,1⟩])
 (.seq (.seq (.region 0 [] [
 ⟨(some 14),.mov (.tmp 7),none,0⟩,
 ⟨(some 15),.bin .neq (.tmp 14) (.cst (.c (.int .i64 0))),none,0⟩])
 (.cond (.tmp 15)
 (.seq (.region 0 [] [
 ⟨(some 16),.build [(.int .i64 0),(.int .i64 0)] [],none,0⟩,
 ⟨(some 17),.mov (.tmp 7),none,0⟩,
 ⟨none,.store (some 2) (.tmp 4) (.tmp 16),none,0⟩,
 ⟨(some 5),.mov (.tmp 17),none,0⟩])
 .ret)
 .skip))
 (.seq (.region 0 [] [
 ⟨(some 18),.load none (.tmp 6),none,0⟩,
 ⟨(some 19),.mkfn 24 none [(.tmp 6),(.tmp 3)],none,0⟩,
 ⟨(some 20),.call 23 false [(.tmp 18),(.tmp 19)],none,0⟩,
 ⟨none,.store (some 2) (.tmp 4) (.tmp 20),none,0⟩,
 ⟨(some 5),.mov (.cst (.c (.int .i64 0))),none,0⟩])
 .ret))))⟩
def f8 : AFunc:=⟨21,[.cell 4 (some 2),.tmp 5],false,
 (.seq (.region 3 [] [
 ⟨(some 2),.box (.tmp 0),none,0⟩,
 ⟨(some 3),.box (.tmp 1),none,1⟩,
 ⟨(some 4),.alloc [(.int .i64 0),(.int .i64 0)],none,2⟩,
 ⟨(some 5),.mov (.cst (.c (.int .i64 0))),none,3⟩])
 (.seq (.region 1 [] [
 ⟨(some 9),.load (some 9) (.tmp 2),none,0⟩,
 ⟨(some 10),.mkfn 27 none [(.tmp 3)],none,0⟩,
 ⟨(some 11),.call 26 false [(.tmp 9),(.tmp 10)],none,0⟩,
 ⟨(some 8),.mov (.tmp 11),none,0⟩,
 ⟨(some 12),.extract 0 (.tmp 8),none,0⟩,
 ⟨(some 13),.extract 1 (.tmp 8),none,0⟩,
 ⟨(some 6),.alloc [.nilp],none,0⟩,
 ⟨none,.store none (.tmp 6) (.tmp 12),none,1⟩,
 ⟨(some 7),.mov (.tmp 13),none,1⟩])
 (.seq (.seq (.region 0 [] [
 ⟨(some 14),.mov (.tmp 7),none,0⟩,
 ⟨(some 15),.bin .neq (.tmp 14) (.cst (.c (.int .i64 0))),none,0⟩])
 (.cond (.tmp 15)
 (.seq (.region 0 [] [
 ⟨(some 16),.build [(.int .i64 0),(.int .i64 0)] [],none,0⟩,
 ⟨(some 17),.mov (.tmp 7),none,0⟩,
 ⟨none,.store (some 2) (.tmp 4) (.tmp 16),none,0⟩,
 ⟨(some 5),.mov (.tmp 17),none,0⟩])
 .ret)
 .skip))
 (.seq (.region 0 [] [
 ⟨(some 18),.load none (.tmp 6),none,0⟩,
 ⟨(some 19),.mkfn 29 none [(.tmp 6),(.tmp 3)],none,0⟩,
 ⟨(some 20),.call 23 false [(.tmp 18),(.tmp 19)],none,0⟩,
 ⟨none,.store (some 2) (.tmp 4) (.tmp 20),none,0⟩,
 ⟨(some 5),.mov (.cst (.c (.int .i64 0))),none,0⟩])
 .ret))))⟩
def f9 : AFunc:=⟨29,[.tmp 2,.tmp 3],false,
 (.seq (.region 1 [] [
 ⟨(some 1),.box (.tmp 0),none,0⟩,
 ⟨(some 2),.mov (.cst (.c .nils)),none,1⟩,
 ⟨(some 3),.mov (.cst (.c (.int .i64 0))),none,1⟩])
 (.seq (.seq (.region 0 [] [
 ⟨(some 9),.load (some 9) (.tmp 1),none,0⟩,
 ⟨(some 10),.call 16 true [(.tmp 9)],none,0⟩,
 ⟨(some 4),.mov (.tmp 10),none,0⟩])
 (.seq (.region 0 [] [
 ⟨(some 11),.mov (.tmp 4),none,0⟩,
 ⟨(some 12),.bin .neq (.tmp 11) (.cst (.c (.int .i64 0))),none,0⟩])
 (.cond (.tmp 12)
 (.seq (.region 0 [] [
 ⟨(some 13),.mov (.tmp 4),none,0⟩,
 ⟨(some 2),.mov (.cst (.c .nils)),none,0⟩,
 ⟨(some 3),.mov (.tmp 13),none,0⟩])
 .ret)
 .skip)))
 (.seq (.region 1 [] [
 ⟨(some 14),.load (some 9) (.tmp 1),none,0⟩,
 ⟨(some 15),.call 20 false [(.tmp 14)],none,0⟩,
 ⟨(some 5),.alloc [.nilp],none,0⟩,
 ⟨none,.store none (.tmp 5) (.tmp 15),none,1⟩])
 (.seq (.region 1 [] [
 ⟨(some 6),.alloc [.nils],none,0⟩])
 (.seq (.region 1 [] [
 ⟨(some 7),.alloc [.nilfn],none,0⟩])
 (.seq (.region 0 [] [
 ⟨(some 16),.mkfn 31 none [(.tmp 6),(.tmp 5),(.tmp 1),(.tmp 7)],none,0⟩,
 ⟨none,.store none (.tmp 7) (.tmp 16),none,0⟩])
 (.seq .skip
 (.seq (.seq (.region 0 [] [
 ⟨(some 17),.faddr 8 (.tmp 1),none,0⟩,
 ⟨(some 18),.load none (.tmp 17),none,0⟩,
 ⟨(some 19),.len (.tmp 18),none,0⟩,
 ⟨(some 20),.bin .add (.tmp 19) (.cst (.c (.int .i64 1))),none,0⟩,
 ⟨(some 21),.mov (.cst (.c (.int .i64 0))),none,0⟩])
 (.block 0 (.loop ⟨[8,22,23,24,25,26,27],false,[]⟩
 (.seq (.region 0 [] [
 ⟨(some 22),.bin .lss (.tmp 21) (.tmp 20),none,0⟩])
 (.seq (.cond (.tmp 22)
 .skip
 (.exit 0))
 (.seq (.block 1 (.seq (.region 0 [] [
 ⟨(some 23),.mov (.tmp 21),none,0⟩,
 ⟨(some 8),.mov (.tmp 23),none,0⟩])
 (.seq (.region 0 [] [
 ⟨(some 24),.load none (.tmp 7),none,0⟩,
 ⟨(some 25),.mov (.tmp 8),none,0⟩,
 ⟨(some 26),.callv (.tmp 24) [(.cst (.c .nils)),(.cst (.c (.int .i64 0))),(.tmp 25)],none,0⟩])
 (.cond (.tmp 26)
 (.exit 0)
 .skip))))
 (.region 0 [] [
 ⟨(some 27),.bin .add (.tmp 21) (.cst (.c (.int .i64 1))),none,0⟩,
 ⟨(some 21),.mov (.tmp 27),none,0⟩])))))))
 (.seq (.region 0 [] [
 ⟨(some 28),.load none (.tmp 6),none,0⟩,
 ⟨(some 2),.mov (.tmp 28),none,0⟩,
 ⟨(some 3),.mov (.cst (.c (.int .i64 0))),none,0⟩])
 .ret)))))))))⟩
def f10 : AFunc:=⟨8,[.cell 4 (some 2)],false,
 (.seq (.region 1 [] [
 ⟨(some 4),.alloc [(.int .i64 0),(.int .i64 0)],none,0⟩])
 (.seq (.region 0 [] [
 ⟨(some 5),.mov (.tmp 0),none,0⟩,
 ⟨(some 6),.mov (.tmp 1),none,0⟩,
 ⟨(some 7),.build [(.int .i64 0),(.int .i64 0)] [(0,1,(.tmp 5)),(1,1,(.tmp 6))],none,0⟩,
 ⟨none,.store (some 2) (.tmp 4) (.tmp 7),none,0⟩])
 .ret))⟩
def f11 : AFunc:=⟨25,[.tmp 4],false,
 (.seq (.region 2 [] [
 ⟨(some 2),.box (.tmp 0),none,0⟩,
 ⟨(some 3),.box (.tmp 1),none,1⟩,
 ⟨(some 4),.mov (.cst (.c (.bool false))),none,2⟩])
 (.seq (.seq (.region 0 [] [
 ⟨(some 6),.load (some 9) (.tmp 2),none,0⟩,
 ⟨(some 7),.call 16 true [(.tmp 6)],none,0⟩,
 ⟨(some 8),.bin .neq (.tmp 7) (.cst (.c (.int .i64 0))),none,0⟩,
 ⟨(some 9),.mov (.tmp 8),none,0⟩,
 ⟨(some 10),.load (some 9) (.tmp 2),some (9,false),0⟩,
 ⟨(some 11),.load (some 2) (.tmp 3),some (9,false),0⟩,
 ⟨(some 12),.call 18 true [(.tmp 10),(.tmp 11)],some (9,false),0⟩,
 ⟨(some 13),.not (.tmp 12),some (9,false),0⟩,
 ⟨(some 14),.pick (.tmp 9) (.cst (.c (.bool true))) (.tmp 13),none,0⟩])
 (.cond (.tmp 14)
 (.seq (.region 0 [] [
 ⟨(some 4),.mov (.cst (.c (.bool false))),none,0⟩])
 .ret)
 .skip))
 (.seq (.region 1 [(0,2),(1,2),(0,3),(1,3),(2,3),(0,4),(1,4),(2,4),(0,6),(1,6),(2,6),(3,6),(4,6),(5,6)] [
 ⟨(some 15),.load (some 9) (.tmp 2),none,0⟩,
 ⟨(some 16),.call 20 true [(.tmp 15)],none,0⟩,
 ⟨(some 17),.load (some 2) (.tmp 3),none,0⟩,
 ⟨(some 18),.faddr 4 (.tmp 2),none,0⟩,
 ⟨(some 19),.load none (.tmp 18),none,0⟩,
 ⟨(some 20),.call 30 true [(.tmp 16),(.tmp 17),(.tmp 19)],none,0⟩,
 ⟨(some 5),.alloc [(.int .i64 0),(.int .i64 0),(.int .i64 0),(.int .i64 0),(.int .i64 0),(.int .i64 0),(.int .i64 0),(.int .i64 0),(.int .i64 0),(.int .i64 0)],none,0⟩,
 ⟨none,.store (some 10) (.tmp 5) (.tmp 20),none,1⟩])
 (.seq (.region 0 [] [
 ⟨(some 21),.faddr 8 (.tmp 2),none,0⟩,
 ⟨(some 22),.load none (.tmp 21),none,0⟩,
 ⟨(some 23),.mkfn 35 none [(.tmp 5)],none,0⟩,
 ⟨(some 24),.call 34 false [(.tmp 22),(.tmp 23)],none,0⟩,
 ⟨(some 4),.mov (.tmp 24),none,0⟩])
 .ret))))⟩
def f12 : AFunc:=⟨23,[.tmp 6],false,
 (.seq (.region 1 [] [
 ⟨(some 3),.box (.tmp 0),none,0⟩,
 ⟨(some 6),.mov (.cst (.c (.bool false))),none,1⟩])
 (.seq (.region 1 [] [
 ⟨(some 10),.load (some 9) (.tmp 3),none,0⟩,
 ⟨(some 11),.mov (.tmp 1),none,0⟩,
 ⟨(some 12),.call 7 true [(.tmp 10),(.tmp 11)],none,0⟩,
 ⟨(some 9),.mov (.tmp 12),none,0⟩,
 ⟨(some 13),.extract 0 (.tmp 9),none,0⟩,
 ⟨(some 14),.extract 1 (.tmp 9),none,0⟩,
 ⟨(some 7),.alloc [(.int .i64 0),(.int .i64 0)],none,0⟩,
 ⟨none,.store (some 2) (.tmp 7) (.tmp 13),none,1⟩,
 ⟨(some 8),.mov (.tmp 14),none,1⟩])
 (.seq (.region 0 [] [
 ⟨(some 15),.mov (.tmp 8),none,0⟩,
 ⟨(some 16),.bin .eql (.tmp 15) (.cst (.c (.int .i64 0))),none,0⟩,
 ⟨(some 17),.mov (.tmp 16),none,0⟩,
 ⟨(some 18),.faddr 0 (.tmp 7),some (17,true),0⟩,
 ⟨(some 19),.load none (.tmp 18),some (17,true),0⟩,
 ⟨(some 20),.mov (.tmp 2),some (17,true),0⟩,
 ⟨(some 21),.bin .geq (.tmp 19) (.tmp 20),some (17,true),0⟩,
 ⟨(some 22),.pick (.tmp 17) (.tmp 21) (.cst (.c (.bool false))),none,0⟩,
 ⟨(some 6),.mov (.tmp 22),none,0⟩])
 .ret)))⟩
def f13 : AFunc:=⟨47,[.tmp 4,.tmp 5],false,
 (.seq (.region 1 [] [
 ⟨(some 2),.box (.tmp 0),none,0⟩,
 ⟨(some 4),.mov (.cst (.c .nils)),none,1⟩,
 ⟨(some 5),.mov (.cst (.c (.int .i64 0))),none,1⟩])
 (.seq (.region 0 [] [
 ⟨(some 11),.load (some 9) (.tmp 2),none,0⟩,
 ⟨(some 12),.mov (.tmp 1),none,0⟩,
 ⟨(some 13),.call 22 false [(.tmp 11),(.tmp 12)],none,0⟩,
 ⟨(some 10),.mov (.tmp 13),none,0⟩,
 ⟨(some 14),.extract 0 (.tmp 10),none,0⟩,
 ⟨(some 15),.extract 1 (.tmp 10),none,0⟩,
 ⟨(some 6),.mov (.tmp 14),none,0⟩,
 ⟨(some 7),.mov (.tmp 15),none,0⟩])
 (.seq (.seq (.region 0 [] [
 ⟨(some 16),.mov (.tmp 7),none,0⟩,
 ⟨(some 17),.bin .neq (.tmp 16) (.cst (.c (.int .i64 0))),none,0⟩])
 (.cond (.tmp 17)
 (.seq (.region 0 [] [
 ⟨(some 18),.mov (.tmp 7),none,0⟩,
 ⟨(some 4),.mov (.cst (.c .nils)),none,0⟩,
 ⟨(some 5),.mov (.tmp 18),none,0⟩])
 .ret)
 .skip))
 (.seq (.region 0 [] [
 ⟨(some 8),.mov (.cst (.c .nils)),none,0⟩])
 (.seq (.seq (.region 0 [] [
 ⟨(some 19),.mov (.tmp 1),none,0⟩,
 ⟨(some 20),.len (.tmp 19),none,0⟩,
 ⟨(some 21),.mov (.cst (.c (.int .i64 0))),none,0⟩])
 (.block 0 (.loop ⟨[9,22,23,24,25,26,27,28,29,30,31,32,33,34,35,36,37,38,39,40,41,42,43,44,45],false,[(8,none,5)]⟩
 (.seq (.region 0 [] [
 ⟨(some 22),.bin .lss (.tmp 21) (.tmp 20),none,0⟩])
 (.seq (.cond (.tmp 22)
 .skip
 (.exit 0))
 (.seq (.block 1 (.seq (.region 0 [] [
 ⟨(some 23),.mov (.tmp 21),none,0⟩,
 ⟨(some 9),.mov (.tmp 23),none,0⟩])
 (.region 2 [(0,1),(0,2),(1,2),(0,3),(1,3),(2,3),(0,4),(1,4),(2,4),(3,4),(0,5),(0,6),(1,6),(2,6),(3,6),(4,6),(5,6),(0,7),(1,7),(2,7),(3,7),(4,7),(5,7),(0,8),(1,8),(2,8),(3,8),(4,8),(5,8),(0,9),(1,9),(2,9),(3,9),(4,9),(5,9),(0,10),(1,10),(2,10),(3,10),(4,10),(5,10),(6,10),(7,10),(8,10),(9,10),(0,11),(1,11),(2,11),(3,11),(4,11),(5,11),(6,11),(7,11),(8,11),(9,11),(10,11),(0,12),(0,13),(1,13),(2,13),(3,13),(4,13),(5,13),(6,13),(7,13),(8,13),(9,13),(10,13),(11,13),(12,13),(0,14),(1,14),(2,14),(3,14),(4,14),(5,14),(6,14),(7,14),(8,14),(9,14),(10,14),(11,14),(12,14),(13,14),(0,15),(1,15),(2,15),(3,15),(4,15),(5,15),(6,15),(7,15),(8,15),(9,15),(10,15),(11,15),(12,15),(13,15),(14,15),(0,16),(1,16),(2,16),(3,16),(4,16),(5,16),(6,16),(7,16),(8,16),(9,16),(10,16),(11,16),(12,16),(13,16),(14,16),(15,16),(0,17),(0,18),(0,19)] [
 ⟨(some 24),.mov (.tmp 8),none,0⟩,
 ⟨(some 25),.build [.nilfn] [(0,1,(.cst (.c (.fn 37 false [] []))))],none,0⟩,
 ⟨(some 26),.mov (.tmp 6),none,0⟩,
 ⟨(some 27),.mov (.tmp 1),none,0⟩,
 ⟨(some 28),.mov (.tmp 9),none,0⟩,
 ⟨(some 29),.call 38 false [(.tmp 25),(.tmp 26),(.tmp 27),(.tmp 28)],none,0⟩,
 ⟨(some 30),.mov (.tmp 6),none,0⟩,
 ⟨(some 31),.nilchk (.tmp 30),none,0⟩,
 ⟨(some 32),.faddr 0 (.tmp 31),none,0⟩,
 ⟨(some 33),.load (some 9) (.tmp 32),none,0⟩,
 ⟨(some 34),.mov (.tmp 1),none,0⟩,
 ⟨(some 35),.mov (.tmp 9),none,0⟩,
 ⟨(some 36),.call 39 true [(.tmp 33),(.tmp 34),(.tmp 35)],none,0⟩,
 ⟨(some 37),.build [.nilfn] [(0,1,(.cst (.c (.fn 40 false [] []))))],none,0⟩,
 ⟨(some 38),.mov (.tmp 6),none,0⟩,
 ⟨(some 39),.mov (.tmp 1),none,0⟩,
 ⟨(some 40),.mov (.tmp 9),none,0⟩,
 ⟨(some 41),.call 38 false [(.tmp 37),(.tmp 38),(.tmp 39),(.tmp 40)],none,0⟩,
 ⟨(some 42),.build [(.int .i64 0),(.int .i64 0),(.int .i64 0),(.int .i64 0),(.int .i64 0)] [(0,2,(.tmp 29)),(2,1,(.tmp 36)),(3,2,(.tmp 41))],none,0⟩,
 ⟨(some 43),.bslice 5 1 [(.int .i64 0),(.int .i64 0),(.int .i64 0),(.int .i64 0),(.int .i64 0)] [(0,(.tmp 42))],none,0⟩,
 ⟨(some 44),.append 5 40 (.tmp 24) (.tmp 43),none,1⟩,
 ⟨(some 8),.mov (.tmp 44),none,2⟩])))
 (.region 0 [] [
 ⟨(some 45),.bin .add (.tmp 21) (.cst (.c (.int .i64 1))),none,0⟩,
 ⟨(some 21),.mov (.tmp 45),none,0⟩])))))))
 (.seq (.region 0 [] [
 ⟨(some 46),.mov (.tmp 8),none,0⟩,
 ⟨(some 4),.mov (.tmp 46),none,0⟩,
 ⟨(some 5),.mov (.cst (.c (.int .i64 0))),none,0⟩])
 .ret))))))⟩
def f14 : AFunc:=⟨35,[.cell 2 none,.cell 3 none,.tmp 4],false,
 (.seq (.region 3 [] [
 ⟨(some 1),.box (.tmp 0),none,0⟩,
 ⟨(some 2),.alloc [.nils],none,1⟩,
 ⟨(some 3),.alloc [(.int .i64 0)],none,2⟩,
 ⟨(some 4),.mov (.cst (.c (.int .i64 0))),none,3⟩])
 (.seq (.region 1 [] [
 ⟨(some 10),.load (some 9) (.tmp 1),none,0⟩,
 ⟨(some 11),.call 22 false [(.tmp 10),(.cst (.c .nils))],none,0⟩,
 ⟨(some 9),.mov (.tmp 11),none,0⟩,
 ⟨(some 12),.extract 0 (.tmp 9),none,0⟩,
 ⟨(some 13),.extract 1 (.tmp 9),none,0⟩,
 ⟨(some 5),.alloc [.nilp],none,0⟩,
 ⟨none,.store none (.tmp 5) (.tmp 12),none,1⟩,
 ⟨(some 4),.mov (.tmp 13),none,1⟩])
 (.seq (.seq (.region 0 [] [
 ⟨(some 14),.mov (.tmp 4),none,0⟩,
 ⟨(some 15),.bin .neq (.tmp 14) (.cst (.c (.int .i64 0))),none,0⟩])
 (.cond (.tmp 15)
 (.seq (.region 0 [] [
 ⟨(some 16),.mov (.tmp 4),none,0⟩,
 ⟨none,.store none (.tmp 2) (.cst (.c .nils)),none,0⟩,
 ⟨none,.store none (.tmp 3) (.cst (.c (.int .i64 0))),none,0⟩,
 ⟨(some 4),.mov (.tmp 16),none,0⟩])
 .ret)
 .skip))
 (.seq (.region 1 [] [
 ⟨(some 6),.alloc [.nils],none,0⟩])
 (.seq (.seq (.region 0 [] [
 ⟨(some 17),.load none (.tmp 5),none,0⟩,
 ⟨(some 18),.call 41 false [(.tmp 17),(.cst (.c .nils))],none,0⟩])
 (.block 0 (.range (.tmp 18) [19]
 (.region 1 [] [
 ⟨(some 7),.alloc [.nils,.nils],none,0⟩,
 ⟨none,.store (some 2) (.tmp 7) (.tmp 19),none,1⟩])
 (.block 1 (.region 4 [(0,1),(0,2),(0,3),(0,4),(1,4),(2,4),(3,4),(0,5),(1,5),(2,5),(3,5),(0,6),(0,7),(0,8)] [
 ⟨(some 20),.load none (.tmp 6),none,0⟩,
 ⟨(some 21),.faddr 0 (.tmp 7),none,0⟩,
 ⟨(some 22),.load none (.tmp 21),none,0⟩,
 ⟨(some 23),.clone 33 1 8 (.tmp 22),none,0⟩,
 ⟨(some 24),.faddr 1 (.tmp 7),none,1⟩,
 ⟨(some 25),.load none (.tmp 24),none,1⟩,
 ⟨(some 26),.clone 33 1 8 (.tmp 25),none,1⟩,
 ⟨(some 27),.build [.nils,.nils] [(0,1,(.tmp 23)),(1,1,(.tmp 26))],none,2⟩,
 ⟨(some 28),.bslice 2 1 [.nils,.nils] [(0,(.tmp 27))],none,2⟩,
 ⟨(some 29),.append 2 48 (.tmp 20) (.tmp 28),none,3⟩,
 ⟨none,.store none (.tmp 6) (.tmp 29),none,4⟩])))))
 (.seq (.region 1 [] [
 ⟨(some 8),.alloc [.nilfn],none,0⟩])
 (.seq (.region 0 [] [
 ⟨(some 30),.mkfn 42 none [(.tmp 5),(.tmp 6),(.tmp 3),(.tmp 2),(.tmp 1),(.tmp 8)],none,0⟩,
 ⟨none,.store none (.tmp 8) (.tmp 30),none,0⟩])
 (.seq (.region 0 [] [
 ⟨(some 31),.load none (.tmp 8),none,0⟩,
 ⟨(some 32),.callv (.tmp 31) [(.cst (.c .nils)),(.cst (.c (.int .i64 0)))],none,0⟩])
 (.seq (.region 0 [(0,1),(1,2)] [
 ⟨(some 33),.load none (.tmp 2),none,0⟩,
 ⟨(some 34),.load none (.tmp 3),none,0⟩,
 ⟨none,.store none (.tmp 2) (.tmp 33),none,0⟩,
 ⟨none,.store none (.tmp 3) (.tmp 34),none,0⟩,
 ⟨(some 4),.mov (.cst (.c (.int .i64 0))),none,0⟩])
 .ret)))))))))⟩
def f15 : AFunc:=⟨34,[.tmp 2,.tmp 3],false,
 (.seq (.region 1 [] [
 ⟨(some 1),.box (.tmp 0),none,0⟩,
 ⟨(some 2),.mov (.cst (.c (.int .i64 0))),none,1⟩,
 ⟨(some 3),.mov (.cst (.c (.int .i64 0))),none,1⟩])
 (.seq (.seq (.region 0 [] [
 ⟨(some 7),.load (some 9) (.tmp 1),none,0⟩,
 ⟨(some 8),.call 16 true [(.tmp 7)],none,0⟩,
 ⟨(some 4),.mov (.tmp 8),none,0⟩])
 (.seq (.region 0 [] [
 ⟨(some 9),.mov (.tmp 4),none,0⟩,
 ⟨(some 10),.bin .neq (.tmp 9) (.cst (.c (.int .i64 0))),none,0⟩])
 (.cond (.tmp 10)
 (.seq (.region 0 [] [
 ⟨(some 11),.mov (.tmp 4),none,0⟩,
 ⟨(some 2),.mov (.cst (.c (.int .i64 0))),none,0⟩,
 ⟨(some 3),.mov (.tmp 11),none,0⟩])
 .ret)
 .skip)))
 (.seq (.region 0 [] [
 ⟨(some 12),.load (some 9) (.tmp 1),none,0⟩,
 ⟨(some 13),.call 20 false [(.tmp 12)],none,0⟩,
 ⟨(some 5),.mov (.tmp 13),none,0⟩])
 (.seq (.seq (.region 0 [] [
 ⟨(some 14),.faddr 8 (.tmp 1),none,0⟩,
 ⟨(some 15),.load none (.tmp 14),none,0⟩,
 ⟨(some 16),.len (.tmp 15),none,0⟩,
 ⟨(some 17),.mov (.cst (.c (.int .i64 0))),none,0⟩])
 (.block 0 (.loop ⟨[2,3,6,18,19,20,21,22,23,24,25,26,27,28,29,30,31,32,33],false,[]⟩
 (.seq (.region 0 [] [
 ⟨(some 18),.bin .lss (.tmp 17) (.tmp 16),none,0⟩])
 (.seq (.cond (.tmp 18)
 .skip
 (.exit 0))
 (.seq (.block 1 (.seq (.region 0 [] [
 ⟨(some 19),.mov (.tmp 17),none,0⟩,
 ⟨(some 6),.mov (.tmp 19),none,0⟩])
 (.seq (.region 0 [] [
 ⟨(some 20),.mov (.tmp 5),none,0⟩,
 ⟨(some 21),.faddr 8 (.tmp 1),none,0⟩,
 ⟨(some 22),.load none (.tmp 21),none,0⟩,
 ⟨(some 23),.mov (.tmp 6),none,0⟩,
 ⟨(some 24),.bin .add (.tmp 23) (.cst (.c (.int .i64 1))),none,0⟩,
 ⟨(some 25),.slice 3 (.tmp 22) none (some (.tmp 24)),none,0⟩,
 ⟨(some 26),.nilchk (.tmp 20),none,0⟩,
 ⟨(some 27),.faddr 0 (.tmp 26),none,0⟩,
 ⟨(some 28),.faddr 8 (.tmp 27),none,0⟩,
 ⟨none,.store none (.tmp 28) (.tmp 25),none,0⟩])
 (.seq (.region 0 [] [
 ⟨(some 29),.mov (.tmp 5),none,0⟩,
 ⟨(some 30),.call 32 false [(.tmp 29),(.cst (.c .nils))],none,0⟩,
 ⟨(some 31),.not (.tmp 30),none,0⟩])
 (.cond (.tmp 31)
 (.seq (.region 0 [] [
 ⟨(some 32),.mov (.tmp 6),none,0⟩,
 ⟨(some 2),.mov (.tmp 32),none,0⟩,
 ⟨(some 3),.mov (.cst (.c (.int .i64 0))),none,0⟩])
 .ret)
 .skip)))))
 (.region 0 [] [
 ⟨(some 33),.bin .add (.tmp 17) (.cst (.c (.int .i64 1))),none,0⟩,
 ⟨(some 17),.mov (.tmp 33),none,0⟩])))))))
 (.seq (.region 0 [] [
 ⟨(some 2),.mov (.cst (.c (.int .i64 0))),none,0⟩,
 ⟨(some 3),.mov (.cst (.c (.int .i64 7))),none,0⟩])
 .ret)))))⟩
def f16 : AFunc:=⟨92,[.tmp 2],false,
 (.seq (.region 1 [] [
 ⟨(some 1),.box (.tmp 0),none,0⟩,
 ⟨(some 2),.mov (.cst (.c (.int .i64 0))),none,1⟩])
 (.seq (.region 0 [] [
 ⟨(some 7),.load (some 9) (.tmp 1),none,0⟩,
 ⟨(some 8),.mkfn 44 (some (.tmp 7)) [],none,0⟩,
 ⟨(some 3),.mov (.tmp 8),none,0⟩])
 (.seq (.block 0 (.seq (.region 0 [] [
 ⟨(some 10),.faddr 0 (.tmp 1),none,0⟩,
 ⟨(some 11),.load none (.tmp 10),none,0⟩,
 ⟨(some 12),.bin .gtr (.tmp 11) (.cst (.c (.int .i64 9))),none,0⟩,
 ⟨(some 13),.mov (.tmp 12),none,0⟩,
 ⟨(some 14),.faddr 3 (.tmp 1),some (13,false),0⟩,
 ⟨(some 15),.load none (.tmp 14),some (13,false),0⟩,
 ⟨(some 16),.len (.tmp 15),some (13,false),0⟩,
 ⟨(some 17),.bin .gtr (.tmp 16) (.cst (.c (.int .i64 3))),some (13,false),0⟩,
 ⟨(some 18),.pick (.tmp 13) (.cst (.c (.bool true))) (.tmp 17),none,0⟩,
 ⟨(some 19),.mov (.tmp 18),none,0⟩,
 ⟨(some 20),.faddr 8 (.tmp 1),some (19,false),0⟩,
 ⟨(some 21),.load none (.tmp 20),some (19,false),0⟩,
 ⟨(some 22),.len (.tmp 21),some (19,false),0⟩,
 ⟨(some 23),.bin .gtr (.tmp 22) (.cst (.c (.int .i64 5))),some (19,false),0⟩,
 ⟨(some 24),.pick (.tmp 19) (.cst (.c (.bool true))) (.tmp 23),none,0⟩,
 ⟨(some 9),.mov (.tmp 24),none,0⟩])
 (.cond (.tmp 9)
 (.seq (.region 0 [] [
 ⟨(some 2),.mov (.cst (.c (.int .i64 3))),none,0⟩])
 .ret)
 (.seq (.region 0 [(4,7),(5,7),(6,7),(4,8),(5,8),(6,8),(12,15),(13,15),(14,15),(12,16),(13,16),(14,16),(25,26),(25,27),(44,46),(45,46)] [
 ⟨(some 26),.load (some 9) (.tmp 1),none,0⟩,
 ⟨(some 27),.call 45 true [(.tmp 26)],none,0⟩,
 ⟨(some 28),.not (.tmp 27),none,0⟩,
 ⟨(some 29),.mov (.tmp 28),none,0⟩,
 ⟨(some 30),.faddr 1 (.tmp 1),some (29,false),0⟩,
 ⟨(some 31),.load none (.tmp 30),some (29,false),0⟩,
 ⟨(some 32),.len (.tmp 31),some (29,false),0⟩,
 ⟨(some 33),.load (some 9) (.tmp 1),some (29,false),0⟩,
 ⟨(some 34),.call 46 true [(.tmp 33)],some (29,false),0⟩,
 ⟨(some 35),.bin .neq (.tmp 32) (.tmp 34),some (29,false),0⟩,
 ⟨(some 36),.pick (.tmp 29) (.cst (.c (.bool true))) (.tmp 35),none,0⟩,
 ⟨(some 37),.mov (.tmp 36),none,0⟩,
 ⟨(some 38),.faddr 2 (.tmp 1),some (37,false),0⟩,
 ⟨(some 39),.load none (.tmp 38),some (37,false),0⟩,
 ⟨(some 40),.len (.tmp 39),some (37,false),0⟩,
 ⟨(some 41),.load (some 9) (.tmp 1),some (37,false),0⟩,
 ⟨(some 42),.call 46 true [(.tmp 41)],some (37,false),0⟩,
 ⟨(some 43),.bin .neq (.tmp 40) (.tmp 42),some (37,false),0⟩,
 ⟨(some 44),.pick (.tmp 37) (.cst (.c (.bool true))) (.tmp 43),none,0⟩,
 ⟨(some 45),.mov (.tmp 44),none,0⟩,
 ⟨(some 46),.load (some 9) (.tmp 1),some (45,false),0⟩,
 ⟨(some 47),.call 47 true [(.tmp 46)],some (45,false),0⟩,
 ⟨(some 48),.not (.tmp 47),some (45,false),0⟩,
 ⟨(some 49),.pick (.tmp 45) (.cst (.c (.bool true))) (.tmp 48),none,0⟩,
 ⟨(some 50),.mov (.tmp 49),none,0⟩,
 ⟨(some 51),.load (some 9) (.tmp 1),some (50,false),0⟩,
 ⟨(some 52),.faddr 4 (.tmp 1),some (50,false),0⟩,
 ⟨(some 53),.load none (.tmp 52),some (50,false),0⟩,
 ⟨(some 54),.call 19 true [(.tmp 51),(.tmp 53)],some (50,false),0⟩,
 ⟨(some 55),.not (.tmp 54),some (50,false),0⟩,
 ⟨(some 56),.pick (.tmp 50) (.cst (.c (.bool true))) (.tmp 55),none,0⟩,
 ⟨(some 57),.mov (.tmp 56),none,0⟩,
 ⟨(some 58),.faddr 1 (.tmp 1),some (57,false),0⟩,
 ⟨(some 59),.load none (.tmp 58),some (57,false),0⟩,
 ⟨(some 60),.call 48 false [(.tmp 59),(.cst (.c (.fn 49 false [] [])))],some (57,false),0⟩,
 ⟨(some 61),.not (.tmp 60),some (57,false),0⟩,
 ⟨(some 62),.pick (.tmp 57) (.cst (.c (.bool true))) (.tmp 61),none,0⟩,
 ⟨(some 63),.mov (.tmp 62),none,0⟩,
 ⟨(some 64),.faddr 2 (.tmp 1),some (63,false),0⟩,
 ⟨(some 65),.load none (.tmp 64),some (63,false),0⟩,
 ⟨(some 66),.call 50 false [(.tmp 65),(.cst (.c (.fn 51 false [] [])))],some (63,false),0⟩,
 ⟨(some 67),.not (.tmp 66),some (63,false),0⟩,
 ⟨(some 68),.pick (.tmp 63) (.cst (.c (.bool true))) (.tmp 67),none,0⟩,
 ⟨(some 69),.mov (.tmp 68),none,0⟩,
 ⟨(some 70),.faddr 8 (.tmp 1),some (69,false),0⟩,
 ⟨(some 71),.load none (.tmp 70),some (69,false),0⟩,
 ⟨(some 72),.mov (.tmp 3),some (69,false),0⟩,
 ⟨(some 73),.call 34 false [(.tmp 71),(.tmp 72)],some (69,false),0⟩,
 ⟨(some 74),.not (.tmp 73),some (69,false),0⟩,
 ⟨(some 75),.pick (.tmp 69) (.cst (.c (.bool true))) (.tmp 74),none,0⟩,
 ⟨(some 25),.mov (.tmp 75),none,0⟩])
 (.cond (.tmp 25)
 (.seq (.region 0 [] [
 ⟨(some 2),.mov (.cst (.c (.int .i64 1))),none,0⟩])
 .ret)
 .skip)))))
 (.seq (.region 0 [] [
 ⟨(some 4),.mov (.cst (.c (.int .i64 1))),none,0⟩])
 (.seq (.seq (.region 0 [] [
 ⟨(some 76),.load (some 9) (.tmp 1),none,0⟩,
 ⟨(some 77),.call 52 true [(.tmp 76)],none,0⟩,
 ⟨(some 78),.len (.tmp 77),none,0⟩,
 ⟨(some 79),.mov (.cst (.c (.int .i64 0))),none,0⟩])
 (.block 1 (.loop ⟨[6,80,81,82,83,84,85,86,87,88,89],true,[]⟩
 (.seq (.region 0 [] [
 ⟨(some 80),.bin .lss (.tmp 79) (.tmp 78),none,0⟩])
 (.seq (.cond (.tmp 80)
 .skip
 (.exit 1))
 (.seq (.block 2 (.seq (.region 1 [] [
 ⟨(some 81),.iaddr 2 (.tmp 77) (.tmp 79),none,0⟩,
 ⟨(some 82),.load (some 2) (.tmp 81),none,0⟩,
 ⟨(some 6),.alloc [(.int .i64 0),(.int .i64 0)],none,0⟩,
 ⟨none,.store (some 2) (.tmp 6) (.tmp 82),none,1⟩])
 (.region 1 [] [
 ⟨(some 83),.mov (.tmp 4),none,0⟩,
 ⟨(some 84),.load (some 2) (.tmp 6),none,0⟩,
 ⟨(some 85),.call 54 true [(.tmp 84)],none,0⟩,
 ⟨(some 86),.bin .mul (.tmp 83) (.tmp 85),none,0⟩,
 ⟨(some 87),.bslice 1 2 [(.int .i64 0)] [(0,(.tmp 86)),(1,(.cst (.c (.int .i64 2001))))],none,0⟩,
 ⟨(some 88),.call 53 true [(.tmp 87)],none,1⟩,
 ⟨(some 4),.mov (.tmp 88),none,1⟩])))
 (.region 0 [] [
 ⟨(some 89),.bin .add (.tmp 79) (.cst (.c (.int .i64 1))),none,0⟩,
 ⟨(some 79),.mov (.tmp 89),none,0⟩])))))))
 (.seq (.seq (.region 0 [] [
 ⟨(some 90),.mov (.tmp 4),none,0⟩,
 ⟨(some 91),.bin .gtr (.tmp 90) (.cst (.c (.int .i64 2000))),none,0⟩])
 (.cond (.tmp 91)
 (.seq (.region 0 [] [
 ⟨(some 2),.mov (.cst (.c (.int .i64 3))),none,0⟩])
 .ret)
 .skip))
 (.seq (.region 0 [] [
 ⟨(some 2),.mov (.cst (.c (.int .i64 0))),none,0⟩])
 .ret)))))))⟩
def f17 : AFunc:=⟨160,[.tmp 0],false,
 (.seq (.region 0 [] [
 ⟨(some 0),.mov (.cst (.c (.bool false))),none,0⟩])
 (.seq (.region 1 [] [
 ⟨(some 19),.call 6 true [(.cst (.c (.int .i64 0)))],none,0⟩,
 ⟨(some 20),.call 4 true [],none,0⟩,
 ⟨(some 21),.bslice 1 2 [(.int .i64 0)] [(0,(.cst (.c (.int .i64 1)))),(1,(.cst (.c (.int .i64 3))))],none,0⟩,
 ⟨(some 22),.call 5 true [(.tmp 19),(.tmp 20),(.tmp 21)],none,1⟩,
 ⟨(some 18),.mov (.tmp 22),none,1⟩,
 ⟨(some 23),.extract 0 (.tmp 18),none,1⟩,
 ⟨(some 24),.extract 1 (.tmp 18),none,1⟩,
 ⟨(some 1),.mov (.tmp 23),none,1⟩,
 ⟨(some 2),.mov (.tmp 24),none,1⟩])
 (.seq (.region 1 [] [
 ⟨(some 26),.call 6 true [(.cst (.c (.int .i64 0)))],none,0⟩,
 ⟨(some 27),.bslice 1 2 [(.int .i64 0)] [(0,(.cst (.c (.int .i64 2)))),(1,(.cst (.c (.int .i64 4))))],none,0⟩,
 ⟨(some 28),.call 13 true [(.tmp 26),(.tmp 27)],none,1⟩,
 ⟨(some 25),.mov (.tmp 28),none,1⟩,
 ⟨(some 29),.extract 0 (.tmp 25),none,1⟩,
 ⟨(some 30),.extract 1 (.tmp 25),none,1⟩,
 ⟨(some 3),.mov (.tmp 29),none,1⟩,
 ⟨(some 4),.mov (.tmp 30),none,1⟩])
 (.seq (.region 2 [] [
 ⟨(some 32),.call 6 true [(.cst (.c (.int .i64 0)))],none,0⟩,
 ⟨(some 33),.bslice 1 2 [(.int .i64 0)] [(0,(.cst (.c (.int .i64 1)))),(1,(.cst (.c (.int .i64 3))))],none,0⟩,
 ⟨(some 34),.call 7 true [(.tmp 32),(.tmp 33)],none,1⟩,
 ⟨(some 31),.mov (.tmp 34),none,1⟩,
 ⟨(some 35),.extract 0 (.tmp 31),none,1⟩,
 ⟨(some 36),.extract 1 (.tmp 31),none,1⟩,
 ⟨(some 5),.alloc [(.int .i64 0),(.int .i64 0)],none,1⟩,
 ⟨none,.store (some 2) (.tmp 5) (.tmp 35),none,2⟩,
 ⟨(some 6),.mov (.tmp 36),none,2⟩])
 (.seq (.region 0 [] [
 ⟨(some 38),.call 6 true [(.cst (.c (.int .i64 0)))],none,0⟩,
 ⟨(some 39),.call 14 true [(.tmp 38)],none,0⟩,
 ⟨(some 37),.mov (.tmp 39),none,0⟩,
 ⟨(some 40),.extract 0 (.tmp 37),none,0⟩,
 ⟨(some 41),.extract 1 (.tmp 37),none,0⟩,
 ⟨(some 42),.extract 2 (.tmp 37),none,0⟩,
 ⟨(some 7),.mov (.tmp 40),none,0⟩,
 ⟨(some 8),.mov (.tmp 41),none,0⟩,
 ⟨(some 9),.mov (.tmp 42),none,0⟩])
 (.seq (.region 1 [] [
 ⟨(some 44),.call 6 true [(.cst (.c (.int .i64 0)))],none,0⟩,
 ⟨(some 45),.call 8 true [(.tmp 44),(.cst (.c (.int .i64 4)))],none,0⟩,
 ⟨(some 43),.mov (.tmp 45),none,0⟩,
 ⟨(some 46),.extract 0 (.tmp 43),none,0⟩,
 ⟨(some 47),.extract 1 (.tmp 43),none,0⟩,
 ⟨(some 10),.alloc [(.int .i64 0),(.int .i64 0)],none,0⟩,
 ⟨none,.store (some 2) (.tmp 10) (.tmp 46),none,1⟩,
 ⟨(some 11),.mov (.tmp 47),none,1⟩])
 (.seq (.region 2 [] [
 ⟨(some 49),.call 6 true [(.cst (.c (.int .i64 0)))],none,0⟩,
 ⟨(some 50),.bslice 1 2 [(.int .i64 0)] [(0,(.cst (.c (.int .i64 1)))),(1,(.cst (.c (.int .i64 3))))],none,0⟩,
 ⟨(some 51),.call 55 true [(.tmp 49),(.tmp 50)],none,1⟩,
 ⟨(some 48),.mov (.tmp 51),none,1⟩,
 ⟨(some 52),.extract 0 (.tmp 48),none,1⟩,
 ⟨(some 53),.extract 1 (.tmp 48),none,1⟩,
 ⟨(some 12),.alloc [.nils,.nils],none,1⟩,
 ⟨none,.store (some 2) (.tmp 12) (.tmp 52),none,2⟩,
 ⟨(some 13),.mov (.tmp 53),none,2⟩])
 (.seq (.region 0 [] [
 ⟨(some 55),.call 6 true [(.cst (.c (.int .i64 2)))],none,0⟩,
 ⟨(some 56),.call 15 true [(.tmp 55)],none,0⟩,
 ⟨(some 54),.mov (.tmp 56),none,0⟩,
 ⟨(some 57),.extract 0 (.tmp 54),none,0⟩,
 ⟨(some 58),.extract 1 (.tmp 54),none,0⟩,
 ⟨(some 14),.mov (.tmp 57),none,0⟩,
 ⟨(some 15),.mov (.tmp 58),none,0⟩])
 (.seq (.region 0 [] [
 ⟨(some 60),.call 6 true [(.cst (.c (.int .i64 2)))],none,0⟩,
 ⟨(some 61),.call 9 true [(.tmp 60)],none,0⟩,
 ⟨(some 59),.mov (.tmp 61),none,0⟩,
 ⟨(some 62),.extract 0 (.tmp 59),none,0⟩,
 ⟨(some 63),.extract 1 (.tmp 59),none,0⟩,
 ⟨(some 16),.mov (.tmp 62),none,0⟩,
 ⟨(some 17),.mov (.tmp 63),none,0⟩])
 (.seq (.region 2 [(8,11),(9,11),(10,11),(15,18),(16,18),(17,18),(31,34),(32,34),(33,34),(31,35),(32,35),(33,35),(31,36),(32,36),(33,36),(44,45),(53,54),(66,67),(75,76),(92,93)] [
 ⟨(some 64),.mov (.tmp 2),none,0⟩,
 ⟨(some 65),.bin .eql (.tmp 64) (.cst (.c (.int .i64 0))),none,0⟩,
 ⟨(some 66),.mov (.tmp 65),none,0⟩,
 ⟨(some 67),.mov (.tmp 1),some (66,true),0⟩,
 ⟨(some 68),.len (.tmp 67),some (66,true),0⟩,
 ⟨(some 69),.bin .eql (.tmp 68) (.cst (.c (.int .i64 2))),some (66,true),0⟩,
 ⟨(some 70),.pick (.tmp 66) (.tmp 69) (.cst (.c (.bool false))),none,0⟩,
 ⟨(some 71),.mov (.tmp 70),none,0⟩,
 ⟨(some 72),.mov (.tmp 1),some (71,true),0⟩,
 ⟨(some 73),.iaddr 3 (.tmp 72) (.cst (.c (.int .i64 0))),some (71,true),0⟩,
 ⟨(some 74),.load (some 3) (.tmp 73),some (71,true),0⟩,
 ⟨(some 75),.build [(.int .i64 0),(.int .i64 0),(.int .i64 0)] [(0,1,(.cst (.c (.int .i64 18)))),(1,1,(.cst (.c (.int .i64 20)))),(2,1,(.cst (.c (.int .i64 360))))],some (71,true),0⟩,
 ⟨(some 76),.eqA false [(some .i64),(some .i64),(some .i64)] (.tmp 74) (.tmp 75),some (71,true),0⟩,
 ⟨(some 77),.pick (.tmp 71) (.tmp 76) (.cst (.c (.bool false))),none,0⟩,
 ⟨(some 78),.mov (.tmp 77),none,0⟩,
 ⟨(some 79),.mov (.tmp 1),some (78,true),0⟩,
 ⟨(some 80),.iaddr 3 (.tmp 79) (.cst (.c (.int .i64 1))),some (78,true),0⟩,
 ⟨(some 81),.load (some 3) (.tmp 80),some (78,true),0⟩,
 ⟨(some 82),.build [(.int .i64 0),(.int .i64 0),(.int .i64 0)] [(0,1,(.cst (.c (.int .i64 5)))),(1,1,(.cst (.c (.int .i64 15)))),(2,1,(.cst (.c (.int .i64 75))))],some (78,true),0⟩,
 ⟨(some 83),.eqA false [(some .i64),(some .i64),(some .i64)] (.tmp 81) (.tmp 82),some (78,true),0⟩,
 ⟨(some 84),.pick (.tmp 78) (.tmp 83) (.cst (.c (.bool false))),none,0⟩,
 ⟨(some 85),.mov (.tmp 84),none,0⟩,
 ⟨(some 86),.mov (.tmp 4),some (85,true),0⟩,
 ⟨(some 87),.bin .eql (.tmp 86) (.cst (.c (.int .i64 0))),some (85,true),0⟩,
 ⟨(some 88),.pick (.tmp 85) (.tmp 87) (.cst (.c (.bool false))),none,0⟩,
 ⟨(some 89),.mov (.tmp 88),none,0⟩,
 ⟨(some 90),.mov (.tmp 3),some (89,true),0⟩,
 ⟨(some 91),.len (.tmp 90),some (89,true),0⟩,
 ⟨(some 92),.bin .eql (.tmp 91) (.cst (.c (.int .i64 2))),some (89,true),0⟩,
 ⟨(some 93),.pick (.tmp 89) (.tmp 92) (.cst (.c (.bool false))),none,0⟩,
 ⟨(some 94),.mov (.tmp 93),none,0⟩,
 ⟨(some 95),.mov (.tmp 3),some (94,true),0⟩,
 ⟨(some 96),.iaddr 5 (.tmp 95) (.cst (.c (.int .i64 0))),some (94,true),0⟩,
 ⟨(some 97),.load (some 5) (.tmp 96),some (94,true),0⟩,
 ⟨(some 98),.call 10 true [(.cst (.c (.int .i64 24))),(.cst (.c (.int .i64 26)))],some (94,true),0⟩,
 ⟨(some 99),.call 10 true [(.cst (.c (.int .i64 384))),(.cst (.c (.int .i64 416)))],some (94,true),0⟩,
 ⟨(some 100),.build [(.int .i64 0),(.int .i64 0),(.int .i64 0),(.int .i64 0),(.int .i64 0)] [(0,2,(.tmp 98)),(2,1,(.cst (.c (.int .i64 16)))),(3,2,(.tmp 99))],some (94,true),0⟩,
 ⟨(some 101),.eqA false [(some .i64),(some .i64),(some .i64),(some .i64),(some .i64)] (.tmp 97) (.tmp 100),some (94,true),0⟩,
 ⟨(some 102),.pick (.tmp 94) (.tmp 101) (.cst (.c (.bool false))),none,0⟩,
 ⟨(some 103),.mov (.tmp 102),none,0⟩,
 ⟨(some 104),.mov (.tmp 6),some (103,true),0⟩,
 ⟨(some 105),.bin .eql (.tmp 104) (.cst (.c (.int .i64 0))),some (103,true),0⟩,
 ⟨(some 106),.pick (.tmp 103) (.tmp 105) (.cst (.c (.bool false))),none,0⟩,
 ⟨(some 107),.mov (.tmp 106),none,0⟩,
 ⟨(some 108),.load (some 2) (.tmp 5),some (107,true),0⟩,
 ⟨(some 109),.call 10 true [(.cst (.c (.int .i64 255))),(.cst (.c (.int .i64 490)))],some (107,true),0⟩,
 ⟨(some 110),.eqA false [(some .i64),(some .i64)] (.tmp 108) (.tmp 109),some (107,true),0⟩,
 ⟨(some 111),.pick (.tmp 107) (.tmp 110) (.cst (.c (.bool false))),none,0⟩,
 ⟨(some 112),.mov (.tmp 111),none,0⟩,
 ⟨(some 113),.mov (.tmp 9),some (112,true),0⟩,
 ⟨(some 114),.bin .eql (.tmp 113) (.cst (.c (.int .i64 0))),some (112,true),0⟩,
 ⟨(some 115),.pick (.tmp 112) (.tmp 114) (.cst (.c (.bool false))),none,0⟩,
 ⟨(some 116),.mov (.tmp 115),none,0⟩,
 ⟨(some 117),.mov (.tmp 7),some (116,true),0⟩,
 ⟨(some 118),.bslice 1 2 [(.int .i64 0)] [(0,(.cst (.c (.int .i64 2)))),(1,(.cst (.c (.int .i64 4))))],some (116,true),0⟩,
 ⟨(some 119),.call 56 true [(.tmp 117),(.tmp 118)],some (116,true),1⟩,
 ⟨(some 120),.pick (.tmp 116) (.tmp 119) (.cst (.c (.bool false))),none,1⟩,
 ⟨(some 121),.mov (.tmp 120),none,1⟩,
 ⟨(some 122),.mov (.tmp 8),some (121,true),1⟩,
 ⟨(some 123),.bin .eql (.tmp 122) (.cst (.c (.int .i64 474))),some (121,true),1⟩,
 ⟨(some 124),.pick (.tmp 121) (.tmp 123) (.cst (.c (.bool false))),none,1⟩,
 ⟨(some 125),.mov (.tmp 124),none,1⟩,
 ⟨(some 126),.mov (.tmp 11),some (125,true),1⟩,
 ⟨(some 127),.bin .eql (.tmp 126) (.cst (.c (.int .i64 0))),some (125,true),1⟩,
 ⟨(some 128),.pick (.tmp 125) (.tmp 127) (.cst (.c (.bool false))),none,1⟩,
 ⟨(some 129),.mov (.tmp 128),none,1⟩,
 ⟨(some 130),.load (some 2) (.tmp 10),some (129,true),1⟩,
 ⟨(some 131),.call 10 true [(.cst (.c (.int .i64 30))),(.cst (.c (.int .i64 33)))],some (129,true),1⟩,
 ⟨(some 132),.eqA false [(some .i64),(some .i64)] (.tmp 130) (.tmp 131),some (129,true),1⟩,
 ⟨(some 133),.pick (.tmp 129) (.tmp 132) (.cst (.c (.bool false))),none,1⟩,
 ⟨(some 134),.mov (.tmp 133),none,1⟩,
 ⟨(some 135),.mov (.tmp 13),some (134,true),1⟩,
 ⟨(some 136),.bin .eql (.tmp 135) (.cst (.c (.int .i64 0))),some (134,true),1⟩,
 ⟨(some 137),.pick (.tmp 134) (.tmp 136) (.cst (.c (.bool false))),none,1⟩,
 ⟨(some 138),.mov (.tmp 137),none,1⟩,
 ⟨(some 139),.call 6 true [(.cst (.c (.int .i64 0)))],some (138,true),1⟩,
 ⟨(some 140),.load (some 2) (.tmp 12),some (138,true),1⟩,
 ⟨(some 141),.call 11 true [(.tmp 139),(.tmp 140)],some (138,true),1⟩,
 ⟨(some 142),.pick (.tmp 138) (.tmp 141) (.cst (.c (.bool false))),none,1⟩,
 ⟨(some 143),.mov (.tmp 142),none,1⟩,
 ⟨(some 144),.mov (.tmp 15),some (143,true),1⟩,
 ⟨(some 145),.bin .eql (.tmp 144) (.cst (.c (.int .i64 0))),some (143,true),1⟩,
 ⟨(some 146),.pick (.tmp 143) (.tmp 145) (.cst (.c (.bool false))),none,1⟩,
 ⟨(some 147),.mov (.tmp 146),none,1⟩,
 ⟨(some 148),.mov (.tmp 14),some (147,true),1⟩,
 ⟨(some 149),.bin .eql (.tmp 148) (.cst (.c (.int .i64 1))),some (147,true),1⟩,
 ⟨(some 150),.pick (.tmp 147) (.tmp 149) (.cst (.c (.bool false))),none,1⟩,
 ⟨(some 151),.mov (.tmp 150),none,1⟩,
 ⟨(some 152),.mov (.tmp 17),some (151,true),1⟩,
 ⟨(some 153),.bin .eql (.tmp 152) (.cst (.c (.int .i64 0))),some (151,true),1⟩,
 ⟨(some 154),.pick (.tmp 151) (.tmp 153) (.cst (.c (.bool false))),none,1⟩,
 ⟨(some 155),.mov (.tmp 154),none,1⟩,
 ⟨(some 156),.mov (.tmp 16),some (155,true),1⟩,
 ⟨(some 157),.bslice 1 1 [(.int .i64 0)] [(0,(.cst (.c (.int .i64 0))))],some (155,true),1⟩,
 ⟨(some 158),.call 56 true [(.tmp 156),(.tmp 157)],some (155,true),2⟩,
 ⟨(some 159),.pick (.tmp 155) (.tmp 158) (.cst (.c (.bool false))),none,2⟩,
 ⟨(some 0),.mov (.tmp 159),none,2⟩])
 .ret))))))))))⟩
def f18 : AFunc:=⟨44,[.tmp 4],false,
 (.seq (.region 2 [] [
 ⟨(some 2),.box (.tmp 0),none,0⟩,
 ⟨(some 3),.box (.tmp 1),none,1⟩,
 ⟨(some 4),.mov (.cst (.c (.bool false))),none,2⟩])
 (.seq (.seq (.region 0 [(0,3),(1,3),(2,3),(0,4),(1,4),(2,4),(7,10),(8,10),(9,10),(7,11),(8,11),(9,11)] [
 ⟨(some 8),.faddr 0 (.tmp 3),none,0⟩,
 ⟨(some 9),.load none (.tmp 8),none,0⟩,
 ⟨(some 10),.len (.tmp 9),none,0⟩,
 ⟨(some 11),.load (some 9) (.tmp 2),none,0⟩,
 ⟨(some 12),.call 46 true [(.tmp 11)],none,0⟩,
 ⟨(some 13),.bin .neq (.tmp 10) (.tmp 12),none,0⟩,
 ⟨(some 14),.mov (.tmp 13),none,0⟩,
 ⟨(some 15),.faddr 1 (.tmp 3),some (14,false),0⟩,
 ⟨(some 16),.load none (.tmp 15),some (14,false),0⟩,
 ⟨(some 17),.len (.tmp 16),some (14,false),0⟩,
 ⟨(some 18),.load (some 9) (.tmp 2),some (14,false),0⟩,
 ⟨(some 19),.call 46 true [(.tmp 18)],some (14,false),0⟩,
 ⟨(some 20),.bin .neq (.tmp 17) (.tmp 19),some (14,false),0⟩,
 ⟨(some 21),.pick (.tmp 14) (.cst (.c (.bool true))) (.tmp 20),none,0⟩])
 (.cond (.tmp 21)
 (.seq (.region 0 [] [
 ⟨(some 4),.mov (.cst (.c (.bool false))),none,0⟩])
 .ret)
 .skip))
 (.seq (.region 1 [] [
 ⟨(some 22),.faddr 0 (.tmp 3),none,0⟩,
 ⟨(some 23),.load none (.tmp 22),none,0⟩,
 ⟨(some 24),.faddr 1 (.tmp 3),none,0⟩,
 ⟨(some 25),.load none (.tmp 24),none,0⟩,
 ⟨(some 26),.bslice 1 2 [.nils] [(0,(.tmp 23)),(1,(.tmp 25))],none,0⟩,
 ⟨(some 27),.call 57 true [(.tmp 26)],none,1⟩,
 ⟨(some 5),.mov (.tmp 27),none,1⟩])
 (.seq (.seq (.region 0 [] [
 ⟨(some 28),.load (some 9) (.tmp 2),none,0⟩,
 ⟨(some 29),.call 52 true [(.tmp 28)],none,0⟩,
 ⟨(some 30),.len (.tmp 29),none,0⟩,
 ⟨(some 31),.mov (.cst (.c (.int .i64 0))),none,0⟩])
 (.block 0 (.loop ⟨[4,6,7,32,33,34,35,36,37,38,39,40,41,42,43],true,[]⟩
 (.seq (.region 0 [] [
 ⟨(some 32),.bin .lss (.tmp 31) (.tmp 30),none,0⟩])
 (.seq (.cond (.tmp 32)
 .skip
 (.exit 0))
 (.seq (.block 1 (.seq (.region 1 [] [
 ⟨(some 33),.mov (.tmp 31),none,0⟩,
 ⟨(some 34),.iaddr 2 (.tmp 29) (.tmp 31),none,0⟩,
 ⟨(some 35),.load (some 2) (.tmp 34),none,0⟩,
 ⟨(some 7),.alloc [(.int .i64 0),(.int .i64 0)],none,0⟩,
 ⟨(some 6),.mov (.tmp 33),none,1⟩,
 ⟨none,.store (some 2) (.tmp 7) (.tmp 35),none,1⟩])
 (.seq (.region 0 [(0,1),(0,2),(1,2),(0,3),(0,4)] [
 ⟨(some 36),.load (some 2) (.tmp 7),none,0⟩,
 ⟨(some 37),.mov (.tmp 5),none,0⟩,
 ⟨(some 38),.mov (.tmp 6),none,0⟩,
 ⟨(some 39),.iaddr 1 (.tmp 37) (.tmp 38),none,0⟩,
 ⟨(some 40),.load none (.tmp 39),none,0⟩,
 ⟨(some 41),.call 36 true [(.tmp 36),(.tmp 40)],none,0⟩,
 ⟨(some 42),.not (.tmp 41),none,0⟩])
 (.cond (.tmp 42)
 (.seq (.region 0 [] [
 ⟨(some 4),.mov (.cst (.c (.bool false))),none,0⟩])
 .ret)
 .skip))))
 (.region 0 [] [
 ⟨(some 43),.bin .add (.tmp 31) (.cst (.c (.int .i64 1))),none,0⟩,
 ⟨(some 31),.mov (.tmp 43),none,0⟩])))))))
 (.seq (.region 0 [] [
 ⟨(some 4),.mov (.cst (.c (.bool true))),none,0⟩])
 .ret)))))⟩
def f19 : AFunc:=⟨17,[.tmp 4],false,
 (.seq (.region 1 [] [
 ⟨(some 2),.box (.tmp 0),none,0⟩,
 ⟨(some 4),.mov (.cst (.c (.bool false))),none,1⟩])
 (.seq (.region 1 [] [
 ⟨(some 5),.alloc [(.int .i64 0)],none,0⟩,
 ⟨none,.store none (.tmp 5) (.cst (.c (.int .i64 (-1)))),none,1⟩])
 (.seq (.region 0 [] [
 ⟨(some 6),.mov (.tmp 1),none,0⟩,
 ⟨(some 7),.len (.tmp 6),none,0⟩,
 ⟨(some 8),.faddr 3 (.tmp 2),none,0⟩,
 ⟨(some 9),.load none (.tmp 8),none,0⟩,
 ⟨(some 10),.len (.tmp 9),none,0⟩,
 ⟨(some 11),.bin .leq (.tmp 7) (.tmp 10),none,0⟩,
 ⟨(some 12),.mov (.tmp 11),none,0⟩,
 ⟨(some 13),.mov (.tmp 1),some (12,true),0⟩,
 ⟨(some 14),.mkfn 58 none [(.tmp 5),(.tmp 2)],some (12,true),0⟩,
 ⟨(some 15),.call 50 false [(.tmp 13),(.tmp 14)],some (12,true),0⟩,
 ⟨(some 16),.pick (.tmp 12) (.tmp 15) (.cst (.c (.bool false))),none,0⟩,
 ⟨(some 4),.mov (.tmp 16),none,0⟩])
 .ret)))⟩
def f20 : AFunc:=⟨7,[.tmp 2],false,
 (.seq (.region 1 [] [
 ⟨(some 1),.box (.tmp 0),none,0⟩,
 ⟨(some 2),.mov (.cst (.c .nilp)),none,1⟩])
 (.seq (.region 2 [] [
 ⟨(some 3),.load (some 9) (.tmp 1),none,0⟩,
 ⟨(some 4),.mkmap true false [(some .i64),none],none,0⟩,
 ⟨(some 5),.build [(.int .i64 0),.nils,.nils,.nils,.nils,(.int .i64 0),(.int .i64 0),(.int .i64 0),.nils,.any] [(0,9,(.tmp 3)),(9,1,(.tmp 4))],none,1⟩,
 ⟨(some 6),.box (.tmp 5),none,1⟩,
 ⟨(some 2),.mov (.tmp 6),none,2⟩])
 .ret))⟩
def f21 : AFunc:=⟨53,[.tmp 6],false,
 (.seq (.region 1 [] [
 ⟨(some 4),.box (.tmp 1),none,0⟩,
 ⟨(some 6),.mov (.cst (.c .nils)),none,1⟩])
 (.seq (.region 1 [] [
 ⟨(some 12),.mov (.tmp 0),none,0⟩,
 ⟨(some 13),.load (some 2) (.tmp 4),none,0⟩,
 ⟨(some 14),.mov (.tmp 2),none,0⟩,
 ⟨(some 15),.call 30 true [(.tmp 12),(.tmp 13),(.tmp 14)],none,0⟩,
 ⟨(some 7),.alloc [(.int .i64 0),(.int .i64 0),(.int .i64 0),(.int .i64 0),(.int .i64 0),(.int .i64 0),(.int .i64 0),(.int .i64 0),(.int .i64 0),(.int .i64 0)],none,0⟩,
 ⟨none,.store (some 10) (.tmp 7) (.tmp 15),none,1⟩])
 (.seq (.seq (.region 0 [] [
 ⟨(some 16),.mov (.tmp 2),none,0⟩,
 ⟨(some 17),.len (.tmp 16),none,0⟩,
 ⟨(some 18),.mov (.cst (.c (.int .i64 0))),none,0⟩])
 (.block 0 (.loop ⟨[8,9,10,11,19,20,21,22,23,24,25,26,27,28,29,30,31,32,33,34,35,36,37,38,39,40,41,42,43,44,45,46,47,48,49,50,51],false,[(6,none,3)]⟩
 (.seq (.region 0 [] [
 ⟨(some 19),.bin .lss (.tmp 18) (.tmp 17),none,0⟩])
 (.seq (.cond (.tmp 19)
 .skip
 (.exit 0))
 (.seq (.block 1 (.seq (.region 0 [] [
 ⟨(some 20),.mov (.tmp 18),none,0⟩,
 ⟨(some 21),.iaddr 1 (.tmp 16) (.tmp 18),none,0⟩,
 ⟨(some 22),.load none (.tmp 21),none,0⟩,
 ⟨(some 8),.mov (.tmp 20),none,0⟩,
 ⟨(some 9),.mov (.tmp 22),none,0⟩])
 (.seq (.region 0 [(0,1),(0,2),(0,3),(0,4),(1,4),(2,4),(3,4),(0,5),(1,5),(2,5),(3,5),(0,6),(1,6),(2,6),(3,6),(4,6),(5,6),(0,7),(1,7),(2,7),(3,7),(0,8),(1,8),(2,8),(3,8),(0,9),(1,9),(2,9),(3,9),(0,10),(0,12),(1,12),(2,12),(3,12),(4,12),(5,12),(6,12),(7,12),(8,12),(9,12),(10,12),(11,12),(0,13),(1,13),(2,13),(3,13),(4,13),(5,13),(6,13),(7,13),(8,13),(9,13),(10,13),(11,13),(0,14),(1,14),(2,14),(3,14),(4,14),(5,14),(6,14),(7,14),(8,14),(9,14),(10,14),(11,14),(0,15),(1,15),(2,15),(3,15),(4,15),(5,15),(6,15),(7,15),(8,15),(9,15),(10,15),(11,15),(0,16),(1,16),(2,16),(3,16),(4,16),(5,16),(6,16),(7,16),(8,16),(9,16),(10,16),(11,16),(12,16),(13,16),(14,16),(15,16),(0,17),(1,17),(2,17),(3,17),(4,17),(5,17),(6,17),(7,17),(8,17),(9,17),(10,17),(11,17),(12,17),(13,17),(14,17),(15,17),(16,17)] [
 ⟨(some 23),.mov (.tmp 0),none,0⟩,
 ⟨(some 24),.mov (.tmp 9),none,0⟩,
 ⟨(some 25),.iaddrA 10 1 (.tmp 7) (.tmp 24),none,0⟩,
 ⟨(some 26),.load none (.tmp 25),none,0⟩,
 ⟨(some 27),.faddr 1 (.tmp 4),none,0⟩,
 ⟨(some 28),.load none (.tmp 27),none,0⟩,
 ⟨(some 29),.mov (.tmp 9),none,0⟩,
 ⟨(some 30),.iaddr 1 (.tmp 28) (.tmp 29),none,0⟩,
 ⟨(some 31),.load none (.tmp 30),none,0⟩,
 ⟨(some 32),.bin .gtr (.tmp 31) (.cst (.c (.int .i64 0))),none,0⟩,
 ⟨(some 33),.build [(.int .i64 0),(.bool false)] [(0,1,(.tmp 26)),(1,1,(.tmp 32))],none,0⟩,
 ⟨(some 34),.call 60 false [(.tmp 23),(.tmp 33)],none,0⟩,
 ⟨(some 35),.mov (.tmp 0),none,0⟩,
 ⟨(some 36),.nilchk (.tmp 35),none,0⟩,
 ⟨(some 37),.faddr 0 (.tmp 36),none,0⟩,
 ⟨(some 38),.load (some 9) (.tmp 37),none,0⟩,
 ⟨(some 39),.mov (.tmp 2),none,0⟩,
 ⟨(some 40),.mov (.tmp 8),none,0⟩,
 ⟨(some 41),.call 39 true [(.tmp 38),(.tmp 39),(.tmp 40)],none,0⟩,
 ⟨(some 10),.mov (.tmp 34),none,0⟩,
 ⟨(some 11),.mov (.tmp 41),none,0⟩])
 (.region 2 [] [
 ⟨(some 42),.mov (.tmp 6),none,0⟩,
 ⟨(some 43),.mov (.tmp 10),none,0⟩,
 ⟨(some 44),.mov (.tmp 11),none,0⟩,
 ⟨(some 45),.mov (.tmp 10),none,0⟩,
 ⟨(some 46),.mov (.tmp 11),none,0⟩,
 ⟨(some 47),.bin .mul (.tmp 45) (.tmp 46),none,0⟩,
 ⟨(some 48),.build [(.int .i64 0),(.int .i64 0),(.int .i64 0)] [(0,1,(.tmp 43)),(1,1,(.tmp 44)),(2,1,(.tmp 47))],none,0⟩,
 ⟨(some 49),.bslice 3 1 [(.int .i64 0),(.int .i64 0),(.int .i64 0)] [(0,(.tmp 48))],none,0⟩,
 ⟨(some 50),.append 3 24 (.tmp 42) (.tmp 49),none,1⟩,
 ⟨(some 6),.mov (.tmp 50),none,2⟩]))))
 (.region 0 [] [
 ⟨(some 51),.bin .add (.tmp 18) (.cst (.c (.int .i64 1))),none,0⟩,
 ⟨(some 18),.mov (.tmp 51),none,0⟩])))))))
 (.seq (.region 0 [] [
 ⟨(some 52),.mov (.tmp 6),none,0⟩,
 ⟨(some 6),.mov (.tmp 52),none,0⟩])
 .ret))))⟩
def f22 : AFunc:=⟨11,[.tmp 4,.tmp 5],false,
 (.seq (.region 2 [] [
 ⟨(some 2),.box (.tmp 0),none,0⟩,
 ⟨(some 3),.box (.tmp 1),none,1⟩,
 ⟨(some 4),.mov (.cst (.c .nilp)),none,2⟩,
 ⟨(some 5),.mov (.cst (.c (.int .i64 0))),none,2⟩])
 (.seq (.region 0 [] [
 ⟨(some 6),.load (some 9) (.tmp 2),none,0⟩,
 ⟨(some 7),.mkfn 61 none [(.tmp 3)],none,0⟩,
 ⟨(some 8),.call 26 false [(.tmp 6),(.tmp 7)],none,0⟩,
 ⟨(some 9),.extract 0 (.tmp 8),none,0⟩,
 ⟨(some 10),.extract 1 (.tmp 8),none,0⟩,
 ⟨(some 4),.mov (.tmp 9),none,0⟩,
 ⟨(some 5),.mov (.tmp 10),none,0⟩])
 .ret))⟩
def f23 : AFunc:=⟨22,[.cell 4 (some 2)],false,
 (.seq (.region 2 [] [
 ⟨(some 3),.box (.tmp 1),none,0⟩,
 ⟨(some 4),.alloc [(.int .i64 0),(.int .i64 0)],none,1⟩])
 (.seq (.region 1 [] [
 ⟨(some 5),.alloc [(.bool false)],none,0⟩,
 ⟨none,.store none (.tmp 5) (.cst (.c (.bool true))),none,1⟩])
 (.seq (.seq (.region 0 [] [
 ⟨(some 8),.mov (.tmp 0),none,0⟩,
 ⟨(some 9),.call 41 false [(.tmp 8),(.cst (.c .nils))],none,0⟩])
 (.block 0 (.range (.tmp 9) [10]
 (.region 1 [] [
 ⟨(some 6),.alloc [.nils,.nils],none,0⟩,
 ⟨none,.store (some 2) (.tmp 6) (.tmp 10),none,1⟩])
 (.block 1 (.seq (.region 0 [] [
 ⟨(some 11),.load none (.tmp 3),none,0⟩,
 ⟨(some 12),.load (some 2) (.tmp 6),none,0⟩,
 ⟨(some 13),.callv (.tmp 11) [(.tmp 12)],none,0⟩,
 ⟨(some 7),.mov (.tmp 13),none,0⟩])
 (.seq (.seq (.region 0 [] [
 ⟨(some 14),.load none (.tmp 5),none,0⟩])
 (.cond (.tmp 14)
 (.region 0 [] [
 ⟨(some 15),.mov (.tmp 7),none,0⟩,
 ⟨(some 16),.mov (.tmp 7),none,0⟩,
 ⟨(some 17),.build [(.int .i64 0),(.int .i64 0)] [(0,1,(.tmp 15)),(1,1,(.tmp 16))],none,0⟩,
 ⟨none,.store (some 2) (.tmp 4) (.tmp 17),none,0⟩,
 ⟨none,.store none (.tmp 5) (.cst (.c (.bool false))),none,0⟩])
 .skip))
 (.region 0 [] [
 ⟨(some 18),.load (some 2) (.tmp 4),none,0⟩,
 ⟨(some 19),.mov (.tmp 7),none,0⟩,
 ⟨(some 20),.call 62 true [(.tmp 18),(.tmp 19)],none,0⟩,
 ⟨none,.store (some 2) (.tmp 4) (.tmp 20),none,0⟩])))))))
 (.seq (.region 0 [] [
 ⟨(some 21),.load (some 2) (.tmp 4),none,0⟩,
 ⟨none,.store (some 2) (.tmp 4) (.tmp 21),none,0⟩])
 .ret))))⟩
def f24 : AFunc:=⟨9,[.tmp 4],false,
 (.seq (.region 1 [] [
 ⟨(some 3),.box (.tmp 0),none,0⟩,
 ⟨(some 4),.mov (.cst (.c (.int .i64 0))),none,1⟩])
 (.seq (.region 0 [] [
 ⟨(some 5),.load none (.tmp 1),none,0⟩,
 ⟨(some 6),.load (some 2) (.tmp 3),none,0⟩,
 ⟨(some 7),.load none (.tmp 2),none,0⟩,
 ⟨(some 8),.call 25 false [(.tmp 5),(.tmp 6),(.tmp 7)],none,0⟩,
 ⟨(some 4),.mov (.tmp 8),none,0⟩])
 .ret))⟩
def f25 : AFunc:=⟨24,[.tmp 6],false,
 (.seq (.region 1 [] [
 ⟨(some 4),.box (.tmp 1),none,0⟩,
 ⟨(some 6),.mov (.cst (.c (.int .i64 0))),none,1⟩])
 (.seq (.seq (.region 0 [] [
 ⟨(some 9),.mov (.tmp 0),none,0⟩,
 ⟨(some 10),.load (some 2) (.tmp 4),none,0⟩,
 ⟨(some 11),.mov (.tmp 2),none,0⟩,
 ⟨(some 12),.call 21 false [(.tmp 9),(.tmp 10),(.tmp 11)],none,0⟩,
 ⟨(some 13),.len (.tmp 12),none,0⟩,
 ⟨(some 14),.mov (.cst (.c (.int .i64 0))),none,0⟩])
 (.block 0 (.loop ⟨[8,15,16,17,18,19,20,21,22],false,[]⟩
 (.seq (.region 0 [] [
 ⟨(some 15),.bin .lss (.tmp 14) (.tmp 13),none,0⟩])
 (.seq (.cond (.tmp 15)
 .skip
 (.exit 0))
 (.seq (.block 1 (.seq (.region 1 [] [
 ⟨(some 16),.iaddr 3 (.tmp 12) (.tmp 14),none,0⟩,
 ⟨(some 17),.load (some 3) (.tmp 16),none,0⟩,
 ⟨(some 8),.alloc [(.int .i64 0),(.int .i64 0),(.int .i64 0)],none,0⟩,
 ⟨none,.store (some 3) (.tmp 8) (.tmp 17),none,1⟩])
 (.region 0 [] [
 ⟨(some 18),.mov (.tmp 6),none,0⟩,
 ⟨(some 19),.faddr 2 (.tmp 8),none,0⟩,
 ⟨(some 20),.load none (.tmp 19),none,0⟩,
 ⟨(some 21),.bin .add (.tmp 18) (.tmp 20),none,0⟩,
 ⟨(some 6),.mov (.tmp 21),none,0⟩])))
 (.region 0 [] [
 ⟨(some 22),.bin .add (.tmp 14) (.cst (.c (.int .i64 1))),none,0⟩,
 ⟨(some 14),.mov (.tmp 22),none,0⟩])))))))
 (.seq (.region 0 [] [
 ⟨(some 23),.mov (.tmp 6),none,0⟩,
 ⟨(some 6),.mov (.tmp 23),none,0⟩])
 .ret)))⟩
def f26 : AFunc:=⟨23,[.tmp 4,.tmp 5],false,
 (.seq (.region 1 [] [
 ⟨(some 2),.box (.tmp 0),none,0⟩,
 ⟨(some 4),.mov (.cst (.c .nilp)),none,1⟩,
 ⟨(some 5),.mov (.cst (.c (.int .i64 0))),none,1⟩])
 (.seq (.seq (.region 0 [] [
 ⟨(some 8),.load (some 9) (.tmp 2),none,0⟩,
 ⟨(some 9),.call 16 true [(.tmp 8)],none,0⟩,
 ⟨(some 6),.mov (.tmp 9),none,0⟩])
 (.seq (.region 0 [] [
 ⟨(some 10),.mov (.tmp 6),none,0⟩,
 ⟨(some 11),.bin .neq (.tmp 10) (.cst (.c (.int .i64 0))),none,0⟩])
 (.cond (.tmp 11)
 (.seq (.region 0 [] [
 ⟨(some 12),.mov (.tmp 6),none,0⟩,
 ⟨(some 4),.mov (.cst (.c .nilp)),none,0⟩,
 ⟨(some 5),.mov (.tmp 12),none,0⟩])
 .ret)
 .skip)))
 (.seq (.seq (.region 0 [] [
 ⟨(some 13),.mov (.tmp 1),none,0⟩,
 ⟨(some 14),.load (some 9) (.tmp 2),none,0⟩,
 ⟨(some 15),.callv (.tmp 13) [(.tmp 14)],none,0⟩,
 ⟨(some 16),.not (.tmp 15),none,0⟩])
 (.cond (.tmp 16)
 (.seq (.region 0 [] [
 ⟨(some 4),.mov (.cst (.c .nilp)),none,0⟩,
 ⟨(some 5),.mov (.cst (.c (.int .i64 2))),none,0⟩])
 .ret)
 .skip))
 (.seq (.region 0 [] [
 ⟨(some 17),.load (some 9) (.tmp 2),none,0⟩,
 ⟨(some 18),.call 20 false [(.tmp 17)],none,0⟩,
 ⟨(some 7),.mov (.tmp 18),none,0⟩])
 (.seq (.seq (.region 0 [] [
 ⟨(some 19),.mov (.tmp 7),none,0⟩,
 ⟨(some 20),.call 32 false [(.tmp 19),(.cst (.c .nils))],none,0⟩,
 ⟨(some 21),.not (.tmp 20),none,0⟩])
 (.cond (.tmp 21)
 (.seq (.region 0 [] [
 ⟨(some 4),.mov (.cst (.c .nilp)),none,0⟩,
 ⟨(some 5),.mov (.cst (.c (.int .i64 11))),none,0⟩])
 .ret)
 .skip))
 (.seq (.region 0 [] [
 ⟨(some 22),.mov (.tmp 7),none,0⟩,
 ⟨(some 4),.mov (.tmp 22),none,0⟩,
 ⟨(some 5),.mov (.cst (.c (.int .i64 0))),none,0⟩])
 .ret))))))⟩
def f27 : AFunc:=⟨7,[.tmp 3],false,
 (.seq (.region 1 [] [
 ⟨(some 2),.box (.tmp 0),none,0⟩,
 ⟨(some 3),.mov (.cst (.c (.bool false))),none,1⟩])
 (.seq (.region 0 [] [
 ⟨(some 4),.load (some 9) (.tmp 2),none,0⟩,
 ⟨(some 5),.load none (.tmp 1),none,0⟩,
 ⟨(some 6),.call 28 true [(.tmp 4),(.tmp 5)],none,0⟩,
 ⟨(some 3),.mov (.tmp 6),none,0⟩])
 .ret))⟩
def f28 : AFunc:=⟨9,[.tmp 4],false,
 (.seq (.region 1 [] [
 ⟨(some 2),.box (.tmp 0),none,0⟩,
 ⟨(some 4),.mov (.cst (.c (.bool false))),none,1⟩])
 (.seq (.region 0 [] [
 ⟨(some 5),.mov (.tmp 1),none,0⟩,
 ⟨(some 6),.faddr 0 (.tmp 2),none,0⟩,
 ⟨(some 7),.load none (.tmp 6),none,0⟩,
 ⟨(some 8),.call 59 true [(.tmp 5),(.cst (.c (.int .i64 0))),(.tmp 7)],none,0⟩,
 ⟨(some 4),.mov (.tmp 8),none,0⟩])
 .ret))⟩
def f29 : AFunc:=⟨15,[.tmp 4],false,
 (.seq (.region 1 [] [
 ⟨(some 3),.box (.tmp 0),none,0⟩,
 ⟨(some 4),.mov (.cst (.c (.int .i64 0))),none,1⟩])
 (.seq (.region 0 [(0,1),(0,2),(1,2),(0,3),(1,3),(0,4),(1,4),(0,5),(1,5),(0,6),(1,6),(0,8),(1,8),(2,8),(3,8),(4,8),(5,8),(6,8),(7,8)] [
 ⟨(some 5),.load none (.tmp 1),none,0⟩,
 ⟨(some 6),.load (some 2) (.tmp 3),none,0⟩,
 ⟨(some 7),.load none (.tmp 1),none,0⟩,
 ⟨(some 8),.nilchk (.tmp 7),none,0⟩,
 ⟨(some 9),.faddr 0 (.tmp 8),none,0⟩,
 ⟨(some 10),.faddr 4 (.tmp 9),none,0⟩,
 ⟨(some 11),.load none (.tmp 10),none,0⟩,
 ⟨(some 12),.call 30 true [(.tmp 5),(.tmp 6),(.tmp 11)],none,0⟩,
 ⟨(some 13),.load none (.tmp 2),none,0⟩,
 ⟨(some 14),.idx 10 1 none (.tmp 12) (.tmp 13),none,0⟩,
 ⟨(some 4),.mov (.tmp 14),none,0⟩])
 .ret))⟩
def f30 : AFunc:=⟨29,[.cell 6 (some 10)],false,
 (.seq (.region 2 [] [
 ⟨(some 4),.box (.tmp 1),none,0⟩,
 ⟨(some 6),.alloc [(.int .i64 0),(.int .i64 0),(.int .i64 0),(.int .i64 0),(.int .i64 0),(.int .i64 0),(.int .i64 0),(.int .i64 0),(.int .i64 0),(.int .i64 0)],none,1⟩])
 (.seq (.region 0 [] [
 ⟨(some 7),.mov (.cst (.c (.int .i64 0))),none,0⟩])
 (.seq (.seq (.region 0 [] [
 ⟨(some 10),.faddr 0 (.tmp 4),none,0⟩,
 ⟨(some 11),.load none (.tmp 10),none,0⟩,
 ⟨(some 12),.len (.tmp 11),none,0⟩,
 ⟨(some 13),.mov (.cst (.c (.int .i64 0))),none,0⟩])
 (.block 0 (.loop ⟨[8,9,14,15,16,17,18,19,20,21,22,23,24,25,26,27],false,[]⟩
 (.seq (.region 0 [] [
 ⟨(some 14),.bin .lss (.tmp 13) (.tmp 12),none,0⟩])
 (.seq (.cond (.tmp 14)
 .skip
 (.exit 0))
 (.seq (.block 1 (.seq (.region 0 [] [
 ⟨(some 15),.mov (.tmp 13),none,0⟩,
 ⟨(some 16),.iaddr 1 (.tmp 11) (.tmp 13),none,0⟩,
 ⟨(some 17),.load none (.tmp 16),none,0⟩,
 ⟨(some 8),.mov (.tmp 15),none,0⟩,
 ⟨(some 9),.mov (.tmp 17),none,0⟩])
 (.seq (.region 0 [] [
 ⟨(some 18),.mov (.tmp 7),none,0⟩,
 ⟨(some 19),.mov (.tmp 9),none,0⟩,
 ⟨(some 20),.bin .add (.tmp 18) (.tmp 19),none,0⟩,
 ⟨(some 7),.mov (.tmp 20),none,0⟩])
 (.seq (.region 0 [] [
 ⟨(some 21),.mov (.tmp 8),none,0⟩,
 ⟨(some 22),.mov (.tmp 7),none,0⟩,
 ⟨(some 23),.iaddrA 10 1 (.tmp 6) (.tmp 21),none,0⟩,
 ⟨none,.store none (.tmp 23) (.tmp 22),none,0⟩])
 (.seq (.region 0 [] [
 ⟨(some 24),.mov (.tmp 2),none,0⟩,
 ⟨(some 25),.mov (.tmp 8),none,0⟩,
 ⟨(some 26),.call 63 true [(.tmp 24),(.tmp 25)],none,0⟩])
 (.cond (.tmp 26)
 (.region 0 [] [
 ⟨(some 7),.mov (.cst (.c (.int .i64 0))),none,0⟩])
 .skip))))))
 (.region 0 [] [
 ⟨(some 27),.bin .add (.tmp 13) (.cst (.c (.int .i64 1))),none,0⟩,
 ⟨(some 13),.mov (.tmp 27),none,0⟩])))))))
 (.seq (.region 0 [] [
 ⟨(some 28),.load (some 10) (.tmp 6),none,0⟩,
 ⟨none,.store (some 10) (.tmp 6) (.tmp 28),none,0⟩])
 .ret))))⟩
def f31 : AFunc:=⟨39,[.tmp 10],false,
 (.seq (.region 0 [] [
 ⟨(some 10),.mov (.cst (.c (.bool false))),none,0⟩])
 (.seq (.seq (.region 0 [] [
 ⟨(some 12),.mov (.tmp 2),none,0⟩,
 ⟨(some 13),.bin .eql (.tmp 12) (.cst (.c (.int .i64 0))),none,0⟩])
 (.cond (.tmp 13)
 (.seq (.region 0 [] [
 ⟨(some 14),.mov (.tmp 0),none,0⟩,
 ⟨none,.store none (.tmp 3) (.tmp 14),none,0⟩])
 (.seq (.region 0 [] [
 ⟨(some 15),.load none (.tmp 4),none,0⟩,
 ⟨(some 16),.mov (.tmp 0),none,0⟩,
 ⟨(some 17),.call 32 false [(.tmp 15),(.tmp 16)],none,0⟩,
 ⟨(some 10),.mov (.tmp 17),none,0⟩])
 .ret))
 .skip))
 (.seq (.seq (.region 0 [] [
 ⟨(some 18),.mov (.tmp 1),none,0⟩,
 ⟨(some 11),.mov (.tmp 18),none,0⟩])
 (.block 0 (.loop ⟨[10,19,20,21,22,23,24,25,26,27,28,29,30,31,32,33,34,35,36,37,38],false,[]⟩
 (.seq (.seq (.region 0 [] [
 ⟨(some 19),.mov (.tmp 11),none,0⟩,
 ⟨(some 20),.faddr 8 (.tmp 5),none,0⟩,
 ⟨(some 21),.load none (.tmp 20),none,0⟩,
 ⟨(some 22),.len (.tmp 21),none,0⟩,
 ⟨(some 23),.mov (.tmp 2),none,0⟩,
 ⟨(some 24),.bin .sub (.tmp 22) (.tmp 23),none,0⟩,
 ⟨(some 25),.bin .leq (.tmp 19) (.tmp 24),none,0⟩])
 (.cond (.tmp 25)
 .skip
 (.exit 0)))
 (.seq (.block 1 (.seq (.region 3 [(0,1),(0,2),(0,3),(1,3),(2,3),(0,4),(1,4),(2,4),(0,5),(0,6),(1,6),(2,6),(3,6),(4,6),(5,6),(0,7),(1,7),(2,7),(3,7),(4,7),(5,7),(0,8),(1,8),(2,8),(3,8),(4,8),(5,8),(6,8),(7,8),(0,9),(1,9),(2,9),(3,9),(4,9),(5,9),(6,9),(7,9)] [
 ⟨(some 28),.load none (.tmp 6),none,0⟩,
 ⟨(some 29),.mov (.tmp 0),none,0⟩,
 ⟨(some 30),.clone 33 1 8 (.tmp 29),none,0⟩,
 ⟨(some 31),.mov (.tmp 11),none,1⟩,
 ⟨(some 32),.bslice 1 1 [(.int .i64 0)] [(0,(.tmp 31))],none,1⟩,
 ⟨(some 33),.append 1 8 (.tmp 30) (.tmp 32),none,2⟩,
 ⟨(some 34),.mov (.tmp 11),none,3⟩,
 ⟨(some 35),.bin .add (.tmp 34) (.cst (.c (.int .i64 1))),none,3⟩,
 ⟨(some 36),.mov (.tmp 2),none,3⟩,
 ⟨(some 37),.bin .sub (.tmp 36) (.cst (.c (.int .i64 1))),none,3⟩,
 ⟨(some 38),.callv (.tmp 28) [(.tmp 33),(.tmp 35),(.tmp 37)],none,3⟩])
 (.cond (.tmp 38)
 (.seq (.region 0 [] [
 ⟨(some 10),.mov (.cst (.c (.bool true))),none,0⟩])
 .ret)
 .skip)))
 (.region 0 [] [
 ⟨(some 26),.mov (.tmp 11),none,0⟩,
 ⟨(some 27),.bin .add (.tmp 26) (.cst (.c (.int .i64 1))),none,0⟩,
 ⟨(some 11),.mov (.tmp 27),none,0⟩]))))))
 (.seq (.region 0 [] [
 ⟨(some 10),.mov (.cst (.c (.bool false))),none,0⟩])
 .ret))))⟩
def f32 : AFunc:=⟨9,[.cell 4 none],false,
 (.seq (.region 1 [] [
 ⟨(some 4),.alloc [(.bool false)],none,0⟩])
 (.seq (.seq (.region 0 [] [
 ⟨(some 5),.mov (.tmp 0),none,0⟩,
 ⟨(some 6),.mov (.tmp 1),none,0⟩,
 ⟨(some 7),.call 41 false [(.tmp 5),(.tmp 6)],none,0⟩])
 (.block 0 (.range (.tmp 7) [8]
 .skip
 (.block 1 (.seq (.region 0 [] [
 ⟨none,.store none (.tmp 4) (.cst (.c (.bool true))),none,0⟩])
 .ret)))))
 (.seq (.region 0 [] [
 ⟨none,.store none (.tmp 4) (.cst (.c (.bool false))),none,0⟩])
 .ret)))⟩
def f33 : AFunc:=⟨8,[.tmp 2],false,
 (.seq (.region 0 [] [
 ⟨(some 2),.mov (.cst (.c .nils)),none,0⟩])
 (.seq (.seq (.region 0 [] [
 ⟨(some 3),.mov (.tmp 0),none,0⟩,
 ⟨(some 4),.isnil false (.tmp 3),none,0⟩])
 (.cond (.tmp 4)
 (.seq (.region 0 [] [
 ⟨(some 2),.mov (.cst (.c .nils)),none,0⟩])
 .ret)
 .skip))
 (.seq (.region 2 [] [
 ⟨(some 5),.bslice 1 0 [(.int .i64 0)] [],none,0⟩,
 ⟨(some 6),.mov (.tmp 0),none,1⟩,
 ⟨(some 7),.append 1 8 (.tmp 5) (.tmp 6),none,1⟩,
 ⟨(some 2),.mov (.tmp 7),none,2⟩])
 .ret)))⟩
def f34 : AFunc:=⟨9,[.tmp 4],false,
 (.seq (.region 1 [] [
 ⟨(some 3),.box (.tmp 1),none,0⟩,
 ⟨(some 4),.mov (.cst (.c (.bool false))),none,1⟩])
 (.seq (.region 0 [] [
 ⟨(some 5),.mov (.tmp 0),none,0⟩,
 ⟨(some 6),.mkfn 65 none [(.tmp 3)],none,0⟩,
 ⟨(some 7),.call 64 false [(.tmp 5),(.tmp 6)],none,0⟩,
 ⟨(some 8),.not (.tmp 7),none,0⟩,
 ⟨(some 4),.mov (.tmp 8),none,0⟩])
 .ret))⟩
def f35 : AFunc:=⟨11,[.tmp 3],false,
 (.seq (.region 1 [] [
 ⟨(some 2),.box (.tmp 0),none,0⟩,
 ⟨(some 3),.mov (.cst (.c (.bool false))),none,1⟩])
 (.seq (.region 0 [(0,2),(1,2),(0,3),(1,3),(0,4),(1,4),(0,5),(1,5)] [
 ⟨(some 4),.faddr 1 (.tmp 2),none,0⟩,
 ⟨(some 5),.load (some 2) (.tmp 4),none,0⟩,
 ⟨(some 6),.faddr 0 (.tmp 2),none,0⟩,
 ⟨(some 7),.load none (.tmp 6),none,0⟩,
 ⟨(some 8),.iaddrA 10 1 (.tmp 1) (.tmp 7),none,0⟩,
 ⟨(some 9),.load none (.tmp 8),none,0⟩,
 ⟨(some 10),.call 36 true [(.tmp 5),(.tmp 9)],none,0⟩,
 ⟨(some 3),.mov (.tmp 10),none,0⟩])
 .ret))⟩
def f36 : AFunc:=⟨11,[.tmp 4],false,
 (.seq (.region 1 [] [
 ⟨(some 2),.box (.tmp 0),none,0⟩,
 ⟨(some 4),.mov (.cst (.c (.bool false))),none,1⟩])
 (.seq (.region 0 [] [
 ⟨(some 5),.mov (.tmp 1),none,0⟩,
 ⟨(some 6),.faddr 0 (.tmp 2),none,0⟩,
 ⟨(some 7),.load none (.tmp 6),none,0⟩,
 ⟨(some 8),.faddr 1 (.tmp 2),none,0⟩,
 ⟨(some 9),.load none (.tmp 8),none,0⟩,
 ⟨(some 10),.call 59 true [(.tmp 5),(.tmp 7),(.tmp 9)],none,0⟩,
 ⟨(some 4),.mov (.tmp 10),none,0⟩])
 .ret))⟩
end Am.Cr
