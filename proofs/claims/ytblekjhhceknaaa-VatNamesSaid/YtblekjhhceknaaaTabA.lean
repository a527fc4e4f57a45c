/-
  A part of the proof: the texts VtTabA of this seat, joined.
-/
import Derived.Test.YtblekjhhceknaaaAmA
namespace Am.Vt
open Go Am
set_option maxRecDepth 100000
def f3 : AFunc:=⟨325,[.tmp 0],false,
 (.seq (.region 0 [] [
 ⟨(some 0),.mov (.cst (.c (.bool false))),none,0⟩])
 (.seq (.region 2 [] [
 ⟨(some 28),.bslice 1 4 [(.int .i64 0)] [(0,(.cst (.c (.int .i64 2)))),(1,(.cst (.c (.int .i64 1)))),(2,(.cst (.c (.int .i64 3)))),(3,(.cst (.c (.int .i64 0))))],none,0⟩,
 ⟨(some 29),.build [(.int .i64 0),(.int .i64 0),.nils] [(0,1,(.cst (.c (.int .i64 2)))),(1,1,(.cst (.c (.int .i64 100)))),(2,1,(.tmp 28))],none,1⟩,
 ⟨(some 1),.alloc [(.int .i64 0),(.int .i64 0),.nils],none,1⟩,
 ⟨none,.store (some 3) (.tmp 1) (.tmp 29),none,2⟩])
 (.seq (.region 0 [(0,1),(4,5),(5,6)] [
 ⟨(some 31),.call 11 true [(.cst (.c (.int .i64 4))),(.cst (.c (.int .i64 0)))],none,0⟩,
 ⟨(some 32),.load (some 3) (.tmp 1),none,0⟩,
 ⟨(some 33),.call 10 true [(.tmp 31),(.tmp 32)],none,0⟩,
 ⟨(some 30),.mov (.tmp 33),none,0⟩,
 ⟨(some 34),.extract 0 (.tmp 30),none,0⟩,
 ⟨(some 35),.extract 1 (.tmp 30),none,0⟩,
 ⟨(some 2),.mov (.tmp 34),none,0⟩,
 ⟨(some 3),.mov (.tmp 35),none,0⟩])
 (.seq (.region 0 [] [
 ⟨(some 37),.call 11 true [(.cst (.c (.int .i64 4))),(.cst (.c (.int .i64 0)))],none,0⟩,
 ⟨(some 38),.call 12 true [(.tmp 37),(.cst (.c (.int .i64 0)))],none,0⟩,
 ⟨(some 36),.mov (.tmp 38),none,0⟩,
 ⟨(some 39),.extract 0 (.tmp 36),none,0⟩,
 ⟨(some 40),.extract 1 (.tmp 36),none,0⟩,
 ⟨(some 4),.mov (.tmp 39),none,0⟩,
 ⟨(some 5),.mov (.tmp 40),none,0⟩])
 (.seq (.region 0 [] [
 ⟨(some 42),.call 11 true [(.cst (.c (.int .i64 4))),(.cst (.c (.int .i64 0)))],none,0⟩,
 ⟨(some 43),.call 12 true [(.tmp 42),(.cst (.c (.int .i64 2)))],none,0⟩,
 ⟨(some 41),.mov (.tmp 43),none,0⟩,
 ⟨(some 44),.extract 0 (.tmp 41),none,0⟩,
 ⟨(some 45),.extract 1 (.tmp 41),none,0⟩,
 ⟨(some 6),.mov (.tmp 44),none,0⟩,
 ⟨(some 7),.mov (.tmp 45),none,0⟩])
 (.seq (.region 0 [] [
 ⟨(some 47),.call 11 true [(.cst (.c (.int .i64 1))),(.cst (.c (.int .i64 0)))],none,0⟩,
 ⟨(some 48),.call 13 true [(.tmp 47)],none,0⟩,
 ⟨(some 46),.mov (.tmp 48),none,0⟩,
 ⟨(some 49),.extract 0 (.tmp 46),none,0⟩,
 ⟨(some 50),.extract 1 (.tmp 46),none,0⟩,
 ⟨(some 8),.mov (.tmp 49),none,0⟩,
 ⟨(some 9),.mov (.tmp 50),none,0⟩])
 (.seq (.region 1 [] [
 ⟨(some 52),.call 11 true [(.cst (.c (.int .i64 4))),(.cst (.c (.int .i64 0)))],none,0⟩,
 ⟨(some 53),.call 14 true [(.tmp 52)],none,0⟩,
 ⟨(some 51),.mov (.tmp 53),none,0⟩,
 ⟨(some 54),.extract 0 (.tmp 51),none,0⟩,
 ⟨(some 55),.extract 1 (.tmp 51),none,0⟩,
 ⟨(some 10),.alloc [(.int .i64 0),(.int .i64 0),(.int .i64 0),(.int .i64 0),.nils,(.int .i64 0),(.int .i64 0),.nils],none,0⟩,
 ⟨none,.store (some 8) (.tmp 10) (.tmp 54),none,1⟩,
 ⟨(some 11),.mov (.tmp 55),none,1⟩])
 (.seq (.region 0 [] [
 ⟨(some 57),.call 11 true [(.cst (.c (.int .i64 4))),(.cst (.c (.int .i64 1)))],none,0⟩,
 ⟨(some 58),.call 15 true [(.tmp 57)],none,0⟩,
 ⟨(some 56),.mov (.tmp 58),none,0⟩,
 ⟨(some 59),.extract 0 (.tmp 56),none,0⟩,
 ⟨(some 60),.extract 1 (.tmp 56),none,0⟩,
 ⟨(some 12),.mov (.tmp 59),none,0⟩,
 ⟨(some 13),.mov (.tmp 60),none,0⟩])
 (.seq (.region 2 [] [
 ⟨(some 61),.bslice 1 4 [(.int .i64 0)] [(0,(.cst (.c (.int .i64 2)))),(1,(.cst (.c (.int .i64 1)))),(2,(.cst (.c (.int .i64 2)))),(3,(.cst (.c (.int .i64 0))))],none,0⟩,
 ⟨(some 62),.build [(.int .i64 0),(.int .i64 0),.nils] [(0,1,(.cst (.c (.int .i64 2)))),(1,1,(.cst (.c (.int .i64 100)))),(2,1,(.tmp 61))],none,1⟩,
 ⟨(some 63),.call 16 true [],none,1⟩,
 ⟨(some 64),.build [(.int .i64 0),(.int .i64 0),(.int .i64 0),(.int .i64 0),.nils,(.int .i64 0),(.int .i64 0),.nils] [(2,3,(.tmp 62)),(5,3,(.tmp 63))],none,1⟩,
 ⟨(some 14),.alloc [(.int .i64 0),(.int .i64 0),(.int .i64 0),(.int .i64 0),.nils,(.int .i64 0),(.int .i64 0),.nils],none,1⟩,
 ⟨none,.store (some 8) (.tmp 14) (.tmp 64),none,2⟩])
 (.seq (.seq (.region 2 [(8,11),(9,11),(10,11),(15,18),(16,18),(17,18),(22,25),(23,25),(24,25),(67,68),(78,79),(84,85),(94,95),(100,101)] [
 ⟨(some 65),.mov (.tmp 3),none,0⟩,
 ⟨(some 66),.bin .neq (.tmp 65) (.cst (.c (.int .i64 0))),none,0⟩,
 ⟨(some 67),.mov (.tmp 66),none,0⟩,
 ⟨(some 68),.mov (.tmp 2),some (67,false),0⟩,
 ⟨(some 69),.len (.tmp 68),some (67,false),0⟩,
 ⟨(some 70),.bin .neq (.tmp 69) (.cst (.c (.int .i64 4))),some (67,false),0⟩,
 ⟨(some 71),.pick (.tmp 67) (.cst (.c (.bool true))) (.tmp 70),none,0⟩,
 ⟨(some 72),.mov (.tmp 71),none,0⟩,
 ⟨(some 73),.mov (.tmp 2),some (72,false),0⟩,
 ⟨(some 74),.iaddr 2 (.tmp 73) (.cst (.c (.int .i64 0))),some (72,false),0⟩,
 ⟨(some 75),.load (some 2) (.tmp 74),some (72,false),0⟩,
 ⟨(some 76),.build [(.int .i64 0),(.int .i64 0)] [(0,1,(.cst (.c (.int .i64 4)))),(1,1,(.cst (.c (.int .i64 95))))],some (72,false),0⟩,
 ⟨(some 77),.eqA true [(some .i64),(some .i64)] (.tmp 75) (.tmp 76),some (72,false),0⟩,
 ⟨(some 78),.pick (.tmp 72) (.cst (.c (.bool true))) (.tmp 77),none,0⟩,
 ⟨(some 79),.mov (.tmp 78),none,0⟩,
 ⟨(some 80),.mov (.tmp 2),some (79,false),0⟩,
 ⟨(some 81),.iaddr 2 (.tmp 80) (.cst (.c (.int .i64 2))),some (79,false),0⟩,
 ⟨(some 82),.load (some 2) (.tmp 81),some (79,false),0⟩,
 ⟨(some 83),.build [(.int .i64 0),(.int .i64 0)] [(0,1,(.cst (.c (.int .i64 6)))),(1,1,(.cst (.c (.int .i64 95))))],some (79,false),0⟩,
 ⟨(some 84),.eqA true [(some .i64),(some .i64)] (.tmp 82) (.tmp 83),some (79,false),0⟩,
 ⟨(some 85),.pick (.tmp 79) (.cst (.c (.bool true))) (.tmp 84),none,0⟩,
 ⟨(some 86),.mov (.tmp 85),none,0⟩,
 ⟨(some 87),.mov (.tmp 2),some (86,false),0⟩,
 ⟨(some 88),.iaddr 2 (.tmp 87) (.cst (.c (.int .i64 3))),some (86,false),0⟩,
 ⟨(some 89),.load (some 2) (.tmp 88),some (86,false),0⟩,
 ⟨(some 90),.build [(.int .i64 0),(.int .i64 0)] [(0,1,(.cst (.c (.int .i64 6)))),(1,1,(.cst (.c (.int .i64 90))))],some (86,false),0⟩,
 ⟨(some 91),.eqA true [(some .i64),(some .i64)] (.tmp 89) (.tmp 90),some (86,false),0⟩,
 ⟨(some 92),.pick (.tmp 86) (.cst (.c (.bool true))) (.tmp 91),none,0⟩,
 ⟨(some 93),.mov (.tmp 92),none,0⟩,
 ⟨(some 94),.mov (.tmp 5),some (93,false),0⟩,
 ⟨(some 95),.bin .neq (.tmp 94) (.cst (.c (.int .i64 0))),some (93,false),0⟩,
 ⟨(some 96),.pick (.tmp 93) (.cst (.c (.bool true))) (.tmp 95),none,0⟩,
 ⟨(some 97),.mov (.tmp 96),none,0⟩,
 ⟨(some 98),.mov (.tmp 4),some (97,false),0⟩,
 ⟨(some 99),.bin .neq (.tmp 98) (.cst (.c (.int .i64 1))),some (97,false),0⟩,
 ⟨(some 100),.pick (.tmp 97) (.cst (.c (.bool true))) (.tmp 99),none,0⟩,
 ⟨(some 101),.mov (.tmp 100),none,0⟩,
 ⟨(some 102),.mov (.tmp 7),some (101,false),0⟩,
 ⟨(some 103),.bin .neq (.tmp 102) (.cst (.c (.int .i64 0))),some (101,false),0⟩,
 ⟨(some 104),.pick (.tmp 101) (.cst (.c (.bool true))) (.tmp 103),none,0⟩,
 ⟨(some 105),.mov (.tmp 104),none,0⟩,
 ⟨(some 106),.mov (.tmp 6),some (105,false),0⟩,
 ⟨(some 107),.bin .neq (.tmp 106) (.cst (.c (.int .i64 3))),some (105,false),0⟩,
 ⟨(some 108),.pick (.tmp 105) (.cst (.c (.bool true))) (.tmp 107),none,0⟩,
 ⟨(some 109),.mov (.tmp 108),none,0⟩,
 ⟨(some 110),.mov (.tmp 9),some (109,false),0⟩,
 ⟨(some 111),.bin .neq (.tmp 110) (.cst (.c (.int .i64 0))),some (109,false),0⟩,
 ⟨(some 112),.pick (.tmp 109) (.cst (.c (.bool true))) (.tmp 111),none,0⟩,
 ⟨(some 113),.mov (.tmp 112),none,0⟩,
 ⟨(some 114),.mov (.tmp 8),some (113,false),0⟩,
 ⟨(some 115),.len (.tmp 114),some (113,false),0⟩,
 ⟨(some 116),.bin .neq (.tmp 115) (.cst (.c (.int .i64 0))),some (113,false),0⟩,
 ⟨(some 117),.pick (.tmp 113) (.cst (.c (.bool true))) (.tmp 116),none,0⟩,
 ⟨(some 118),.mov (.tmp 117),none,0⟩,
 ⟨(some 119),.mov (.tmp 11),some (118,false),0⟩,
 ⟨(some 120),.bin .neq (.tmp 119) (.cst (.c (.int .i64 7))),some (118,false),0⟩,
 ⟨(some 121),.pick (.tmp 118) (.cst (.c (.bool true))) (.tmp 120),none,0⟩,
 ⟨(some 122),.mov (.tmp 121),none,0⟩,
 ⟨(some 123),.mov (.tmp 13),some (122,false),0⟩,
 ⟨(some 124),.bin .neq (.tmp 123) (.cst (.c (.int .i64 0))),some (122,false),0⟩,
 ⟨(some 125),.pick (.tmp 122) (.cst (.c (.bool true))) (.tmp 124),none,0⟩,
 ⟨(some 126),.mov (.tmp 125),none,0⟩,
 ⟨(some 127),.mov (.tmp 12),some (126,false),0⟩,
 ⟨(some 128),.len (.tmp 127),some (126,false),0⟩,
 ⟨(some 129),.bin .neq (.tmp 128) (.cst (.c (.int .i64 0))),some (126,false),0⟩,
 ⟨(some 130),.pick (.tmp 126) (.cst (.c (.bool true))) (.tmp 129),none,0⟩,
 ⟨(some 131),.mov (.tmp 130),none,0⟩,
 ⟨(some 132),.call 11 true [(.cst (.c (.int .i64 4))),(.cst (.c (.int .i64 1)))],some (131,false),0⟩,
 ⟨(some 133),.load (some 3) (.tmp 1),some (131,false),0⟩,
 ⟨(some 134),.call 17 true [(.tmp 132),(.tmp 133)],some (131,false),0⟩,
 ⟨(some 135),.not (.tmp 134),some (131,false),0⟩,
 ⟨(some 136),.pick (.tmp 131) (.cst (.c (.bool true))) (.tmp 135),none,0⟩,
 ⟨(some 137),.mov (.tmp 136),none,0⟩,
 ⟨(some 138),.call 11 true [(.cst (.c (.int .i64 4))),(.cst (.c (.int .i64 1)))],some (137,false),0⟩,
 ⟨(some 139),.call 16 true [],some (137,false),0⟩,
 ⟨(some 140),.call 17 true [(.tmp 138),(.tmp 139)],some (137,false),0⟩,
 ⟨(some 141),.pick (.tmp 137) (.cst (.c (.bool true))) (.tmp 140),none,0⟩,
 ⟨(some 142),.mov (.tmp 141),none,0⟩,
 ⟨(some 143),.call 11 true [(.cst (.c (.int .i64 4))),(.cst (.c (.int .i64 0)))],some (142,false),0⟩,
 ⟨(some 144),.bslice 1 4 [(.int .i64 0)] [(0,(.cst (.c (.int .i64 0)))),(1,(.cst (.c (.int .i64 (-1))))),(2,(.cst (.c (.int .i64 (-3))))),(3,(.cst (.c (.int .i64 0))))],some (142,false),0⟩,
 ⟨(some 145),.call 18 true [(.tmp 143),(.tmp 144)],some (142,false),1⟩,
 ⟨(some 146),.not (.tmp 145),some (142,false),1⟩,
 ⟨(some 147),.pick (.tmp 142) (.cst (.c (.bool true))) (.tmp 146),none,1⟩,
 ⟨(some 148),.mov (.tmp 147),none,1⟩,
 ⟨(some 149),.call 11 true [(.cst (.c (.int .i64 4))),(.cst (.c (.int .i64 0)))],some (148,false),1⟩,
 ⟨(some 150),.bslice 1 1 [(.int .i64 0)] [(0,(.cst (.c (.int .i64 1))))],some (148,false),1⟩,
 ⟨(some 151),.call 18 true [(.tmp 149),(.tmp 150)],some (148,false),2⟩,
 ⟨(some 152),.pick (.tmp 148) (.cst (.c (.bool true))) (.tmp 151),none,2⟩,
 ⟨(some 153),.mov (.tmp 152),none,2⟩,
 ⟨(some 154),.call 11 true [(.cst (.c (.int .i64 1))),(.cst (.c (.int .i64 0)))],some (153,false),2⟩,
 ⟨(some 155),.call 18 true [(.tmp 154),(.cst (.c .nils))],some (153,false),2⟩,
 ⟨(some 156),.not (.tmp 155),some (153,false),2⟩,
 ⟨(some 157),.pick (.tmp 153) (.cst (.c (.bool true))) (.tmp 156),none,2⟩,
 ⟨(some 158),.mov (.tmp 157),none,2⟩,
 ⟨(some 159),.call 11 true [(.cst (.c (.int .i64 1))),(.cst (.c (.int .i64 0)))],some (158,false),2⟩,
 ⟨(some 160),.load (some 8) (.tmp 14),some (158,false),2⟩,
 ⟨(some 161),.call 19 true [(.tmp 159),(.tmp 160)],some (158,false),2⟩,
 ⟨(some 162),.not (.tmp 161),some (158,false),2⟩,
 ⟨(some 163),.pick (.tmp 158) (.cst (.c (.bool true))) (.tmp 162),none,2⟩,
 ⟨(some 164),.mov (.tmp 163),none,2⟩,
 ⟨(some 165),.call 11 true [(.cst (.c (.int .i64 4))),(.cst (.c (.int .i64 0)))],some (164,false),2⟩,
 ⟨(some 166),.load (some 8) (.tmp 14),some (164,false),2⟩,
 ⟨(some 167),.call 19 true [(.tmp 165),(.tmp 166)],some (164,false),2⟩,
 ⟨(some 168),.pick (.tmp 164) (.cst (.c (.bool true))) (.tmp 167),none,2⟩])
 (.cond (.tmp 168)
 (.seq (.region 0 [] [
 ⟨(some 0),.mov (.cst (.c (.bool false))),none,0⟩])
 .ret)
 .skip))
 (.seq (.region 2 [] [
 ⟨(some 169),.call 16 true [],none,0⟩,
 ⟨(some 170),.call 16 true [],none,0⟩,
 ⟨(some 15),.alloc [(.int .i64 0),(.int .i64 0),.nils],none,0⟩,
 ⟨(some 16),.alloc [(.int .i64 0),(.int .i64 0),.nils],none,1⟩,
 ⟨none,.store (some 3) (.tmp 15) (.tmp 169),none,2⟩,
 ⟨none,.store (some 3) (.tmp 16) (.tmp 170),none,2⟩])
 (.seq (.region 0 [] [
 ⟨(some 171),.faddr 0 (.tmp 15),none,0⟩,
 ⟨none,.store none (.tmp 171) (.cst (.c (.int .i64 3))),none,0⟩])
 (.seq (.region 0 [] [
 ⟨(some 172),.faddr 2 (.tmp 16),none,0⟩,
 ⟨(some 173),.load none (.tmp 172),none,0⟩,
 ⟨(some 174),.slice 1 (.tmp 173) none (some (.cst (.c (.int .i64 3)))),none,0⟩,
 ⟨(some 175),.faddr 2 (.tmp 16),none,0⟩,
 ⟨none,.store none (.tmp 175) (.tmp 174),none,0⟩])
 (.seq (.region 0 [(0,1),(4,5)] [
 ⟨(some 177),.call 11 true [(.cst (.c (.int .i64 4))),(.cst (.c (.int .i64 0)))],none,0⟩,
 ⟨(some 178),.load (some 3) (.tmp 15),none,0⟩,
 ⟨(some 179),.call 10 true [(.tmp 177),(.tmp 178)],none,0⟩,
 ⟨(some 176),.mov (.tmp 179),none,0⟩,
 ⟨(some 180),.extract 0 (.tmp 176),none,0⟩,
 ⟨(some 181),.extract 1 (.tmp 176),none,0⟩,
 ⟨(some 3),.mov (.tmp 181),none,0⟩])
 (.seq (.region 0 [(0,1),(4,5)] [
 ⟨(some 183),.call 11 true [(.cst (.c (.int .i64 4))),(.cst (.c (.int .i64 0)))],none,0⟩,
 ⟨(some 184),.load (some 3) (.tmp 16),none,0⟩,
 ⟨(some 185),.call 10 true [(.tmp 183),(.tmp 184)],none,0⟩,
 ⟨(some 182),.mov (.tmp 185),none,0⟩,
 ⟨(some 186),.extract 0 (.tmp 182),none,0⟩,
 ⟨(some 187),.extract 1 (.tmp 182),none,0⟩,
 ⟨(some 5),.mov (.tmp 187),none,0⟩])
 (.seq (.region 0 [] [
 ⟨(some 189),.call 11 true [(.cst (.c (.int .i64 4))),(.cst (.c (.int .i64 0)))],none,0⟩,
 ⟨(some 190),.call 16 true [],none,0⟩,
 ⟨(some 191),.call 20 true [(.tmp 189),(.tmp 190),(.cst (.c (.int .i64 4))),(.cst (.c (.int .i64 1)))],none,0⟩,
 ⟨(some 188),.mov (.tmp 191),none,0⟩,
 ⟨(some 192),.extract 0 (.tmp 188),none,0⟩,
 ⟨(some 193),.extract 1 (.tmp 188),none,0⟩,
 ⟨(some 7),.mov (.tmp 193),none,0⟩])
 (.seq (.region 0 [] [
 ⟨(some 195),.call 11 true [(.cst (.c (.int .i64 4))),(.cst (.c (.int .i64 2)))],none,0⟩,
 ⟨(some 196),.call 21 true [(.tmp 195),(.cst (.c (.int .i64 0))),(.cst (.c (.int .i64 21)))],none,0⟩,
 ⟨(some 194),.mov (.tmp 196),none,0⟩,
 ⟨(some 197),.extract 0 (.tmp 194),none,0⟩,
 ⟨(some 198),.extract 1 (.tmp 194),none,0⟩,
 ⟨(some 9),.mov (.tmp 198),none,0⟩])
 (.seq (.region 0 [] [
 ⟨(some 200),.call 11 true [(.cst (.c (.int .i64 4))),(.cst (.c (.int .i64 2)))],none,0⟩,
 ⟨(some 201),.call 22 true [(.tmp 200)],none,0⟩,
 ⟨(some 199),.mov (.tmp 201),none,0⟩,
 ⟨(some 202),.extract 0 (.tmp 199),none,0⟩,
 ⟨(some 203),.extract 1 (.tmp 199),none,0⟩,
 ⟨(some 11),.mov (.tmp 203),none,0⟩])
 (.seq (.region 0 [] [
 ⟨(some 205),.call 11 true [(.cst (.c (.int .i64 4))),(.cst (.c (.int .i64 2)))],none,0⟩,
 ⟨(some 206),.call 12 true [(.tmp 205),(.cst (.c (.int .i64 (-1))))],none,0⟩,
 ⟨(some 204),.mov (.tmp 206),none,0⟩,
 ⟨(some 207),.extract 0 (.tmp 204),none,0⟩,
 ⟨(some 208),.extract 1 (.tmp 204),none,0⟩,
 ⟨(some 13),.mov (.tmp 208),none,0⟩])
 (.seq (.region 0 [] [
 ⟨(some 210),.call 11 true [(.cst (.c (.int .i64 4))),(.cst (.c (.int .i64 1)))],none,0⟩,
 ⟨(some 211),.call 23 true [(.tmp 210)],none,0⟩,
 ⟨(some 209),.mov (.tmp 211),none,0⟩,
 ⟨(some 212),.extract 0 (.tmp 209),none,0⟩,
 ⟨(some 213),.extract 1 (.tmp 209),none,0⟩,
 ⟨(some 17),.mov (.tmp 212),none,0⟩,
 ⟨(some 18),.mov (.tmp 213),none,0⟩])
 (.seq (.region 9 [] [
 ⟨(some 214),.call 11 true [(.cst (.c (.int .i64 4))),(.cst (.c (.int .i64 1)))],none,0⟩,
 ⟨(some 215),.call 11 true [(.cst (.c (.int .i64 4))),(.cst (.c (.int .i64 1)))],none,0⟩,
 ⟨(some 216),.call 11 true [(.cst (.c (.int .i64 4))),(.cst (.c (.int .i64 1)))],none,0⟩,
 ⟨(some 217),.call 11 true [(.cst (.c (.int .i64 4))),(.cst (.c (.int .i64 1)))],none,0⟩,
 ⟨(some 218),.call 11 true [(.cst (.c (.int .i64 4))),(.cst (.c (.int .i64 1)))],none,0⟩,
 ⟨(some 219),.call 11 false [(.cst (.c (.int .i64 4))),(.cst (.c (.int .i64 1)))],none,0⟩,
 ⟨(some 220),.call 11 true [(.cst (.c (.int .i64 4))),(.cst (.c (.int .i64 1)))],none,0⟩,
 ⟨(some 221),.call 11 false [(.cst (.c (.int .i64 4))),(.cst (.c (.int .i64 1)))],none,0⟩,
 ⟨(some 222),.call 11 true [(.cst (.c (.int .i64 4))),(.cst (.c (.int .i64 1)))],none,0⟩,
 ⟨(some 19),.alloc [(.int .i64 0),(.int .i64 0),(.int .i64 0),(.int .i64 0),(.int .i64 0),(.int .i64 0),(.int .i64 0),(.int .i64 0),.nils,.nils,.nils,.nils],none,0⟩,
 ⟨(some 20),.alloc [(.int .i64 0),(.int .i64 0),(.int .i64 0),(.int .i64 0),(.int .i64 0),(.int .i64 0),(.int .i64 0),(.int .i64 0),.nils,.nils,.nils,.nils],none,1⟩,
 ⟨(some 21),.alloc [(.int .i64 0),(.int .i64 0),(.int .i64 0),(.int .i64 0),(.int .i64 0),(.int .i64 0),(.int .i64 0),(.int .i64 0),.nils,.nils,.nils,.nils],none,2⟩,
 ⟨(some 22),.alloc [(.int .i64 0),(.int .i64 0),(.int .i64 0),(.int .i64 0),(.int .i64 0),(.int .i64 0),(.int .i64 0),(.int .i64 0),.nils,.nils,.nils,.nils],none,3⟩,
 ⟨(some 23),.alloc [(.int .i64 0),(.int .i64 0),(.int .i64 0),(.int .i64 0),(.int .i64 0),(.int .i64 0),(.int .i64 0),(.int .i64 0),.nils,.nils,.nils,.nils],none,4⟩,
 ⟨(some 24),.alloc [(.int .i64 0),(.int .i64 0),(.int .i64 0),(.int .i64 0),(.int .i64 0),(.int .i64 0),(.int .i64 0),(.int .i64 0),.nils,.nils,.nils,.nils],none,5⟩,
 ⟨(some 25),.alloc [(.int .i64 0),(.int .i64 0),(.int .i64 0),(.int .i64 0),(.int .i64 0),(.int .i64 0),(.int .i64 0),(.int .i64 0),.nils,.nils,.nils,.nils],none,6⟩,
 ⟨(some 26),.alloc [(.int .i64 0),(.int .i64 0),(.int .i64 0),(.int .i64 0),(.int .i64 0),(.int .i64 0),(.int .i64 0),(.int .i64 0),.nils,.nils,.nils,.nils],none,7⟩,
 ⟨(some 27),.alloc [(.int .i64 0),(.int .i64 0),(.int .i64 0),(.int .i64 0),(.int .i64 0),(.int .i64 0),(.int .i64 0),(.int .i64 0),.nils,.nils,.nils,.nils],none,8⟩,
 ⟨none,.store (some 12) (.tmp 19) (.tmp 214),none,9⟩,
 ⟨none,.store (some 12) (.tmp 20) (.tmp 215),none,9⟩,
 ⟨none,.store (some 12) (.tmp 21) (.tmp 216),none,9⟩,
 ⟨none,.store (some 12) (.tmp 22) (.tmp 217),none,9⟩,
 ⟨none,.store (some 12) (.tmp 23) (.tmp 218),none,9⟩,
 ⟨none,.store (some 12) (.tmp 24) (.tmp 219),none,9⟩,
 ⟨none,.store (some 12) (.tmp 25) (.tmp 220),none,9⟩,
 ⟨none,.store (some 12) (.tmp 26) (.tmp 221),none,9⟩,
 ⟨none,.store (some 12) (.tmp 27) (.tmp 222),none,9⟩])
 (.seq (.region 0 [] [
 ⟨(some 223),.faddr 0 (.tmp 19),none,0⟩,
 ⟨none,.store none (.tmp 223) (.cst (.c (.int .i64 8))),none,0⟩])
 (.seq (.region 0 [] [
 ⟨(some 224),.faddr 1 (.tmp 20),none,0⟩,
 ⟨none,.store none (.tmp 224) (.cst (.c (.int .i64 21))),none,0⟩])
 (.seq (.region 0 [] [
 ⟨(some 225),.call 24 true [(.cst (.c (.int .i64 0))),(.cst (.c (.int .i64 51)))],none,0⟩,
 ⟨(some 226),.faddr 2 (.tmp 21),none,0⟩,
 ⟨none,.store (some 2) (.tmp 226) (.tmp 225),none,0⟩])
 (.seq (.region 0 [] [
 ⟨(some 227),.call 24 true [(.cst (.c (.int .i64 (-1)))),(.cst (.c (.int .i64 5)))],none,0⟩,
 ⟨(some 228),.faddr 4 (.tmp 22),none,0⟩,
 ⟨none,.store (some 2) (.tmp 228) (.tmp 227),none,0⟩])
 (.seq (.region 0 [] [
 ⟨(some 229),.faddr 6 (.tmp 23),none,0⟩,
 ⟨none,.store none (.tmp 229) (.cst (.c (.int .i64 51))),none,0⟩])
 (.seq (.region 0 [] [
 ⟨(some 230),.faddr 9 (.tmp 24),none,0⟩,
 ⟨(some 231),.load none (.tmp 230),none,0⟩,
 ⟨(some 232),.iaddr 3 (.tmp 231) (.cst (.c (.int .i64 0))),none,0⟩,
 ⟨(some 233),.faddr 2 (.tmp 232),none,0⟩,
 ⟨none,.store none (.tmp 233) (.cst (.c (.int .i64 10))),none,0⟩])
 (.seq (.region 0 [] [
 ⟨(some 234),.faddr 10 (.tmp 25),none,0⟩,
 ⟨(some 235),.load none (.tmp 234),none,0⟩,
 ⟨(some 236),.slice 1 (.tmp 235) none (some (.cst (.c (.int .i64 3)))),none,0⟩,
 ⟨(some 237),.faddr 10 (.tmp 25),none,0⟩,
 ⟨none,.store none (.tmp 237) (.tmp 236),none,0⟩])
 (.seq (.region 0 [] [
 ⟨(some 238),.faddr 11 (.tmp 26),none,0⟩,
 ⟨(some 239),.load none (.tmp 238),none,0⟩,
 ⟨(some 240),.iaddr 4 (.tmp 239) (.cst (.c (.int .i64 0))),none,0⟩,
 ⟨(some 241),.faddr 0 (.tmp 240),none,0⟩,
 ⟨none,.store none (.tmp 241) (.cst (.c (.int .i64 4))),none,0⟩])
 (.seq (.region 0 [] [
 ⟨(some 242),.call 24 true [(.cst (.c (.int .i64 (-50)))),(.cst (.c (.int .i64 50)))],none,0⟩,
 ⟨(some 243),.call 24 true [(.cst (.c (.int .i64 0))),(.cst (.c (.int .i64 9)))],none,0⟩,
 ⟨(some 244),.faddr 2 (.tmp 27),none,0⟩,
 ⟨none,.store (some 2) (.tmp 244) (.tmp 242),none,0⟩,
 ⟨(some 245),.faddr 4 (.tmp 27),none,0⟩,
 ⟨none,.store (some 2) (.tmp 245) (.tmp 243),none,0⟩])
 (.seq (.region 0 [] [
 ⟨(some 246),.mov (.tmp 3),none,0⟩,
 ⟨(some 247),.bin .eql (.tmp 246) (.cst (.c (.int .i64 2))),none,0⟩,
 ⟨(some 248),.mov (.tmp 247),none,0⟩,
 ⟨(some 249),.mov (.tmp 5),some (248,true),0⟩,
 ⟨(some 250),.bin .eql (.tmp 249) (.cst (.c (.int .i64 2))),some (248,true),0⟩,
 ⟨(some 251),.pick (.tmp 248) (.tmp 250) (.cst (.c (.bool false))),none,0⟩,
 ⟨(some 252),.mov (.tmp 251),none,0⟩,
 ⟨(some 253),.mov (.tmp 7),some (252,true),0⟩,
 ⟨(some 254),.bin .eql (.tmp 253) (.cst (.c (.int .i64 2))),some (252,true),0⟩,
 ⟨(some 255),.pick (.tmp 252) (.tmp 254) (.cst (.c (.bool false))),none,0⟩,
 ⟨(some 256),.mov (.tmp 255),none,0⟩,
 ⟨(some 257),.mov (.tmp 9),some (256,true),0⟩,
 ⟨(some 258),.bin .eql (.tmp 257) (.cst (.c (.int .i64 2))),some (256,true),0⟩,
 ⟨(some 259),.pick (.tmp 256) (.tmp 258) (.cst (.c (.bool false))),none,0⟩,
 ⟨(some 260),.mov (.tmp 259),none,0⟩,
 ⟨(some 261),.mov (.tmp 11),some (260,true),0⟩,
 ⟨(some 262),.bin .eql (.tmp 261) (.cst (.c (.int .i64 11))),some (260,true),0⟩,
 ⟨(some 263),.pick (.tmp 260) (.tmp 262) (.cst (.c (.bool false))),none,0⟩,
 ⟨(some 264),.mov (.tmp 263),none,0⟩,
 ⟨(some 265),.mov (.tmp 13),some (264,true),0⟩,
 ⟨(some 266),.bin .eql (.tmp 265) (.cst (.c (.int .i64 2))),some (264,true),0⟩,
 ⟨(some 267),.pick (.tmp 264) (.tmp 266) (.cst (.c (.bool false))),none,0⟩,
 ⟨(some 268),.mov (.tmp 267),none,0⟩,
 ⟨(some 269),.mov (.tmp 18),some (268,true),0⟩,
 ⟨(some 270),.bin .eql (.tmp 269) (.cst (.c (.int .i64 7))),some (268,true),0⟩,
 ⟨(some 271),.pick (.tmp 268) (.tmp 270) (.cst (.c (.bool false))),none,0⟩,
 ⟨(some 272),.mov (.tmp 271),none,0⟩,
 ⟨(some 273),.load (some 12) (.tmp 19),some (272,true),0⟩,
 ⟨(some 274),.call 25 true [(.tmp 273)],some (272,true),0⟩,
 ⟨(some 275),.bin .eql (.tmp 274) (.cst (.c (.int .i64 3))),some (272,true),0⟩,
 ⟨(some 276),.pick (.tmp 272) (.tmp 275) (.cst (.c (.bool false))),none,0⟩,
 ⟨(some 277),.mov (.tmp 276),none,0⟩,
 ⟨(some 278),.load (some 12) (.tmp 20),some (277,true),0⟩,
 ⟨(some 279),.call 25 true [(.tmp 278)],some (277,true),0⟩,
 ⟨(some 280),.bin .eql (.tmp 279) (.cst (.c (.int .i64 1))),some (277,true),0⟩,
 ⟨(some 281),.pick (.tmp 277) (.tmp 280) (.cst (.c (.bool false))),none,0⟩,
 ⟨(some 282),.mov (.tmp 281),none,0⟩,
 ⟨(some 283),.load (some 12) (.tmp 21),some (282,true),0⟩,
 ⟨(some 284),.call 25 true [(.tmp 283)],some (282,true),0⟩,
 ⟨(some 285),.bin .eql (.tmp 284) (.cst (.c (.int .i64 1))),some (282,true),0⟩,
 ⟨(some 286),.pick (.tmp 282) (.tmp 285) (.cst (.c (.bool false))),none,0⟩,
 ⟨(some 287),.mov (.tmp 286),none,0⟩,
 ⟨(some 288),.load (some 12) (.tmp 22),some (287,true),0⟩,
 ⟨(some 289),.call 25 true [(.tmp 288)],some (287,true),0⟩,
 ⟨(some 290),.bin .eql (.tmp 289) (.cst (.c (.int .i64 1))),some (287,true),0⟩,
 ⟨(some 291),.pick (.tmp 287) (.tmp 290) (.cst (.c (.bool false))),none,0⟩,
 ⟨(some 292),.mov (.tmp 291),none,0⟩,
 ⟨(some 293),.load (some 12) (.tmp 23),some (292,true),0⟩,
 ⟨(some 294),.call 25 true [(.tmp 293)],some (292,true),0⟩,
 ⟨(some 295),.bin .eql (.tmp 294) (.cst (.c (.int .i64 1))),some (292,true),0⟩,
 ⟨(some 296),.pick (.tmp 292) (.tmp 295) (.cst (.c (.bool false))),none,0⟩,
 ⟨(some 297),.mov (.tmp 296),none,0⟩,
 ⟨(some 298),.load (some 12) (.tmp 24),some (297,true),0⟩,
 ⟨(some 299),.call 25 true [(.tmp 298)],some (297,true),0⟩,
 ⟨(some 300),.bin .eql (.tmp 299) (.cst (.c (.int .i64 1))),some (297,true),0⟩,
 ⟨(some 301),.pick (.tmp 297) (.tmp 300) (.cst (.c (.bool false))),none,0⟩,
 ⟨(some 302),.mov (.tmp 301),none,0⟩,
 ⟨(some 303),.load (some 12) (.tmp 25),some (302,true),0⟩,
 ⟨(some 304),.call 25 true [(.tmp 303)],some (302,true),0⟩,
 ⟨(some 305),.bin .eql (.tmp 304) (.cst (.c (.int .i64 1))),some (302,true),0⟩,
 ⟨(some 306),.pick (.tmp 302) (.tmp 305) (.cst (.c (.bool false))),none,0⟩,
 ⟨(some 307),.mov (.tmp 306),none,0⟩,
 ⟨(some 308),.load (some 12) (.tmp 26),some (307,true),0⟩,
 ⟨(some 309),.call 25 true [(.tmp 308)],some (307,true),0⟩,
 ⟨(some 310),.bin .eql (.tmp 309) (.cst (.c (.int .i64 1))),some (307,true),0⟩,
 ⟨(some 311),.pick (.tmp 307) (.tmp 310) (.cst (.c (.bool false))),none,0⟩,
 ⟨(some 312),.mov (.tmp 311),none,0⟩,
 ⟨(some 313),.load (some 12) (.tmp 27),some (312,true),0⟩,
 ⟨(some 314),.call 25 true [(.tmp 313)],some (312,true),0⟩,
 ⟨(some 315),.bin .eql (.tmp 314) (.cst (.c (.int .i64 3))),some (312,true),0⟩,
 ⟨(some 316),.pick (.tmp 312) (.tmp 315) (.cst (.c (.bool false))),none,0⟩,
 ⟨(some 317),.mov (.tmp 316),none,0⟩,
 ⟨(some 318),.build [(.int .i64 0),(.int .i64 0),(.int .i64 0),(.int .i64 0),(.int .i64 0),(.int .i64 0),(.int .i64 0),(.int .i64 0),.nils,.nils,.nils,.nils] [],some (317,true),0⟩,
 ⟨(some 319),.call 25 true [(.tmp 318)],some (317,true),0⟩,
 ⟨(some 320),.bin .eql (.tmp 319) (.cst (.c (.int .i64 1))),some (317,true),0⟩,
 ⟨(some 321),.pick (.tmp 317) (.tmp 320) (.cst (.c (.bool false))),none,0⟩,
 ⟨(some 322),.mov (.tmp 321),none,0⟩,
 ⟨(some 323),.call 26 true [],some (322,true),0⟩,
 ⟨(some 324),.pick (.tmp 322) (.tmp 323) (.cst (.c (.bool false))),none,0⟩,
 ⟨(some 0),.mov (.tmp 324),none,0⟩])
 .ret)))))))))))))))))))))))))))))))⟩
def f10 : AFunc:=⟨20,[.tmp 4,.tmp 5],false,
 (.seq (.region 2 [] [
 ⟨(some 2),.box (.tmp 0),none,0⟩,
 ⟨(some 3),.box (.tmp 1),none,1⟩,
 ⟨(some 4),.mov (.cst (.c .nils)),none,2⟩,
 ⟨(some 5),.mov (.cst (.c (.int .i64 0))),none,2⟩])
 (.seq (.seq (.region 0 [] [
 ⟨(some 7),.load (some 12) (.tmp 2),none,0⟩,
 ⟨(some 8),.call 25 true [(.tmp 7)],none,0⟩,
 ⟨(some 6),.mov (.tmp 8),none,0⟩])
 (.seq (.region 0 [] [
 ⟨(some 9),.mov (.tmp 6),none,0⟩,
 ⟨(some 10),.bin .neq (.tmp 9) (.cst (.c (.int .i64 0))),none,0⟩])
 (.cond (.tmp 10)
 (.seq (.region 0 [] [
 ⟨(some 11),.mov (.tmp 6),none,0⟩,
 ⟨(some 4),.mov (.cst (.c .nils)),none,0⟩,
 ⟨(some 5),.mov (.tmp 11),none,0⟩])
 .ret)
 .skip)))
 (.seq (.seq (.region 0 [] [
 ⟨(some 12),.load (some 12) (.tmp 2),none,0⟩,
 ⟨(some 13),.load (some 3) (.tmp 3),none,0⟩,
 ⟨(some 14),.call 37 true [(.tmp 12),(.tmp 13)],none,0⟩,
 ⟨(some 15),.not (.tmp 14),none,0⟩])
 (.cond (.tmp 15)
 (.seq (.region 0 [] [
 ⟨(some 4),.mov (.cst (.c .nils)),none,0⟩,
 ⟨(some 5),.mov (.cst (.c (.int .i64 2))),none,0⟩])
 .ret)
 .skip))
 (.seq (.region 0 [(0,2),(1,2)] [
 ⟨(some 16),.load (some 12) (.tmp 2),none,0⟩,
 ⟨(some 17),.call 38 false [(.tmp 16)],none,0⟩,
 ⟨(some 18),.load (some 3) (.tmp 3),none,0⟩,
 ⟨(some 19),.call 39 false [(.tmp 17),(.tmp 18)],none,0⟩,
 ⟨(some 4),.mov (.tmp 19),none,0⟩,
 ⟨(some 5),.mov (.cst (.c (.int .i64 0))),none,0⟩])
 .ret))))⟩
def f11 : AFunc:=⟨29,[.cell 4 (some 12)],false,
 (.seq (.region 1 [] [
 ⟨(some 4),.alloc [(.int .i64 0),(.int .i64 0),(.int .i64 0),(.int .i64 0),(.int .i64 0),(.int .i64 0),(.int .i64 0),(.int .i64 0),.nils,.nils,.nils,.nils],none,0⟩])
 (.seq (.region 1 [] [
 ⟨(some 6),.call 24 true [(.cst (.c (.int .i64 4))),(.cst (.c (.int .i64 9)))],none,0⟩,
 ⟨(some 7),.build [(.int .i64 0),(.bool false),(.int .i64 0),(.int .i64 0)] [(1,1,(.cst (.c (.bool true)))),(2,2,(.tmp 6))],none,0⟩,
 ⟨(some 8),.call 24 true [(.cst (.c (.int .i64 2))),(.cst (.c (.int .i64 3)))],none,0⟩,
 ⟨(some 9),.build [(.int .i64 0),(.bool false),(.int .i64 0),(.int .i64 0)] [(0,1,(.cst (.c (.int .i64 3)))),(1,1,(.cst (.c (.bool true)))),(2,2,(.tmp 8))],none,0⟩,
 ⟨(some 10),.bslice 4 2 [(.int .i64 0),(.bool false),(.int .i64 0),(.int .i64 0)] [(0,(.tmp 7)),(1,(.tmp 9))],none,0⟩,
 ⟨(some 5),.mov (.tmp 10),none,1⟩])
 (.seq (.region 3 [(0,1),(0,2),(0,3),(0,4),(0,5),(0,6),(0,7),(0,8),(1,8),(2,8),(3,8),(4,8),(5,8),(6,8),(7,8),(0,9),(1,9),(2,9),(3,9),(4,9),(5,9),(6,9),(7,9),(8,9),(0,10),(1,10),(2,10),(3,10),(4,10),(5,10),(6,10),(7,10),(8,10),(9,10),(0,11),(1,11),(2,11),(3,11),(4,11),(5,11),(6,11),(7,11),(8,11),(9,11),(10,11),(0,12),(1,12),(2,12),(3,12),(4,12),(5,12),(6,12),(7,12),(0,13),(1,13),(2,13),(3,13),(4,13),(5,13),(6,13),(7,13),(8,13),(9,13),(10,13),(11,13),(12,13),(0,14),(1,14),(2,14),(3,14),(4,14),(5,14),(6,14),(7,14),(8,14),(9,14),(10,14),(11,14),(12,14),(13,14),(0,15),(1,15),(2,15),(3,15),(4,15),(5,15),(6,15),(7,15),(8,15),(9,15),(10,15),(11,15),(12,15),(13,15),(14,15),(0,16),(1,16),(2,16),(3,16),(4,16),(5,16),(6,16),(7,16),(8,16),(9,16),(10,16),(11,16),(12,16),(13,16)] [
 ⟨(some 11),.mov (.tmp 0),none,0⟩,
 ⟨(some 12),.call 24 true [(.cst (.c (.int .i64 0))),(.cst (.c (.int .i64 2)))],none,0⟩,
 ⟨(some 13),.call 24 true [(.cst (.c (.int .i64 100))),(.cst (.c (.int .i64 100)))],none,0⟩,
 ⟨(some 14),.call 24 true [(.cst (.c (.int .i64 1))),(.cst (.c (.int .i64 2)))],none,0⟩,
 ⟨(some 15),.call 24 true [(.cst (.c (.int .i64 1))),(.cst (.c (.int .i64 1)))],none,0⟩,
 ⟨(some 16),.call 24 true [(.cst (.c (.int .i64 2))),(.cst (.c (.int .i64 3)))],none,0⟩,
 ⟨(some 17),.call 24 true [(.cst (.c (.int .i64 0))),(.cst (.c (.int .i64 0)))],none,0⟩,
 ⟨(some 18),.bslice 2 4 [(.int .i64 0),(.int .i64 0)] [(0,(.tmp 14)),(1,(.tmp 15)),(2,(.tmp 16)),(3,(.tmp 17))],none,0⟩,
 ⟨(some 19),.build [(.int .i64 0),(.int .i64 0),(.int .i64 0)] [],none,1⟩,
 ⟨(some 20),.build [(.int .i64 0),(.int .i64 0),(.int .i64 0)] [(1,1,(.cst (.c (.int .i64 2))))],none,1⟩,
 ⟨(some 21),.build [(.int .i64 0),(.int .i64 0),(.int .i64 0)] [(2,1,(.cst (.c (.int .i64 1))))],none,1⟩,
 ⟨(some 22),.build [(.int .i64 0),(.int .i64 0),(.int .i64 0)] [],none,1⟩,
 ⟨(some 23),.bslice 3 4 [(.int .i64 0),(.int .i64 0),(.int .i64 0)] [(0,(.tmp 19)),(1,(.tmp 20)),(2,(.tmp 21)),(3,(.tmp 22))],none,1⟩,
 ⟨(some 24),.bslice 1 4 [(.int .i64 0)] [(0,(.cst (.c (.int .i64 1)))),(1,(.cst (.c (.int .i64 1)))),(2,(.cst (.c (.int .i64 1)))),(3,(.cst (.c (.int .i64 1))))],none,2⟩,
 ⟨(some 25),.mov (.tmp 5),none,3⟩,
 ⟨(some 26),.mov (.tmp 1),none,3⟩,
 ⟨(some 27),.slice 4 (.tmp 25) none (some (.tmp 26)),none,3⟩,
 ⟨(some 28),.build [(.int .i64 0),(.int .i64 0),(.int .i64 0),(.int .i64 0),(.int .i64 0),(.int .i64 0),(.int .i64 0),(.int .i64 0),.nils,.nils,.nils,.nils] [(0,1,(.cst (.c (.int .i64 3)))),(1,1,(.tmp 11)),(2,2,(.tmp 12)),(4,2,(.tmp 13)),(6,1,(.cst (.c (.int .i64 10)))),(7,1,(.cst (.c (.int .i64 5)))),(8,1,(.tmp 18)),(9,1,(.tmp 23)),(10,1,(.tmp 24)),(11,1,(.tmp 27))],none,3⟩,
 ⟨none,.store (some 12) (.tmp 4) (.tmp 28),none,3⟩])
 .ret)))⟩
def f12 : AFunc:=⟨50,[.tmp 4,.tmp 5],false,
 (.seq (.region 2 [] [
 ⟨(some 2),.box (.tmp 0),none,0⟩,
 ⟨(some 3),.box (.tmp 1),none,1⟩,
 ⟨(some 4),.mov (.cst (.c (.int .i64 0))),none,2⟩,
 ⟨(some 5),.mov (.cst (.c (.int .i64 0))),none,2⟩])
 (.seq (.region 0 [(0,1),(0,2),(1,2),(0,3),(6,7),(7,8)] [
 ⟨(some 14),.load (some 12) (.tmp 2),none,0⟩,
 ⟨(some 15),.load (some 12) (.tmp 2),none,0⟩,
 ⟨(some 16),.load none (.tmp 3),none,0⟩,
 ⟨(some 17),.call 41 true [(.tmp 15),(.tmp 16)],none,0⟩,
 ⟨(some 18),.call 40 false [(.tmp 14),(.tmp 17)],none,0⟩,
 ⟨(some 13),.mov (.tmp 18),none,0⟩,
 ⟨(some 19),.extract 0 (.tmp 13),none,0⟩,
 ⟨(some 20),.extract 1 (.tmp 13),none,0⟩,
 ⟨(some 6),.mov (.tmp 19),none,0⟩,
 ⟨(some 7),.mov (.tmp 20),none,0⟩])
 (.seq (.seq (.region 0 [] [
 ⟨(some 21),.mov (.tmp 7),none,0⟩,
 ⟨(some 22),.bin .neq (.tmp 21) (.cst (.c (.int .i64 0))),none,0⟩])
 (.cond (.tmp 22)
 (.seq (.region 0 [] [
 ⟨(some 23),.mov (.tmp 7),none,0⟩,
 ⟨(some 4),.mov (.cst (.c (.int .i64 0))),none,0⟩,
 ⟨(some 5),.mov (.tmp 23),none,0⟩])
 .ret)
 .skip))
 (.seq (.region 2 [] [
 ⟨(some 8),.alloc [(.bool false)],none,0⟩,
 ⟨(some 9),.alloc [(.bool false)],none,1⟩,
 ⟨none,.store none (.tmp 8) (.cst (.c (.bool false))),none,2⟩,
 ⟨none,.store none (.tmp 9) (.cst (.c (.bool false))),none,2⟩])
 (.seq (.seq (.region 0 [] [
 ⟨(some 24),.mov (.tmp 6),none,0⟩,
 ⟨(some 25),.call 42 false [(.tmp 24),(.cst (.c .nils))],none,0⟩])
 (.block 0 (.range (.tmp 25) [26,27]
 (.region 0 [] [
 ⟨(some 11),.mov (.tmp 27),none,0⟩])
 (.block 1 (.seq (.region 0 [(0,1),(0,2),(1,2),(0,3),(0,4),(0,5)] [
 ⟨(some 28),.load (some 12) (.tmp 2),none,0⟩,
 ⟨(some 29),.mov (.tmp 11),none,0⟩,
 ⟨(some 30),.load none (.tmp 3),none,0⟩,
 ⟨(some 31),.iaddr 2 (.tmp 29) (.tmp 30),none,0⟩,
 ⟨(some 32),.faddr 0 (.tmp 31),none,0⟩,
 ⟨(some 33),.load none (.tmp 32),none,0⟩,
 ⟨(some 34),.call 43 true [(.tmp 28),(.tmp 33)],none,0⟩,
 ⟨(some 12),.mov (.tmp 34),none,0⟩])
 (.region 0 [] [
 ⟨(some 35),.load none (.tmp 8),none,0⟩,
 ⟨(some 36),.mov (.tmp 35),none,0⟩,
 ⟨(some 37),.mov (.tmp 12),some (36,false),0⟩,
 ⟨(some 38),.pick (.tmp 36) (.cst (.c (.bool true))) (.tmp 37),none,0⟩,
 ⟨(some 39),.load none (.tmp 9),none,0⟩,
 ⟨(some 40),.mov (.tmp 39),none,0⟩,
 ⟨(some 41),.mov (.tmp 12),some (40,false),0⟩,
 ⟨(some 42),.not (.tmp 41),some (40,false),0⟩,
 ⟨(some 43),.pick (.tmp 40) (.cst (.c (.bool true))) (.tmp 42),none,0⟩,
 ⟨none,.store none (.tmp 8) (.tmp 38),none,0⟩,
 ⟨none,.store none (.tmp 9) (.tmp 43),none,0⟩]))))))
 (.seq (.block 2 (.seq (.region 0 [] [
 ⟨(some 45),.load none (.tmp 9),none,0⟩,
 ⟨(some 46),.not (.tmp 45),none,0⟩,
 ⟨(some 44),.mov (.tmp 46),none,0⟩])
 (.cond (.tmp 44)
 (.seq (.region 0 [] [
 ⟨(some 4),.mov (.cst (.c (.int .i64 1))),none,0⟩,
 ⟨(some 5),.mov (.cst (.c (.int .i64 0))),none,0⟩])
 .ret)
 (.seq (.region 0 [] [
 ⟨(some 48),.load none (.tmp 8),none,0⟩,
 ⟨(some 49),.not (.tmp 48),none,0⟩,
 ⟨(some 47),.mov (.tmp 49),none,0⟩])
 (.cond (.tmp 47)
 (.seq (.region 0 [] [
 ⟨(some 4),.mov (.cst (.c (.int .i64 2))),none,0⟩,
 ⟨(some 5),.mov (.cst (.c (.int .i64 0))),none,0⟩])
 .ret)
 .skip)))))
 (.seq (.region 0 [] [
 ⟨(some 4),.mov (.cst (.c (.int .i64 3))),none,0⟩,
 ⟨(some 5),.mov (.cst (.c (.int .i64 0))),none,0⟩])
 .ret)))))))⟩
def f13 : AFunc:=⟨69,[.tmp 2,.tmp 3],false,
 (.seq (.region 1 [] [
 ⟨(some 1),.box (.tmp 0),none,0⟩,
 ⟨(some 2),.mov (.cst (.c .nils)),none,1⟩,
 ⟨(some 3),.mov (.cst (.c (.int .i64 0))),none,1⟩])
 (.seq (.region 0 [] [
 ⟨(some 13),.load (some 12) (.tmp 1),none,0⟩,
 ⟨(some 14),.call 40 false [(.tmp 13),(.cst (.c (.bool true)))],none,0⟩,
 ⟨(some 12),.mov (.tmp 14),none,0⟩,
 ⟨(some 15),.extract 0 (.tmp 12),none,0⟩,
 ⟨(some 16),.extract 1 (.tmp 12),none,0⟩,
 ⟨(some 4),.mov (.tmp 15),none,0⟩,
 ⟨(some 5),.mov (.tmp 16),none,0⟩])
 (.seq (.seq (.region 0 [] [
 ⟨(some 17),.mov (.tmp 5),none,0⟩,
 ⟨(some 18),.bin .neq (.tmp 17) (.cst (.c (.int .i64 0))),none,0⟩])
 (.cond (.tmp 18)
 (.seq (.region 0 [] [
 ⟨(some 19),.mov (.tmp 5),none,0⟩,
 ⟨(some 2),.mov (.cst (.c .nils)),none,0⟩,
 ⟨(some 3),.mov (.tmp 19),none,0⟩])
 .ret)
 .skip))
 (.seq (.region 0 [] [
 ⟨(some 20),.mov (.tmp 4),none,0⟩,
 ⟨(some 21),.mov (.tmp 4),none,0⟩,
 ⟨(some 22),.call 45 false [(.tmp 21)],none,0⟩,
 ⟨(some 23),.call 44 false [(.tmp 20),(.tmp 22)],none,0⟩,
 ⟨(some 6),.mov (.tmp 23),none,0⟩])
 (.seq (.region 1 [] [
 ⟨(some 24),.mov (.tmp 6),none,0⟩,
 ⟨(some 25),.len (.tmp 24),none,0⟩,
 ⟨(some 26),.mkslice 1 8 [(.int .i64 0)] (.tmp 25),none,0⟩,
 ⟨(some 7),.mov (.tmp 26),none,1⟩])
 (.seq (.seq (.region 0 [] [
 ⟨(some 27),.mov (.tmp 6),none,0⟩,
 ⟨(some 28),.len (.tmp 27),none,0⟩,
 ⟨(some 29),.bin .eql (.tmp 28) (.cst (.c (.int .i64 0))),none,0⟩])
 (.cond (.tmp 29)
 (.seq (.region 0 [] [
 ⟨(some 30),.mov (.tmp 7),none,0⟩,
 ⟨(some 2),.mov (.tmp 30),none,0⟩,
 ⟨(some 3),.mov (.cst (.c (.int .i64 0))),none,0⟩])
 .ret)
 .skip))
 (.seq (.region 0 [] [
 ⟨(some 31),.mov (.tmp 6),none,0⟩,
 ⟨(some 32),.mov (.tmp 6),none,0⟩,
 ⟨(some 33),.len (.tmp 32),none,0⟩,
 ⟨(some 34),.bin .sub (.tmp 33) (.cst (.c (.int .i64 1))),none,0⟩,
 ⟨(some 35),.iaddr 2 (.tmp 31) (.tmp 34),none,0⟩,
 ⟨(some 36),.faddr 0 (.tmp 35),none,0⟩,
 ⟨(some 37),.load none (.tmp 36),none,0⟩,
 ⟨(some 8),.mov (.tmp 37),none,0⟩])
 (.seq (.seq (.region 0 [] [
 ⟨(some 38),.mov (.tmp 6),none,0⟩,
 ⟨(some 39),.len (.tmp 38),none,0⟩,
 ⟨(some 40),.bin .sub (.tmp 39) (.cst (.c (.int .i64 1))),none,0⟩,
 ⟨(some 9),.mov (.tmp 40),none,0⟩])
 (.block 0 (.loop ⟨[10,11,41,42,43,44,45,46,47,48,49,50,51,52,53,54,55,56,57,58,59,60,61,62,63,64,65,66,67],false,[]⟩
 (.seq (.seq (.region 0 [] [
 ⟨(some 41),.mov (.tmp 9),none,0⟩,
 ⟨(some 42),.bin .geq (.tmp 41) (.cst (.c (.int .i64 0))),none,0⟩])
 (.cond (.tmp 42)
 .skip
 (.exit 0)))
 (.seq (.block 1 (.seq (.region 1 [] [
 ⟨(some 45),.build [(.int .i64 0),(.int .i64 0)] [],none,0⟩,
 ⟨(some 10),.alloc [(.int .i64 0),(.int .i64 0)],none,0⟩,
 ⟨none,.store (some 2) (.tmp 10) (.tmp 45),none,1⟩])
 (.seq (.seq (.region 0 [] [
 ⟨(some 46),.mov (.tmp 9),none,0⟩,
 ⟨(some 47),.bin .gtr (.tmp 46) (.cst (.c (.int .i64 0))),none,0⟩])
 (.cond (.tmp 47)
 (.region 0 [] [
 ⟨(some 48),.mov (.tmp 6),none,0⟩,
 ⟨(some 49),.mov (.tmp 9),none,0⟩,
 ⟨(some 50),.bin .sub (.tmp 49) (.cst (.c (.int .i64 1))),none,0⟩,
 ⟨(some 51),.iaddr 2 (.tmp 48) (.tmp 50),none,0⟩,
 ⟨(some 52),.load (some 2) (.tmp 51),none,0⟩,
 ⟨none,.store (some 2) (.tmp 10) (.tmp 52),none,0⟩])
 .skip))
 (.seq (.region 1 [(0,2),(1,2),(0,3),(1,3),(0,4),(1,4),(2,4),(3,4),(0,5),(1,5),(0,6),(1,6)] [
 ⟨(some 53),.faddr 0 (.tmp 10),none,0⟩,
 ⟨(some 54),.load none (.tmp 53),none,0⟩,
 ⟨(some 55),.faddr 1 (.tmp 10),none,0⟩,
 ⟨(some 56),.load none (.tmp 55),none,0⟩,
 ⟨(some 57),.mov (.tmp 8),none,0⟩,
 ⟨(some 58),.bslice 1 2 [(.int .i64 0)] [(0,(.tmp 56)),(1,(.tmp 57))],none,0⟩,
 ⟨(some 59),.call 46 true [(.tmp 58)],none,1⟩,
 ⟨(some 60),.mm true (.tmp 54) (.tmp 59),none,1⟩,
 ⟨(some 11),.mov (.tmp 60),none,1⟩])
 (.seq (.region 0 [] [
 ⟨(some 61),.mov (.tmp 7),none,0⟩,
 ⟨(some 62),.mov (.tmp 9),none,0⟩,
 ⟨(some 63),.mov (.tmp 8),none,0⟩,
 ⟨(some 64),.mov (.tmp 11),none,0⟩,
 ⟨(some 65),.bin .sub (.tmp 63) (.tmp 64),none,0⟩,
 ⟨(some 66),.iaddr 1 (.tmp 61) (.tmp 62),none,0⟩,
 ⟨none,.store none (.tmp 66) (.tmp 65),none,0⟩])
 (.region 0 [] [
 ⟨(some 67),.mov (.tmp 11),none,0⟩,
 ⟨(some 8),.mov (.tmp 67),none,0⟩]))))))
 (.region 0 [] [
 ⟨(some 43),.mov (.tmp 9),none,0⟩,
 ⟨(some 44),.bin .sub (.tmp 43) (.cst (.c (.int .i64 1))),none,0⟩,
 ⟨(some 9),.mov (.tmp 44),none,0⟩]))))))
 (.seq (.region 0 [] [
 ⟨(some 68),.mov (.tmp 7),none,0⟩,
 ⟨(some 2),.mov (.tmp 68),none,0⟩,
 ⟨(some 3),.mov (.cst (.c (.int .i64 0))),none,0⟩])
 .ret)))))))))⟩
def f14 : AFunc:=⟨70,[.cell 2 (some 8),.tmp 3],false,
 (.seq (.region 2 [] [
 ⟨(some 1),.box (.tmp 0),none,0⟩,
 ⟨(some 2),.alloc [(.int .i64 0),(.int .i64 0),(.int .i64 0),(.int .i64 0),.nils,(.int .i64 0),(.int .i64 0),.nils],none,1⟩,
 ⟨(some 3),.mov (.cst (.c (.int .i64 0))),none,2⟩])
 (.seq (.region 0 [] [
 ⟨(some 12),.load (some 12) (.tmp 1),none,0⟩,
 ⟨(some 13),.call 40 false [(.tmp 12),(.cst (.c (.bool true)))],none,0⟩,
 ⟨(some 11),.mov (.tmp 13),none,0⟩,
 ⟨(some 14),.extract 0 (.tmp 11),none,0⟩,
 ⟨(some 15),.extract 1 (.tmp 11),none,0⟩,
 ⟨(some 4),.mov (.tmp 14),none,0⟩,
 ⟨(some 5),.mov (.tmp 15),none,0⟩])
 (.seq (.seq (.region 0 [] [
 ⟨(some 16),.mov (.tmp 5),none,0⟩,
 ⟨(some 17),.bin .neq (.tmp 16) (.cst (.c (.int .i64 0))),none,0⟩])
 (.cond (.tmp 17)
 (.seq (.region 0 [] [
 ⟨(some 18),.build [(.int .i64 0),(.int .i64 0),(.int .i64 0),(.int .i64 0),.nils,(.int .i64 0),(.int .i64 0),.nils] [],none,0⟩,
 ⟨(some 19),.mov (.tmp 5),none,0⟩,
 ⟨none,.store (some 8) (.tmp 2) (.tmp 18),none,0⟩,
 ⟨(some 3),.mov (.tmp 19),none,0⟩])
 .ret)
 .skip))
 (.seq (.region 1 [] [
 ⟨(some 20),.mov (.tmp 4),none,0⟩,
 ⟨(some 21),.call 45 false [(.tmp 20)],none,0⟩,
 ⟨(some 6),.alloc [(.int .i64 0),(.int .i64 0),(.int .i64 0),(.int .i64 0),(.int .i64 0),(.int .i64 0),(.int .i64 0),(.int .i64 0),(.int .i64 0),(.int .i64 0),(.int .i64 0),(.int .i64 0),(.int .i64 0),(.int .i64 0),(.int .i64 0),(.int .i64 0),(.int .i64 0),(.int .i64 0),.nils,(.int .i64 0),(.int .i64 0),.nils,(.int .i64 0),(.int .i64 0),.nils,(.int .i64 0),(.int .i64 0),.nils,(.int .i64 0),(.int .i64 0),.nils,(.int .i64 0),(.int .i64 0),.nils,(.int .i64 0),(.int .i64 0),.nils,(.int .i64 0),(.int .i64 0),.nils,(.int .i64 0),(.int .i64 0),.nils,(.int .i64 0),(.int .i64 0),.nils,(.int .i64 0),(.int .i64 0),.nils,(.int .i64 0),(.int .i64 0),.nils,(.int .i64 0),(.int .i64 0),.nils,(.int .i64 0),(.int .i64 0),.nils,(.int .i64 0),(.int .i64 0),.nils,(.int .i64 0),(.int .i64 0),.nils],none,0⟩,
 ⟨none,.store (some 64) (.tmp 6) (.tmp 21),none,1⟩])
 (.seq (.region 0 [] [
 ⟨(some 22),.mov (.tmp 4),none,0⟩,
 ⟨(some 23),.load (some 64) (.tmp 6),none,0⟩,
 ⟨(some 24),.call 44 false [(.tmp 22),(.tmp 23)],none,0⟩,
 ⟨(some 25),.len (.tmp 24),none,0⟩,
 ⟨(some 7),.mov (.tmp 25),none,0⟩])
 (.seq (.seq (.region 0 [] [
 ⟨(some 26),.mov (.tmp 7),none,0⟩,
 ⟨(some 27),.load (some 12) (.tmp 1),none,0⟩,
 ⟨(some 28),.call 47 true [(.tmp 27)],none,0⟩,
 ⟨(some 29),.bin .eql (.tmp 26) (.tmp 28),none,0⟩])
 (.cond (.tmp 29)
 (.seq (.region 0 [] [
 ⟨(some 30),.build [(.int .i64 0),(.int .i64 0),(.int .i64 0),(.int .i64 0),.nils,(.int .i64 0),(.int .i64 0),.nils] [],none,0⟩,
 ⟨none,.store (some 8) (.tmp 2) (.tmp 30),none,0⟩,
 ⟨(some 3),.mov (.cst (.c (.int .i64 7))),none,0⟩])
 .ret)
 .skip))
 (.seq (.region 1 [] [
 ⟨(some 8),.alloc [(.int .i64 0),(.int .i64 0),(.int .i64 0),(.int .i64 0),.nils,(.int .i64 0),(.int .i64 0),.nils],none,0⟩])
 (.seq .skip
 (.seq (.seq (.region 0 [] [
 ⟨(some 31),.mov (.tmp 7),none,0⟩,
 ⟨(some 32),.call 48 true [(.tmp 31)],none,0⟩,
 ⟨(some 33),.len (.tmp 32),none,0⟩,
 ⟨(some 34),.mov (.cst (.c (.int .i64 0))),none,0⟩])
 (.block 0 (.loop ⟨[10,35,36,37,38,39,40,41,42,43,44,45,46,47,48,49,50,51,52,53,54,55,56,57,58,59,60,61,62,63,64,65,66,67,68],false,[]⟩
 (.seq (.region 0 [] [
 ⟨(some 35),.bin .lss (.tmp 34) (.tmp 33),none,0⟩])
 (.seq (.cond (.tmp 35)
 .skip
 (.exit 0))
 (.seq (.block 1 (.seq (.region 0 [] [
 ⟨(some 36),.iaddr 1 (.tmp 32) (.tmp 34),none,0⟩,
 ⟨(some 37),.load none (.tmp 36),none,0⟩,
 ⟨(some 10),.mov (.tmp 37),none,0⟩])
 (.seq (.region 1 [] [
 ⟨(some 38),.mov (.tmp 7),none,0⟩,
 ⟨(some 39),.mov (.tmp 10),none,0⟩,
 ⟨(some 40),.build [(.int .i64 0),(.int .i64 0),(.int .i64 0),(.int .i64 0),.nils,(.int .i64 0),(.int .i64 0),.nils] [(0,1,(.tmp 38)),(1,1,(.tmp 39))],none,0⟩,
 ⟨(some 41),.mov (.tmp 10),none,0⟩,
 ⟨(some 42),.mov (.tmp 7),none,0⟩,
 ⟨(some 43),.build [(.int .i64 0),(.int .i64 0),(.int .i64 0),(.int .i64 0),.nils,(.int .i64 0),(.int .i64 0),.nils] [(0,1,(.tmp 41)),(1,1,(.tmp 42))],none,0⟩,
 ⟨(some 44),.bslice 8 2 [(.int .i64 0),(.int .i64 0),(.int .i64 0),(.int .i64 0),.nils,(.int .i64 0),(.int .i64 0),.nils] [(0,(.tmp 40)),(1,(.tmp 43))],none,0⟩,
 ⟨(some 45),.len (.tmp 44),none,1⟩,
 ⟨(some 46),.mov (.cst (.c (.int .i64 0))),none,1⟩])
 (.block 2 (.loop ⟨[47,48,49,50,51,52,53,54,55,56,57,58,59,60,61,62,63,64,65,66,67],false,[]⟩
 (.seq (.region 0 [] [
 ⟨(some 47),.bin .lss (.tmp 46) (.tmp 45),none,0⟩])
 (.seq (.cond (.tmp 47)
 .skip
 (.exit 2))
 (.seq (.block 3 (.seq (.region 0 [] [
 ⟨(some 48),.iaddr 8 (.tmp 44) (.tmp 46),none,0⟩,
 ⟨(some 49),.load (some 8) (.tmp 48),none,0⟩,
 ⟨none,.store (some 8) (.tmp 8) (.tmp 49),none,0⟩])
 (.seq (.region 0 [(0,3),(1,3),(2,3),(0,6),(1,6),(2,6),(3,6),(4,6),(5,6),(0,7),(1,7),(2,7),(3,7),(4,7),(5,7),(0,8),(1,8),(2,8),(3,8),(4,8),(5,8),(0,9),(1,9),(2,9),(3,9),(4,9),(5,9),(6,9),(7,9),(8,9),(0,10),(1,10),(2,10),(3,10),(4,10),(5,10),(0,11),(1,11),(2,11),(3,11),(4,11),(5,11),(8,12),(9,12),(10,12),(11,12),(8,13),(9,13),(10,13),(11,13)] [
 ⟨(some 50),.faddr 0 (.tmp 8),none,0⟩,
 ⟨(some 51),.load none (.tmp 50),none,0⟩,
 ⟨(some 52),.mm true (.cst (.c (.int .i64 0))) (.tmp 51),none,0⟩,
 ⟨(some 53),.faddr 16 (.tmp 6),none,0⟩,
 ⟨(some 54),.iaddrA 8 3 (.tmp 53) (.tmp 52),none,0⟩,
 ⟨(some 55),.load (some 3) (.tmp 54),none,0⟩,
 ⟨(some 56),.faddr 1 (.tmp 8),none,0⟩,
 ⟨(some 57),.load none (.tmp 56),none,0⟩,
 ⟨(some 58),.mm true (.cst (.c (.int .i64 0))) (.tmp 57),none,0⟩,
 ⟨(some 59),.faddr 40 (.tmp 6),none,0⟩,
 ⟨(some 60),.iaddrA 8 3 (.tmp 59) (.tmp 58),none,0⟩,
 ⟨(some 61),.load (some 3) (.tmp 60),none,0⟩,
 ⟨(some 62),.faddr 2 (.tmp 8),none,0⟩,
 ⟨none,.store (some 3) (.tmp 62) (.tmp 55),none,0⟩,
 ⟨(some 63),.faddr 5 (.tmp 8),none,0⟩,
 ⟨none,.store (some 3) (.tmp 63) (.tmp 61),none,0⟩])
 (.seq (.region 0 [] [
 ⟨(some 64),.load (some 12) (.tmp 1),none,0⟩,
 ⟨(some 65),.load (some 8) (.tmp 8),none,0⟩,
 ⟨(some 66),.call 49 true [(.tmp 64),(.tmp 65)],none,0⟩])
 (.cond (.tmp 66)
 (.exit 0)
 .skip)))))
 (.region 0 [] [
 ⟨(some 67),.bin .add (.tmp 46) (.cst (.c (.int .i64 1))),none,0⟩,
 ⟨(some 46),.mov (.tmp 67),none,0⟩])))))))))
 (.region 0 [] [
 ⟨(some 68),.bin .add (.tmp 34) (.cst (.c (.int .i64 1))),none,0⟩,
 ⟨(some 34),.mov (.tmp 68),none,0⟩])))))))
 (.seq (.region 0 [] [
 ⟨(some 69),.load (some 8) (.tmp 8),none,0⟩,
 ⟨none,.store (some 8) (.tmp 2) (.tmp 69),none,0⟩,
 ⟨(some 3),.mov (.cst (.c (.int .i64 0))),none,0⟩])
 .ret))))))))))⟩
def f15 : AFunc:=⟨29,[.tmp 2,.tmp 3],false,
 (.seq (.region 1 [] [
 ⟨(some 1),.box (.tmp 0),none,0⟩,
 ⟨(some 2),.mov (.cst (.c .nils)),none,1⟩,
 ⟨(some 3),.mov (.cst (.c (.int .i64 0))),none,1⟩])
 (.seq (.seq (.region 0 [] [
 ⟨(some 9),.load (some 12) (.tmp 1),none,0⟩,
 ⟨(some 10),.call 25 true [(.tmp 9)],none,0⟩,
 ⟨(some 4),.mov (.tmp 10),none,0⟩])
 (.seq (.region 0 [] [
 ⟨(some 11),.mov (.tmp 4),none,0⟩,
 ⟨(some 12),.bin .neq (.tmp 11) (.cst (.c (.int .i64 0))),none,0⟩])
 (.cond (.tmp 12)
 (.seq (.region 0 [] [
 ⟨(some 13),.mov (.tmp 4),none,0⟩,
 ⟨(some 2),.mov (.cst (.c .nils)),none,0⟩,
 ⟨(some 3),.mov (.tmp 13),none,0⟩])
 .ret)
 .skip)))
 (.seq (.region 1 [] [
 ⟨(some 14),.load (some 12) (.tmp 1),none,0⟩,
 ⟨(some 15),.call 38 false [(.tmp 14)],none,0⟩,
 ⟨(some 5),.alloc [.nilp],none,0⟩,
 ⟨none,.store none (.tmp 5) (.tmp 15),none,1⟩])
 (.seq (.region 1 [] [
 ⟨(some 6),.alloc [.nils],none,0⟩])
 (.seq (.region 1 [] [
 ⟨(some 7),.alloc [.nilfn],none,0⟩])
 (.seq (.region 0 [] [
 ⟨(some 16),.mkfn 50 none [(.tmp 6),(.tmp 5),(.tmp 1),(.tmp 7)],none,0⟩,
 ⟨none,.store none (.tmp 7) (.tmp 16),none,0⟩])
 (.seq .skip
 (.seq (.seq (.region 0 [] [
 ⟨(some 17),.faddr 11 (.tmp 1),none,0⟩,
 ⟨(some 18),.load none (.tmp 17),none,0⟩,
 ⟨(some 19),.len (.tmp 18),none,0⟩,
 ⟨(some 20),.bin .add (.tmp 19) (.cst (.c (.int .i64 1))),none,0⟩,
 ⟨(some 21),.mov (.cst (.c (.int .i64 0))),none,0⟩])
 (.block 0 (.loop ⟨[8,22,23,24,25,26,27],false,[]⟩
 (.seq (.region 0 [] [
 ⟨(some 22),.bin .lss (.tmp 21) (.tmp 20),none,0⟩])
 (.seq (.cond (.tmp 22)
 .skip
 (.exit 0))
 (.seq (.block 1 (.seq (.region 0 [] [
 ⟨(some 23),.mov (.tmp 21),none,0⟩,
 ⟨(some 8),.mov (.tmp 23),none,0⟩])
 (.seq (.region 0 [] [
 ⟨(some 24),.load none (.tmp 7),none,0⟩,
 ⟨(some 25),.mov (.tmp 8),none,0⟩,
 ⟨(some 26),.callv (.tmp 24) [(.cst (.c .nils)),(.cst (.c (.int .i64 0))),(.tmp 25)],none,0⟩])
 (.cond (.tmp 26)
 (.exit 0)
 .skip))))
 (.region 0 [] [
 ⟨(some 27),.bin .add (.tmp 21) (.cst (.c (.int .i64 1))),none,0⟩,
 ⟨(some 21),.mov (.tmp 27),none,0⟩])))))))
 (.seq (.region 0 [] [
 ⟨(some 28),.load none (.tmp 6),none,0⟩,
 ⟨(some 2),.mov (.tmp 28),none,0⟩,
 ⟨(some 3),.mov (.cst (.c (.int .i64 0))),none,0⟩])
 .ret)))))))))⟩
def f16 : AFunc:=⟨3,[.cell 0 (some 3)],false,
 (.seq (.region 1 [] [
 ⟨(some 0),.alloc [(.int .i64 0),(.int .i64 0),.nils],none,0⟩])
 (.seq (.region 1 [] [
 ⟨(some 1),.bslice 1 4 [(.int .i64 0)] [(0,(.cst (.c (.int .i64 1)))),(1,(.cst (.c (.int .i64 1)))),(2,(.cst (.c (.int .i64 2)))),(3,(.cst (.c (.int .i64 0))))],none,0⟩,
 ⟨(some 2),.build [(.int .i64 0),(.int .i64 0),.nils] [(1,1,(.cst (.c (.int .i64 100)))),(2,1,(.tmp 1))],none,1⟩,
 ⟨none,.store (some 3) (.tmp 0) (.tmp 2),none,1⟩])
 .ret))⟩
def f17 : AFunc:=⟨23,[.tmp 4],false,
 (.seq (.region 2 [] [
 ⟨(some 2),.box (.tmp 0),none,0⟩,
 ⟨(some 3),.box (.tmp 1),none,1⟩,
 ⟨(some 4),.mov (.cst (.c (.bool false))),none,2⟩])
 (.seq (.seq (.region 0 [] [
 ⟨(some 6),.load (some 12) (.tmp 2),none,0⟩,
 ⟨(some 7),.call 25 true [(.tmp 6)],none,0⟩,
 ⟨(some 8),.bin .neq (.tmp 7) (.cst (.c (.int .i64 0))),none,0⟩,
 ⟨(some 9),.mov (.tmp 8),none,0⟩,
 ⟨(some 10),.load (some 12) (.tmp 2),some (9,false),0⟩,
 ⟨(some 11),.load (some 3) (.tmp 3),some (9,false),0⟩,
 ⟨(some 12),.call 37 true [(.tmp 10),(.tmp 11)],some (9,false),0⟩,
 ⟨(some 13),.not (.tmp 12),some (9,false),0⟩,
 ⟨(some 14),.pick (.tmp 9) (.cst (.c (.bool true))) (.tmp 13),none,0⟩])
 (.cond (.tmp 14)
 (.seq (.region 0 [] [
 ⟨(some 4),.mov (.cst (.c (.bool false))),none,0⟩])
 .ret)
 .skip))
 (.seq (.region 1 [(0,2),(1,2),(0,4),(2,4)] [
 ⟨(some 15),.load (some 12) (.tmp 2),none,0⟩,
 ⟨(some 16),.call 38 false [(.tmp 15)],none,0⟩,
 ⟨(some 17),.load (some 3) (.tmp 3),none,0⟩,
 ⟨(some 18),.call 39 false [(.tmp 16),(.tmp 17)],none,0⟩,
 ⟨(some 5),.alloc [.nils],none,0⟩,
 ⟨none,.store none (.tmp 5) (.tmp 18),none,1⟩])
 (.seq (.region 0 [] [
 ⟨(some 19),.faddr 11 (.tmp 2),none,0⟩,
 ⟨(some 20),.load none (.tmp 19),none,0⟩,
 ⟨(some 21),.mkfn 54 none [(.tmp 5)],none,0⟩,
 ⟨(some 22),.call 53 false [(.tmp 20),(.tmp 21)],none,0⟩,
 ⟨(some 4),.mov (.tmp 22),none,0⟩])
 .ret))))⟩
def f18 : AFunc:=⟨47,[.tmp 4],false,
 (.seq (.region 1 [] [
 ⟨(some 2),.box (.tmp 0),none,0⟩,
 ⟨(some 4),.mov (.cst (.c (.bool false))),none,1⟩])
 (.seq (.region 0 [(0,1),(0,2),(0,3),(1,3),(2,3),(0,4),(1,4),(2,4),(0,5),(0,6),(0,7),(0,8),(0,9),(12,13),(13,14)] [
 ⟨(some 12),.load (some 12) (.tmp 2),none,0⟩,
 ⟨(some 13),.mov (.tmp 1),none,0⟩,
 ⟨(some 14),.len (.tmp 13),none,0⟩,
 ⟨(some 15),.load (some 12) (.tmp 2),none,0⟩,
 ⟨(some 16),.call 47 true [(.tmp 15)],none,0⟩,
 ⟨(some 17),.bin .leq (.tmp 14) (.tmp 16),none,0⟩,
 ⟨(some 18),.mov (.tmp 17),none,0⟩,
 ⟨(some 19),.mov (.tmp 1),some (18,true),0⟩,
 ⟨(some 20),.call 56 false [(.tmp 19),(.cst (.c (.fn 57 false [] [])))],some (18,true),0⟩,
 ⟨(some 21),.pick (.tmp 18) (.tmp 20) (.cst (.c (.bool false))),none,0⟩,
 ⟨(some 22),.call 40 false [(.tmp 12),(.tmp 21)],none,0⟩,
 ⟨(some 11),.mov (.tmp 22),none,0⟩,
 ⟨(some 23),.extract 0 (.tmp 11),none,0⟩,
 ⟨(some 24),.extract 1 (.tmp 11),none,0⟩,
 ⟨(some 5),.mov (.tmp 23),none,0⟩,
 ⟨(some 6),.mov (.tmp 24),none,0⟩])
 (.seq (.seq (.region 0 [] [
 ⟨(some 25),.mov (.tmp 6),none,0⟩,
 ⟨(some 26),.bin .neq (.tmp 25) (.cst (.c (.int .i64 0))),none,0⟩])
 (.cond (.tmp 26)
 (.seq (.region 0 [] [
 ⟨(some 4),.mov (.cst (.c (.bool false))),none,0⟩])
 .ret)
 .skip))
 (.seq (.region 1 [] [
 ⟨(some 27),.mov (.tmp 5),none,0⟩,
 ⟨(some 28),.call 45 false [(.tmp 27)],none,0⟩,
 ⟨(some 7),.alloc [(.int .i64 0),(.int .i64 0),(.int .i64 0),(.int .i64 0),(.int .i64 0),(.int .i64 0),(.int .i64 0),(.int .i64 0),(.int .i64 0),(.int .i64 0),(.int .i64 0),(.int .i64 0),(.int .i64 0),(.int .i64 0),(.int .i64 0),(.int .i64 0),(.int .i64 0),(.int .i64 0),.nils,(.int .i64 0),(.int .i64 0),.nils,(.int .i64 0),(.int .i64 0),.nils,(.int .i64 0),(.int .i64 0),.nils,(.int .i64 0),(.int .i64 0),.nils,(.int .i64 0),(.int .i64 0),.nils,(.int .i64 0),(.int .i64 0),.nils,(.int .i64 0),(.int .i64 0),.nils,(.int .i64 0),(.int .i64 0),.nils,(.int .i64 0),(.int .i64 0),.nils,(.int .i64 0),(.int .i64 0),.nils,(.int .i64 0),(.int .i64 0),.nils,(.int .i64 0),(.int .i64 0),.nils,(.int .i64 0),(.int .i64 0),.nils,(.int .i64 0),(.int .i64 0),.nils,(.int .i64 0),(.int .i64 0),.nils],none,0⟩,
 ⟨none,.store (some 64) (.tmp 7) (.tmp 28),none,1⟩])
 (.seq (.region 0 [] [
 ⟨(some 8),.mov (.cst (.c (.int .i64 0))),none,0⟩])
 (.seq (.seq (.region 0 [] [
 ⟨(some 29),.mov (.tmp 1),none,0⟩,
 ⟨(some 30),.len (.tmp 29),none,0⟩,
 ⟨(some 31),.mov (.cst (.c (.int .i64 0))),none,0⟩])
 (.block 0 (.loop ⟨[4,9,10,32,33,34,35,36,37,38,39,40,41,42,43,44,45,46],false,[]⟩
 (.seq (.region 0 [] [
 ⟨(some 32),.bin .lss (.tmp 31) (.tmp 30),none,0⟩])
 (.seq (.cond (.tmp 32)
 .skip
 (.exit 0))
 (.seq (.block 1 (.seq (.region 0 [] [
 ⟨(some 33),.mov (.tmp 31),none,0⟩,
 ⟨(some 34),.iaddr 1 (.tmp 29) (.tmp 31),none,0⟩,
 ⟨(some 35),.load none (.tmp 34),none,0⟩,
 ⟨(some 9),.mov (.tmp 33),none,0⟩,
 ⟨(some 10),.mov (.tmp 35),none,0⟩])
 (.seq (.region 0 [] [
 ⟨(some 36),.mov (.tmp 8),none,0⟩,
 ⟨(some 37),.mov (.tmp 10),none,0⟩,
 ⟨(some 38),.bin .add (.tmp 36) (.tmp 37),none,0⟩,
 ⟨(some 8),.mov (.tmp 38),none,0⟩])
 (.seq (.region 0 [] [
 ⟨(some 39),.mov (.tmp 5),none,0⟩,
 ⟨(some 40),.load (some 64) (.tmp 7),none,0⟩,
 ⟨(some 41),.mov (.tmp 9),none,0⟩,
 ⟨(some 42),.call 59 false [(.tmp 39),(.tmp 40),(.tmp 41)],none,0⟩,
 ⟨(some 43),.mov (.tmp 8),none,0⟩,
 ⟨(some 44),.call 60 true [(.tmp 42),(.tmp 43)],none,0⟩,
 ⟨(some 45),.not (.tmp 44),none,0⟩])
 (.cond (.tmp 45)
 (.seq (.region 0 [] [
 ⟨(some 4),.mov (.cst (.c (.bool false))),none,0⟩])
 .ret)
 .skip)))))
 (.region 0 [] [
 ⟨(some 46),.bin .add (.tmp 31) (.cst (.c (.int .i64 1))),none,0⟩,
 ⟨(some 31),.mov (.tmp 46),none,0⟩])))))))
 (.seq (.region 0 [] [
 ⟨(some 4),.mov (.cst (.c (.bool true))),none,0⟩])
 .ret)))))))⟩
def f19 : AFunc:=⟨44,[.tmp 4],false,
 (.seq (.region 2 [] [
 ⟨(some 2),.box (.tmp 0),none,0⟩,
 ⟨(some 3),.box (.tmp 1),none,1⟩,
 ⟨(some 4),.mov (.cst (.c (.bool false))),none,2⟩])
 (.seq (.region 0 [] [
 ⟨(some 6),.faddr 0 (.tmp 3),none,0⟩,
 ⟨(some 7),.load none (.tmp 6),none,0⟩,
 ⟨(some 8),.faddr 0 (.tmp 2),none,0⟩,
 ⟨(some 9),.load none (.tmp 8),none,0⟩,
 ⟨(some 10),.call 58 true [(.tmp 7),(.cst (.c (.int .i64 (-1)))),(.tmp 9)],none,0⟩,
 ⟨(some 11),.mov (.tmp 10),none,0⟩,
 ⟨(some 12),.faddr 1 (.tmp 3),some (11,true),0⟩,
 ⟨(some 13),.load none (.tmp 12),some (11,true),0⟩,
 ⟨(some 14),.faddr 0 (.tmp 2),some (11,true),0⟩,
 ⟨(some 15),.load none (.tmp 14),some (11,true),0⟩,
 ⟨(some 16),.call 58 true [(.tmp 13),(.cst (.c (.int .i64 (-1)))),(.tmp 15)],some (11,true),0⟩,
 ⟨(some 17),.pick (.tmp 11) (.tmp 16) (.cst (.c (.bool false))),none,0⟩,
 ⟨(some 18),.mov (.tmp 17),none,0⟩,
 ⟨(some 19),.faddr 0 (.tmp 3),some (18,true),0⟩,
 ⟨(some 20),.load none (.tmp 19),some (18,true),0⟩,
 ⟨(some 21),.faddr 1 (.tmp 3),some (18,true),0⟩,
 ⟨(some 22),.load none (.tmp 21),some (18,true),0⟩,
 ⟨(some 23),.mm true (.tmp 20) (.tmp 22),some (18,true),0⟩,
 ⟨(some 24),.bin .geq (.tmp 23) (.cst (.c (.int .i64 0))),some (18,true),0⟩,
 ⟨(some 25),.pick (.tmp 18) (.tmp 24) (.cst (.c (.bool false))),none,0⟩,
 ⟨(some 5),.mov (.tmp 25),none,0⟩])
 (.seq (.region 0 [] [
 ⟨(some 26),.mov (.tmp 5),none,0⟩,
 ⟨(some 27),.mov (.tmp 26),none,0⟩,
 ⟨(some 28),.load (some 12) (.tmp 2),some (27,true),0⟩,
 ⟨(some 29),.faddr 2 (.tmp 3),some (27,true),0⟩,
 ⟨(some 30),.load (some 3) (.tmp 29),some (27,true),0⟩,
 ⟨(some 31),.call 17 true [(.tmp 28),(.tmp 30)],some (27,true),0⟩,
 ⟨(some 32),.pick (.tmp 27) (.tmp 31) (.cst (.c (.bool false))),none,0⟩,
 ⟨(some 33),.mov (.tmp 32),none,0⟩,
 ⟨(some 34),.load (some 12) (.tmp 2),some (33,true),0⟩,
 ⟨(some 35),.faddr 5 (.tmp 3),some (33,true),0⟩,
 ⟨(some 36),.load (some 3) (.tmp 35),some (33,true),0⟩,
 ⟨(some 37),.call 17 true [(.tmp 34),(.tmp 36)],some (33,true),0⟩,
 ⟨(some 38),.pick (.tmp 33) (.tmp 37) (.cst (.c (.bool false))),none,0⟩,
 ⟨(some 39),.mov (.tmp 38),none,0⟩,
 ⟨(some 40),.load (some 12) (.tmp 2),some (39,true),0⟩,
 ⟨(some 41),.load (some 8) (.tmp 3),some (39,true),0⟩,
 ⟨(some 42),.call 49 true [(.tmp 40),(.tmp 41)],some (39,true),0⟩,
 ⟨(some 43),.pick (.tmp 39) (.tmp 42) (.cst (.c (.bool false))),none,0⟩,
 ⟨(some 4),.mov (.tmp 43),none,0⟩])
 .ret)))⟩
def f20 : AFunc:=⟨43,[.tmp 8,.tmp 9],false,
 (.seq (.region 2 [] [
 ⟨(some 4),.box (.tmp 0),none,0⟩,
 ⟨(some 5),.box (.tmp 1),none,1⟩,
 ⟨(some 8),.mov (.cst (.c .nils)),none,2⟩,
 ⟨(some 9),.mov (.cst (.c (.int .i64 0))),none,2⟩])
 (.seq (.seq (.region 0 [] [
 ⟨(some 12),.load (some 12) (.tmp 4),none,0⟩,
 ⟨(some 13),.call 25 true [(.tmp 12)],none,0⟩,
 ⟨(some 10),.mov (.tmp 13),none,0⟩])
 (.seq (.region 0 [] [
 ⟨(some 14),.mov (.tmp 10),none,0⟩,
 ⟨(some 15),.bin .neq (.tmp 14) (.cst (.c (.int .i64 0))),none,0⟩])
 (.cond (.tmp 15)
 (.seq (.region 0 [] [
 ⟨(some 16),.mov (.tmp 10),none,0⟩,
 ⟨(some 8),.mov (.cst (.c .nils)),none,0⟩,
 ⟨(some 9),.mov (.tmp 16),none,0⟩])
 .ret)
 .skip)))
 (.seq (.seq (.region 0 [] [
 ⟨(some 17),.load (some 12) (.tmp 4),none,0⟩,
 ⟨(some 18),.load (some 3) (.tmp 5),none,0⟩,
 ⟨(some 19),.call 37 true [(.tmp 17),(.tmp 18)],none,0⟩,
 ⟨(some 20),.not (.tmp 19),none,0⟩,
 ⟨(some 21),.mov (.tmp 20),none,0⟩,
 ⟨(some 22),.load (some 12) (.tmp 4),some (21,false),0⟩,
 ⟨(some 23),.mov (.tmp 2),some (21,false),0⟩,
 ⟨(some 24),.call 41 true [(.tmp 22),(.tmp 23)],some (21,false),0⟩,
 ⟨(some 25),.not (.tmp 24),some (21,false),0⟩,
 ⟨(some 26),.pick (.tmp 21) (.cst (.c (.bool true))) (.tmp 25),none,0⟩,
 ⟨(some 27),.mov (.tmp 26),none,0⟩,
 ⟨(some 28),.mov (.tmp 3),some (27,false),0⟩,
 ⟨(some 29),.call 61 true [(.tmp 28)],some (27,false),0⟩,
 ⟨(some 30),.not (.tmp 29),some (27,false),0⟩,
 ⟨(some 31),.pick (.tmp 27) (.cst (.c (.bool true))) (.tmp 30),none,0⟩])
 (.cond (.tmp 31)
 (.seq (.region 0 [] [
 ⟨(some 8),.mov (.cst (.c .nils)),none,0⟩,
 ⟨(some 9),.mov (.cst (.c (.int .i64 2))),none,0⟩])
 .ret)
 .skip))
 (.seq (.region 0 [] [
 ⟨(some 32),.load (some 12) (.tmp 4),none,0⟩,
 ⟨(some 33),.call 38 false [(.tmp 32)],none,0⟩,
 ⟨(some 11),.mov (.tmp 33),none,0⟩])
 (.seq (.region 0 [] [
 ⟨(some 34),.mov (.tmp 11),none,0⟩,
 ⟨(some 35),.mov (.tmp 11),none,0⟩,
 ⟨(some 36),.load (some 3) (.tmp 5),none,0⟩,
 ⟨(some 37),.call 39 false [(.tmp 35),(.tmp 36)],none,0⟩,
 ⟨(some 38),.mov (.tmp 2),none,0⟩,
 ⟨(some 39),.iaddr 2 (.tmp 37) (.tmp 38),none,0⟩,
 ⟨(some 40),.load (some 2) (.tmp 39),none,0⟩,
 ⟨(some 41),.mov (.tmp 3),none,0⟩,
 ⟨(some 42),.call 62 false [(.tmp 34),(.tmp 40),(.tmp 41)],none,0⟩,
 ⟨(some 8),.mov (.tmp 42),none,0⟩,
 ⟨(some 9),.mov (.cst (.c (.int .i64 0))),none,0⟩])
 .ret)))))⟩
def f21 : AFunc:=⟨29,[.cell 6 (some 2),.tmp 7],false,
 (.seq (.region 4 [] [
 ⟨(some 3),.box (.tmp 0),none,0⟩,
 ⟨(some 4),.box (.tmp 1),none,1⟩,
 ⟨(some 5),.box (.tmp 2),none,2⟩,
 ⟨(some 6),.alloc [(.int .i64 0),(.int .i64 0)],none,3⟩,
 ⟨(some 7),.mov (.cst (.c (.int .i64 0))),none,4⟩])
 (.seq (.region 1 [(0,1),(0,2),(1,2),(0,3),(0,4),(0,5),(0,6),(0,7),(10,11),(0,12),(1,12),(2,12),(3,12),(4,12),(5,12),(6,12),(7,12),(9,12),(10,12),(11,12),(11,13)] [
 ⟨(some 11),.load (some 12) (.tmp 3),none,0⟩,
 ⟨(some 12),.load (some 12) (.tmp 3),none,0⟩,
 ⟨(some 13),.load none (.tmp 4),none,0⟩,
 ⟨(some 14),.call 41 true [(.tmp 12),(.tmp 13)],none,0⟩,
 ⟨(some 15),.mov (.tmp 14),none,0⟩,
 ⟨(some 16),.load none (.tmp 5),some (15,true),0⟩,
 ⟨(some 17),.call 61 true [(.tmp 16)],some (15,true),0⟩,
 ⟨(some 18),.pick (.tmp 15) (.tmp 17) (.cst (.c (.bool false))),none,0⟩,
 ⟨(some 19),.call 40 false [(.tmp 11),(.tmp 18)],none,0⟩,
 ⟨(some 10),.mov (.tmp 19),none,0⟩,
 ⟨(some 20),.extract 0 (.tmp 10),none,0⟩,
 ⟨(some 21),.extract 1 (.tmp 10),none,0⟩,
 ⟨(some 8),.alloc [.nilp],none,0⟩,
 ⟨none,.store none (.tmp 8) (.tmp 20),none,1⟩,
 ⟨(some 9),.mov (.tmp 21),none,1⟩])
 (.seq (.seq (.region 0 [] [
 ⟨(some 22),.mov (.tmp 9),none,0⟩,
 ⟨(some 23),.bin .neq (.tmp 22) (.cst (.c (.int .i64 0))),none,0⟩])
 (.cond (.tmp 23)
 (.seq (.region 0 [] [
 ⟨(some 24),.build [(.int .i64 0),(.int .i64 0)] [],none,0⟩,
 ⟨(some 25),.mov (.tmp 9),none,0⟩,
 ⟨none,.store (some 2) (.tmp 6) (.tmp 24),none,0⟩,
 ⟨(some 7),.mov (.tmp 25),none,0⟩])
 .ret)
 .skip))
 (.seq (.region 0 [] [
 ⟨(some 26),.load none (.tmp 8),none,0⟩,
 ⟨(some 27),.mkfn 64 none [(.tmp 8),(.tmp 4),(.tmp 5)],none,0⟩,
 ⟨(some 28),.call 63 false [(.tmp 26),(.tmp 27)],none,0⟩,
 ⟨none,.store (some 2) (.tmp 6) (.tmp 28),none,0⟩,
 ⟨(some 7),.mov (.cst (.c (.int .i64 0))),none,0⟩])
 .ret))))⟩
def f22 : AFunc:=⟨35,[.tmp 2,.tmp 3],false,
 (.seq (.region 1 [] [
 ⟨(some 1),.box (.tmp 0),none,0⟩,
 ⟨(some 2),.mov (.cst (.c .nils)),none,1⟩,
 ⟨(some 3),.mov (.cst (.c (.int .i64 0))),none,1⟩])
 (.seq (.region 0 [] [
 ⟨(some 9),.load (some 12) (.tmp 1),none,0⟩,
 ⟨(some 10),.call 40 false [(.tmp 9),(.cst (.c (.bool true)))],none,0⟩,
 ⟨(some 8),.mov (.tmp 10),none,0⟩,
 ⟨(some 11),.extract 0 (.tmp 8),none,0⟩,
 ⟨(some 12),.extract 1 (.tmp 8),none,0⟩,
 ⟨(some 4),.mov (.tmp 11),none,0⟩,
 ⟨(some 5),.mov (.tmp 12),none,0⟩])
 (.seq (.seq (.region 0 [] [
 ⟨(some 13),.mov (.tmp 5),none,0⟩,
 ⟨(some 14),.bin .neq (.tmp 13) (.cst (.c (.int .i64 0))),none,0⟩])
 (.cond (.tmp 14)
 (.seq (.region 0 [] [
 ⟨(some 15),.mov (.tmp 5),none,0⟩,
 ⟨(some 2),.mov (.cst (.c .nils)),none,0⟩,
 ⟨(some 3),.mov (.tmp 15),none,0⟩])
 .ret)
 .skip))
 (.seq (.region 0 [] [
 ⟨(some 6),.mov (.cst (.c .nils)),none,0⟩])
 (.seq (.seq (.region 0 [] [
 ⟨(some 16),.load (some 12) (.tmp 1),none,0⟩,
 ⟨(some 17),.call 47 true [(.tmp 16)],none,0⟩,
 ⟨(some 18),.mov (.cst (.c (.int .i64 0))),none,0⟩])
 (.block 0 (.loop ⟨[7,19,20,21,22,23,24,25,26,27,28,29,30,31,32,33],false,[(6,none,4)]⟩
 (.seq (.region 0 [] [
 ⟨(some 19),.bin .lss (.tmp 18) (.tmp 17),none,0⟩])
 (.seq (.cond (.tmp 19)
 .skip
 (.exit 0))
 (.seq (.block 1 (.seq (.region 0 [] [
 ⟨(some 20),.mov (.tmp 18),none,0⟩,
 ⟨(some 7),.mov (.tmp 20),none,0⟩])
 (.region 2 [] [
 ⟨(some 21),.mov (.tmp 6),none,0⟩,
 ⟨(some 22),.build [.nilfn] [(0,1,(.cst (.c (.fn 65 false [] []))))],none,0⟩,
 ⟨(some 23),.mov (.tmp 4),none,0⟩,
 ⟨(some 24),.mov (.tmp 7),none,0⟩,
 ⟨(some 25),.call 66 false [(.tmp 22),(.tmp 23),(.tmp 24)],none,0⟩,
 ⟨(some 26),.build [.nilfn] [(0,1,(.cst (.c (.fn 67 false [] []))))],none,0⟩,
 ⟨(some 27),.mov (.tmp 4),none,0⟩,
 ⟨(some 28),.mov (.tmp 7),none,0⟩,
 ⟨(some 29),.call 66 false [(.tmp 26),(.tmp 27),(.tmp 28)],none,0⟩,
 ⟨(some 30),.build [(.int .i64 0),(.int .i64 0),(.int .i64 0),(.int .i64 0)] [(0,2,(.tmp 25)),(2,2,(.tmp 29))],none,0⟩,
 ⟨(some 31),.bslice 4 1 [(.int .i64 0),(.int .i64 0),(.int .i64 0),(.int .i64 0)] [(0,(.tmp 30))],none,0⟩,
 ⟨(some 32),.append 4 32 (.tmp 21) (.tmp 31),none,1⟩,
 ⟨(some 6),.mov (.tmp 32),none,2⟩])))
 (.region 0 [] [
 ⟨(some 33),.bin .add (.tmp 18) (.cst (.c (.int .i64 1))),none,0⟩,
 ⟨(some 18),.mov (.tmp 33),none,0⟩])))))))
 (.seq (.region 0 [] [
 ⟨(some 34),.mov (.tmp 6),none,0⟩,
 ⟨(some 2),.mov (.tmp 34),none,0⟩,
 ⟨(some 3),.mov (.cst (.c (.int .i64 0))),none,0⟩])
 .ret))))))⟩
def f23 : AFunc:=⟨34,[.tmp 2,.tmp 3],false,
 (.seq (.region 1 [] [
 ⟨(some 1),.box (.tmp 0),none,0⟩,
 ⟨(some 2),.mov (.cst (.c (.int .i64 0))),none,1⟩,
 ⟨(some 3),.mov (.cst (.c (.int .i64 0))),none,1⟩])
 (.seq (.seq (.region 0 [] [
 ⟨(some 7),.load (some 12) (.tmp 1),none,0⟩,
 ⟨(some 8),.call 25 true [(.tmp 7)],none,0⟩,
 ⟨(some 4),.mov (.tmp 8),none,0⟩])
 (.seq (.region 0 [] [
 ⟨(some 9),.mov (.tmp 4),none,0⟩,
 ⟨(some 10),.bin .neq (.tmp 9) (.cst (.c (.int .i64 0))),none,0⟩])
 (.cond (.tmp 10)
 (.seq (.region 0 [] [
 ⟨(some 11),.mov (.tmp 4),none,0⟩,
 ⟨(some 2),.mov (.cst (.c (.int .i64 0))),none,0⟩,
 ⟨(some 3),.mov (.tmp 11),none,0⟩])
 .ret)
 .skip)))
 (.seq (.region 0 [] [
 ⟨(some 12),.load (some 12) (.tmp 1),none,0⟩,
 ⟨(some 13),.call 38 false [(.tmp 12)],none,0⟩,
 ⟨(some 5),.mov (.tmp 13),none,0⟩])
 (.seq (.seq (.region 0 [] [
 ⟨(some 14),.faddr 11 (.tmp 1),none,0⟩,
 ⟨(some 15),.load none (.tmp 14),none,0⟩,
 ⟨(some 16),.len (.tmp 15),none,0⟩,
 ⟨(some 17),.mov (.cst (.c (.int .i64 0))),none,0⟩])
 (.block 0 (.loop ⟨[2,3,6,18,19,20,21,22,23,24,25,26,27,28,29,30,31,32,33],false,[]⟩
 (.seq (.region 0 [] [
 ⟨(some 18),.bin .lss (.tmp 17) (.tmp 16),none,0⟩])
 (.seq (.cond (.tmp 18)
 .skip
 (.exit 0))
 (.seq (.block 1 (.seq (.region 0 [] [
 ⟨(some 19),.mov (.tmp 17),none,0⟩,
 ⟨(some 6),.mov (.tmp 19),none,0⟩])
 (.seq (.region 0 [] [
 ⟨(some 20),.mov (.tmp 5),none,0⟩,
 ⟨(some 21),.faddr 11 (.tmp 1),none,0⟩,
 ⟨(some 22),.load none (.tmp 21),none,0⟩,
 ⟨(some 23),.mov (.tmp 6),none,0⟩,
 ⟨(some 24),.bin .add (.tmp 23) (.cst (.c (.int .i64 1))),none,0⟩,
 ⟨(some 25),.slice 4 (.tmp 22) none (some (.tmp 24)),none,0⟩,
 ⟨(some 26),.nilchk (.tmp 20),none,0⟩,
 ⟨(some 27),.faddr 0 (.tmp 26),none,0⟩,
 ⟨(some 28),.faddr 11 (.tmp 27),none,0⟩,
 ⟨none,.store none (.tmp 28) (.tmp 25),none,0⟩])
 (.seq (.region 0 [] [
 ⟨(some 29),.mov (.tmp 5),none,0⟩,
 ⟨(some 30),.call 51 false [(.tmp 29),(.cst (.c .nils))],none,0⟩,
 ⟨(some 31),.not (.tmp 30),none,0⟩])
 (.cond (.tmp 31)
 (.seq (.region 0 [] [
 ⟨(some 32),.mov (.tmp 6),none,0⟩,
 ⟨(some 2),.mov (.tmp 32),none,0⟩,
 ⟨(some 3),.mov (.cst (.c (.int .i64 0))),none,0⟩])
 .ret)
 .skip)))))
 (.region 0 [] [
 ⟨(some 33),.bin .add (.tmp 17) (.cst (.c (.int .i64 1))),none,0⟩,
 ⟨(some 17),.mov (.tmp 33),none,0⟩])))))))
 (.seq (.region 0 [] [
 ⟨(some 2),.mov (.cst (.c (.int .i64 0))),none,0⟩,
 ⟨(some 3),.mov (.cst (.c (.int .i64 7))),none,0⟩])
 .ret)))))⟩
def f24 : AFunc:=⟨8,[.cell 4 (some 2)],false,
 (.seq (.region 1 [] [
 ⟨(some 4),.alloc [(.int .i64 0),(.int .i64 0)],none,0⟩])
 (.seq (.region 0 [] [
 ⟨(some 5),.mov (.tmp 0),none,0⟩,
 ⟨(some 6),.mov (.tmp 1),none,0⟩,
 ⟨(some 7),.build [(.int .i64 0),(.int .i64 0)] [(0,1,(.tmp 5)),(1,1,(.tmp 6))],none,0⟩,
 ⟨none,.store (some 2) (.tmp 4) (.tmp 7),none,0⟩])
 .ret))⟩
def f25 : AFunc:=⟨88,[.tmp 2],false,
 (.seq (.region 1 [] [
 ⟨(some 1),.box (.tmp 0),none,0⟩,
 ⟨(some 2),.mov (.cst (.c (.int .i64 0))),none,1⟩])
 (.seq (.region 0 [] [
 ⟨(some 7),.load (some 12) (.tmp 1),none,0⟩,
 ⟨(some 8),.mkfn 68 (some (.tmp 7)) [],none,0⟩,
 ⟨(some 3),.mov (.tmp 8),none,0⟩])
 (.seq (.block 0 (.seq (.region 0 [] [
 ⟨(some 10),.faddr 0 (.tmp 1),none,0⟩,
 ⟨(some 11),.load none (.tmp 10),none,0⟩,
 ⟨(some 12),.bin .gtr (.tmp 11) (.cst (.c (.int .i64 7))),none,0⟩,
 ⟨(some 13),.mov (.tmp 12),none,0⟩,
 ⟨(some 14),.faddr 11 (.tmp 1),some (13,false),0⟩,
 ⟨(some 15),.load none (.tmp 14),some (13,false),0⟩,
 ⟨(some 16),.len (.tmp 15),some (13,false),0⟩,
 ⟨(some 17),.bin .gtr (.tmp 16) (.cst (.c (.int .i64 5))),some (13,false),0⟩,
 ⟨(some 18),.pick (.tmp 13) (.cst (.c (.bool true))) (.tmp 17),none,0⟩,
 ⟨(some 9),.mov (.tmp 18),none,0⟩])
 (.cond (.tmp 9)
 (.seq (.region 0 [] [
 ⟨(some 2),.mov (.cst (.c (.int .i64 3))),none,0⟩])
 .ret)
 (.seq (.region 0 [(4,7),(5,7),(6,7),(4,8),(5,8),(6,8),(12,15),(13,15),(14,15),(12,16),(13,16),(14,16),(20,23),(21,23),(22,23),(20,24),(21,24),(22,24),(46,48),(47,48)] [
 ⟨(some 20),.load (some 12) (.tmp 1),none,0⟩,
 ⟨(some 21),.call 69 true [(.tmp 20)],none,0⟩,
 ⟨(some 22),.not (.tmp 21),none,0⟩,
 ⟨(some 23),.mov (.tmp 22),none,0⟩,
 ⟨(some 24),.faddr 8 (.tmp 1),some (23,false),0⟩,
 ⟨(some 25),.load none (.tmp 24),some (23,false),0⟩,
 ⟨(some 26),.len (.tmp 25),some (23,false),0⟩,
 ⟨(some 27),.load (some 12) (.tmp 1),some (23,false),0⟩,
 ⟨(some 28),.call 47 true [(.tmp 27)],some (23,false),0⟩,
 ⟨(some 29),.bin .neq (.tmp 26) (.tmp 28),some (23,false),0⟩,
 ⟨(some 30),.pick (.tmp 23) (.cst (.c (.bool true))) (.tmp 29),none,0⟩,
 ⟨(some 31),.mov (.tmp 30),none,0⟩,
 ⟨(some 32),.faddr 9 (.tmp 1),some (31,false),0⟩,
 ⟨(some 33),.load none (.tmp 32),some (31,false),0⟩,
 ⟨(some 34),.len (.tmp 33),some (31,false),0⟩,
 ⟨(some 35),.load (some 12) (.tmp 1),some (31,false),0⟩,
 ⟨(some 36),.call 47 true [(.tmp 35)],some (31,false),0⟩,
 ⟨(some 37),.bin .neq (.tmp 34) (.tmp 36),some (31,false),0⟩,
 ⟨(some 38),.pick (.tmp 31) (.cst (.c (.bool true))) (.tmp 37),none,0⟩,
 ⟨(some 39),.mov (.tmp 38),none,0⟩,
 ⟨(some 40),.faddr 10 (.tmp 1),some (39,false),0⟩,
 ⟨(some 41),.load none (.tmp 40),some (39,false),0⟩,
 ⟨(some 42),.len (.tmp 41),some (39,false),0⟩,
 ⟨(some 43),.load (some 12) (.tmp 1),some (39,false),0⟩,
 ⟨(some 44),.call 47 true [(.tmp 43)],some (39,false),0⟩,
 ⟨(some 45),.bin .neq (.tmp 42) (.tmp 44),some (39,false),0⟩,
 ⟨(some 46),.pick (.tmp 39) (.cst (.c (.bool true))) (.tmp 45),none,0⟩,
 ⟨(some 47),.mov (.tmp 46),none,0⟩,
 ⟨(some 48),.faddr 8 (.tmp 1),some (47,false),0⟩,
 ⟨(some 49),.load none (.tmp 48),some (47,false),0⟩,
 ⟨(some 50),.call 70 false [(.tmp 49),(.cst (.c (.fn 71 false [] [])))],some (47,false),0⟩,
 ⟨(some 51),.not (.tmp 50),some (47,false),0⟩,
 ⟨(some 52),.pick (.tmp 47) (.cst (.c (.bool true))) (.tmp 51),none,0⟩,
 ⟨(some 53),.mov (.tmp 52),none,0⟩,
 ⟨(some 54),.faddr 9 (.tmp 1),some (53,false),0⟩,
 ⟨(some 55),.load none (.tmp 54),some (53,false),0⟩,
 ⟨(some 56),.call 72 false [(.tmp 55),(.cst (.c (.fn 73 false [] [])))],some (53,false),0⟩,
 ⟨(some 57),.not (.tmp 56),some (53,false),0⟩,
 ⟨(some 58),.pick (.tmp 53) (.cst (.c (.bool true))) (.tmp 57),none,0⟩,
 ⟨(some 59),.mov (.tmp 58),none,0⟩,
 ⟨(some 60),.faddr 10 (.tmp 1),some (59,false),0⟩,
 ⟨(some 61),.load none (.tmp 60),some (59,false),0⟩,
 ⟨(some 62),.call 56 false [(.tmp 61),(.cst (.c (.fn 61 false [] [])))],some (59,false),0⟩,
 ⟨(some 63),.not (.tmp 62),some (59,false),0⟩,
 ⟨(some 64),.pick (.tmp 59) (.cst (.c (.bool true))) (.tmp 63),none,0⟩,
 ⟨(some 65),.mov (.tmp 64),none,0⟩,
 ⟨(some 66),.faddr 11 (.tmp 1),some (65,false),0⟩,
 ⟨(some 67),.load none (.tmp 66),some (65,false),0⟩,
 ⟨(some 68),.mov (.tmp 3),some (65,false),0⟩,
 ⟨(some 69),.call 53 false [(.tmp 67),(.tmp 68)],some (65,false),0⟩,
 ⟨(some 70),.not (.tmp 69),some (65,false),0⟩,
 ⟨(some 71),.pick (.tmp 65) (.cst (.c (.bool true))) (.tmp 70),none,0⟩,
 ⟨(some 19),.mov (.tmp 71),none,0⟩])
 (.cond (.tmp 19)
 (.seq (.region 0 [] [
 ⟨(some 2),.mov (.cst (.c (.int .i64 1))),none,0⟩])
 .ret)
 .skip)))))
 (.seq (.region 0 [] [
 ⟨(some 4),.mov (.cst (.c (.int .i64 1))),none,0⟩])
 (.seq (.seq (.region 0 [] [
 ⟨(some 72),.load (some 12) (.tmp 1),none,0⟩,
 ⟨(some 73),.call 74 true [(.tmp 72)],none,0⟩,
 ⟨(some 74),.len (.tmp 73),none,0⟩,
 ⟨(some 75),.mov (.cst (.c (.int .i64 0))),none,0⟩])
 (.block 1 (.loop ⟨[6,76,77,78,79,80,81,82,83,84,85],false,[]⟩
 (.seq (.region 0 [] [
 ⟨(some 76),.bin .lss (.tmp 75) (.tmp 74),none,0⟩])
 (.seq (.cond (.tmp 76)
 .skip
 (.exit 1))
 (.seq (.block 2 (.seq (.region 1 [] [
 ⟨(some 77),.iaddr 2 (.tmp 73) (.tmp 75),none,0⟩,
 ⟨(some 78),.load (some 2) (.tmp 77),none,0⟩,
 ⟨(some 6),.alloc [(.int .i64 0),(.int .i64 0)],none,0⟩,
 ⟨none,.store (some 2) (.tmp 6) (.tmp 78),none,1⟩])
 (.region 1 [] [
 ⟨(some 79),.mov (.tmp 4),none,0⟩,
 ⟨(some 80),.load (some 2) (.tmp 6),none,0⟩,
 ⟨(some 81),.call 75 true [(.tmp 80)],none,0⟩,
 ⟨(some 82),.bin .mul (.tmp 79) (.tmp 81),none,0⟩,
 ⟨(some 83),.bslice 1 2 [(.int .i64 0)] [(0,(.tmp 82)),(1,(.cst (.c (.int .i64 2001))))],none,0⟩,
 ⟨(some 84),.call 46 true [(.tmp 83)],none,1⟩,
 ⟨(some 4),.mov (.tmp 84),none,1⟩])))
 (.region 0 [] [
 ⟨(some 85),.bin .add (.tmp 75) (.cst (.c (.int .i64 1))),none,0⟩,
 ⟨(some 75),.mov (.tmp 85),none,0⟩])))))))
 (.seq (.seq (.region 0 [] [
 ⟨(some 86),.mov (.tmp 4),none,0⟩,
 ⟨(some 87),.bin .gtr (.tmp 86) (.cst (.c (.int .i64 2000))),none,0⟩])
 (.cond (.tmp 87)
 (.seq (.region 0 [] [
 ⟨(some 2),.mov (.cst (.c (.int .i64 3))),none,0⟩])
 .ret)
 .skip))
 (.seq (.region 0 [] [
 ⟨(some 2),.mov (.cst (.c (.int .i64 0))),none,0⟩])
 .ret)))))))⟩
end Am.Vt
