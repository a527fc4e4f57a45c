/-
  A part of the proof: the texts TmTabA of this seat, joined.
-/
import Derived.Test.YtgbcbeahnnjlfaaAmA
namespace Am.Tm
open Go Am
set_option maxRecDepth 100000
def f4 : AFunc:=⟨389,[.tmp 0],false,
 (.seq (.region 0 [] [
 ⟨(some 0),.mov (.cst (.c (.bool false))),none,0⟩])
 (.seq (.region 1 [] [
 ⟨(some 37),.call 13 true [(.cst (.c (.int .i64 10)))],none,0⟩,
 ⟨(some 38),.bslice 1 3 [(.int .i64 0)] [(0,(.cst (.c (.int .i64 0)))),(1,(.cst (.c (.int .i64 0)))),(2,(.cst (.c (.int .i64 1))))],none,0⟩,
 ⟨(some 39),.call 10 true [(.tmp 37),(.tmp 38),(.cst (.c .nils))],none,1⟩,
 ⟨(some 36),.mov (.tmp 39),none,1⟩,
 ⟨(some 40),.extract 0 (.tmp 36),none,1⟩,
 ⟨(some 41),.extract 1 (.tmp 36),none,1⟩,
 ⟨(some 1),.mov (.tmp 40),none,1⟩,
 ⟨(some 2),.mov (.tmp 41),none,1⟩])
 (.seq (.region 1 [] [
 ⟨(some 43),.call 13 true [(.cst (.c (.int .i64 10)))],none,0⟩,
 ⟨(some 44),.bslice 1 3 [(.int .i64 0)] [(0,(.cst (.c (.int .i64 0)))),(1,(.cst (.c (.int .i64 1)))),(2,(.cst (.c (.int .i64 0))))],none,0⟩,
 ⟨(some 45),.call 10 true [(.tmp 43),(.tmp 44),(.cst (.c .nils))],none,1⟩,
 ⟨(some 42),.mov (.tmp 45),none,1⟩,
 ⟨(some 46),.extract 0 (.tmp 42),none,1⟩,
 ⟨(some 47),.extract 1 (.tmp 42),none,1⟩,
 ⟨(some 3),.mov (.tmp 46),none,1⟩,
 ⟨(some 4),.mov (.tmp 47),none,1⟩])
 (.seq (.region 1 [] [
 ⟨(some 49),.call 13 true [(.cst (.c (.int .i64 10)))],none,0⟩,
 ⟨(some 50),.bslice 1 3 [(.int .i64 0)] [(0,(.cst (.c (.int .i64 0)))),(1,(.cst (.c (.int .i64 0)))),(2,(.cst (.c (.int .i64 1))))],none,0⟩,
 ⟨(some 51),.call 14 true [(.tmp 49),(.tmp 50)],none,1⟩,
 ⟨(some 48),.mov (.tmp 51),none,1⟩,
 ⟨(some 52),.extract 0 (.tmp 48),none,1⟩,
 ⟨(some 53),.extract 1 (.tmp 48),none,1⟩,
 ⟨(some 54),.extract 2 (.tmp 48),none,1⟩,
 ⟨(some 5),.mov (.tmp 52),none,1⟩,
 ⟨(some 6),.mov (.tmp 53),none,1⟩,
 ⟨(some 7),.mov (.tmp 54),none,1⟩])
 (.seq (.region 1 [] [
 ⟨(some 56),.call 13 true [(.cst (.c (.int .i64 10)))],none,0⟩,
 ⟨(some 57),.bslice 1 3 [(.int .i64 0)] [(0,(.cst (.c (.int .i64 1)))),(1,(.cst (.c (.int .i64 0)))),(2,(.cst (.c (.int .i64 0))))],none,0⟩,
 ⟨(some 58),.call 14 true [(.tmp 56),(.tmp 57)],none,1⟩,
 ⟨(some 55),.mov (.tmp 58),none,1⟩,
 ⟨(some 59),.extract 0 (.tmp 55),none,1⟩,
 ⟨(some 60),.extract 1 (.tmp 55),none,1⟩,
 ⟨(some 61),.extract 2 (.tmp 55),none,1⟩,
 ⟨(some 8),.mov (.tmp 59),none,1⟩,
 ⟨(some 9),.mov (.tmp 60),none,1⟩,
 ⟨(some 10),.mov (.tmp 61),none,1⟩])
 (.seq (.region 0 [] [
 ⟨(some 63),.call 13 true [(.cst (.c (.int .i64 10)))],none,0⟩,
 ⟨(some 64),.call 15 true [(.tmp 63),(.cst (.c (.int .i64 1)))],none,0⟩,
 ⟨(some 62),.mov (.tmp 64),none,0⟩,
 ⟨(some 65),.extract 0 (.tmp 62),none,0⟩,
 ⟨(some 66),.extract 1 (.tmp 62),none,0⟩,
 ⟨(some 11),.mov (.tmp 65),none,0⟩,
 ⟨(some 12),.mov (.tmp 66),none,0⟩])
 (.seq (.region 0 [] [
 ⟨(some 68),.call 13 true [(.cst (.c (.int .i64 10)))],none,0⟩,
 ⟨(some 69),.call 16 true [(.tmp 68),(.cst (.c .nils)),(.cst (.c .nils))],none,0⟩,
 ⟨(some 67),.mov (.tmp 69),none,0⟩,
 ⟨(some 70),.extract 0 (.tmp 67),none,0⟩,
 ⟨(some 71),.extract 1 (.tmp 67),none,0⟩,
 ⟨(some 72),.extract 2 (.tmp 67),none,0⟩,
 ⟨(some 13),.mov (.tmp 70),none,0⟩,
 ⟨(some 14),.mov (.tmp 71),none,0⟩,
 ⟨(some 15),.mov (.tmp 72),none,0⟩])
 (.seq (.region 1 [] [
 ⟨(some 74),.call 13 true [(.cst (.c (.int .i64 10)))],none,0⟩,
 ⟨(some 75),.bslice 1 2 [(.int .i64 0)] [(0,(.cst (.c (.int .i64 0)))),(1,(.cst (.c (.int .i64 0))))],none,0⟩,
 ⟨(some 76),.call 16 true [(.tmp 74),(.tmp 75),(.cst (.c .nils))],none,1⟩,
 ⟨(some 73),.mov (.tmp 76),none,1⟩,
 ⟨(some 77),.extract 0 (.tmp 73),none,1⟩,
 ⟨(some 78),.extract 1 (.tmp 73),none,1⟩,
 ⟨(some 79),.extract 2 (.tmp 73),none,1⟩,
 ⟨(some 16),.mov (.tmp 77),none,1⟩,
 ⟨(some 17),.mov (.tmp 78),none,1⟩,
 ⟨(some 18),.mov (.tmp 79),none,1⟩])
 (.seq (.seq (.region 6 [(8,11),(9,11),(10,11),(15,18),(16,18),(17,18),(22,25),(23,25),(24,25),(38,41),(39,41),(40,41),(45,48),(46,48),(47,48),(60,61),(74,75),(112,113),(118,119),(123,124),(128,129)] [
 ⟨(some 80),.mov (.tmp 2),none,0⟩,
 ⟨(some 81),.bin .neq (.tmp 80) (.cst (.c (.int .i64 0))),none,0⟩,
 ⟨(some 82),.mov (.tmp 81),none,0⟩,
 ⟨(some 83),.mov (.tmp 1),some (82,false),0⟩,
 ⟨(some 84),.len (.tmp 83),some (82,false),0⟩,
 ⟨(some 85),.bin .neq (.tmp 84) (.cst (.c (.int .i64 3))),some (82,false),0⟩,
 ⟨(some 86),.pick (.tmp 82) (.cst (.c (.bool true))) (.tmp 85),none,0⟩,
 ⟨(some 87),.mov (.tmp 86),none,0⟩,
 ⟨(some 88),.mov (.tmp 1),some (87,false),0⟩,
 ⟨(some 89),.iaddr 3 (.tmp 88) (.cst (.c (.int .i64 0))),some (87,false),0⟩,
 ⟨(some 90),.load (some 3) (.tmp 89),some (87,false),0⟩,
 ⟨(some 91),.call 17 true [(.cst (.c (.int .i64 20))),(.cst (.c (.int .i64 2))),(.cst (.c (.int .i64 28)))],some (87,false),0⟩,
 ⟨(some 92),.eqA true [(some .i64),(some .i64),(some .i64)] (.tmp 90) (.tmp 91),some (87,false),0⟩,
 ⟨(some 93),.pick (.tmp 87) (.cst (.c (.bool true))) (.tmp 92),none,0⟩,
 ⟨(some 94),.mov (.tmp 93),none,0⟩,
 ⟨(some 95),.mov (.tmp 1),some (94,false),0⟩,
 ⟨(some 96),.iaddr 3 (.tmp 95) (.cst (.c (.int .i64 1))),some (94,false),0⟩,
 ⟨(some 97),.load (some 3) (.tmp 96),some (94,false),0⟩,
 ⟨(some 98),.call 17 true [(.cst (.c (.int .i64 12))),(.cst (.c (.int .i64 2))),(.cst (.c (.int .i64 38)))],some (94,false),0⟩,
 ⟨(some 99),.eqA true [(some .i64),(some .i64),(some .i64)] (.tmp 97) (.tmp 98),some (94,false),0⟩,
 ⟨(some 100),.pick (.tmp 94) (.cst (.c (.bool true))) (.tmp 99),none,0⟩,
 ⟨(some 101),.mov (.tmp 100),none,0⟩,
 ⟨(some 102),.mov (.tmp 1),some (101,false),0⟩,
 ⟨(some 103),.iaddr 3 (.tmp 102) (.cst (.c (.int .i64 2))),some (101,false),0⟩,
 ⟨(some 104),.load (some 3) (.tmp 103),some (101,false),0⟩,
 ⟨(some 105),.call 17 true [(.cst (.c (.int .i64 30))),(.cst (.c (.int .i64 9))),(.cst (.c (.int .i64 59)))],some (101,false),0⟩,
 ⟨(some 106),.eqA true [(some .i64),(some .i64),(some .i64)] (.tmp 104) (.tmp 105),some (101,false),0⟩,
 ⟨(some 107),.pick (.tmp 101) (.cst (.c (.bool true))) (.tmp 106),none,0⟩,
 ⟨(some 108),.mov (.tmp 107),none,0⟩,
 ⟨(some 109),.mov (.tmp 4),some (108,false),0⟩,
 ⟨(some 110),.bin .neq (.tmp 109) (.cst (.c (.int .i64 0))),some (108,false),0⟩,
 ⟨(some 111),.pick (.tmp 108) (.cst (.c (.bool true))) (.tmp 110),none,0⟩,
 ⟨(some 112),.mov (.tmp 111),none,0⟩,
 ⟨(some 113),.mov (.tmp 3),some (112,false),0⟩,
 ⟨(some 114),.len (.tmp 113),some (112,false),0⟩,
 ⟨(some 115),.bin .neq (.tmp 114) (.cst (.c (.int .i64 3))),some (112,false),0⟩,
 ⟨(some 116),.pick (.tmp 112) (.cst (.c (.bool true))) (.tmp 115),none,0⟩,
 ⟨(some 117),.mov (.tmp 116),none,0⟩,
 ⟨(some 118),.mov (.tmp 3),some (117,false),0⟩,
 ⟨(some 119),.iaddr 3 (.tmp 118) (.cst (.c (.int .i64 1))),some (117,false),0⟩,
 ⟨(some 120),.load (some 3) (.tmp 119),some (117,false),0⟩,
 ⟨(some 121),.call 17 true [(.cst (.c (.int .i64 30))),(.cst (.c (.int .i64 9))),(.cst (.c (.int .i64 49)))],some (117,false),0⟩,
 ⟨(some 122),.eqA true [(some .i64),(some .i64),(some .i64)] (.tmp 120) (.tmp 121),some (117,false),0⟩,
 ⟨(some 123),.pick (.tmp 117) (.cst (.c (.bool true))) (.tmp 122),none,0⟩,
 ⟨(some 124),.mov (.tmp 123),none,0⟩,
 ⟨(some 125),.mov (.tmp 3),some (124,false),0⟩,
 ⟨(some 126),.iaddr 3 (.tmp 125) (.cst (.c (.int .i64 2))),some (124,false),0⟩,
 ⟨(some 127),.load (some 3) (.tmp 126),some (124,false),0⟩,
 ⟨(some 128),.call 17 true [(.cst (.c (.int .i64 12))),(.cst (.c (.int .i64 7))),(.cst (.c (.int .i64 54)))],some (124,false),0⟩,
 ⟨(some 129),.eqA true [(some .i64),(some .i64),(some .i64)] (.tmp 127) (.tmp 128),some (124,false),0⟩,
 ⟨(some 130),.pick (.tmp 124) (.cst (.c (.bool true))) (.tmp 129),none,0⟩,
 ⟨(some 131),.mov (.tmp 130),none,0⟩,
 ⟨(some 132),.mov (.tmp 7),some (131,false),0⟩,
 ⟨(some 133),.bin .neq (.tmp 132) (.cst (.c (.int .i64 0))),some (131,false),0⟩,
 ⟨(some 134),.pick (.tmp 131) (.cst (.c (.bool true))) (.tmp 133),none,0⟩,
 ⟨(some 135),.mov (.tmp 134),none,0⟩,
 ⟨(some 136),.mov (.tmp 5),some (135,false),0⟩,
 ⟨(some 137),.bin .neq (.tmp 136) (.cst (.c (.int .i64 34))),some (135,false),0⟩,
 ⟨(some 138),.pick (.tmp 135) (.cst (.c (.bool true))) (.tmp 137),none,0⟩,
 ⟨(some 139),.mov (.tmp 138),none,0⟩,
 ⟨(some 140),.mov (.tmp 6),some (139,false),0⟩,
 ⟨(some 141),.bslice 1 1 [(.int .i64 0)] [(0,(.cst (.c (.int .i64 2))))],some (139,false),0⟩,
 ⟨(some 142),.call 18 true [(.tmp 140),(.tmp 141)],some (139,false),1⟩,
 ⟨(some 143),.not (.tmp 142),some (139,false),1⟩,
 ⟨(some 144),.pick (.tmp 139) (.cst (.c (.bool true))) (.tmp 143),none,1⟩,
 ⟨(some 145),.mov (.tmp 144),none,1⟩,
 ⟨(some 146),.mov (.tmp 10),some (145,false),1⟩,
 ⟨(some 147),.bin .neq (.tmp 146) (.cst (.c (.int .i64 0))),some (145,false),1⟩,
 ⟨(some 148),.pick (.tmp 145) (.cst (.c (.bool true))) (.tmp 147),none,1⟩,
 ⟨(some 149),.mov (.tmp 148),none,1⟩,
 ⟨(some 150),.mov (.tmp 8),some (149,false),1⟩,
 ⟨(some 151),.bin .neq (.tmp 150) (.cst (.c (.int .i64 29))),some (149,false),1⟩,
 ⟨(some 152),.pick (.tmp 149) (.cst (.c (.bool true))) (.tmp 151),none,1⟩,
 ⟨(some 153),.mov (.tmp 152),none,1⟩,
 ⟨(some 154),.mov (.tmp 9),some (153,false),1⟩,
 ⟨(some 155),.bslice 1 1 [(.int .i64 0)] [(0,(.cst (.c (.int .i64 0))))],some (153,false),1⟩,
 ⟨(some 156),.call 18 true [(.tmp 154),(.tmp 155)],some (153,false),2⟩,
 ⟨(some 157),.not (.tmp 156),some (153,false),2⟩,
 ⟨(some 158),.pick (.tmp 153) (.cst (.c (.bool true))) (.tmp 157),none,2⟩,
 ⟨(some 159),.mov (.tmp 158),none,2⟩,
 ⟨(some 160),.mov (.tmp 12),some (159,false),2⟩,
 ⟨(some 161),.bin .neq (.tmp 160) (.cst (.c (.int .i64 0))),some (159,false),2⟩,
 ⟨(some 162),.pick (.tmp 159) (.cst (.c (.bool true))) (.tmp 161),none,2⟩,
 ⟨(some 163),.mov (.tmp 162),none,2⟩,
 ⟨(some 164),.mov (.tmp 11),some (163,false),2⟩,
 ⟨(some 165),.bin .neq (.tmp 164) (.cst (.c (.int .i64 18))),some (163,false),2⟩,
 ⟨(some 166),.pick (.tmp 163) (.cst (.c (.bool true))) (.tmp 165),none,2⟩,
 ⟨(some 167),.mov (.tmp 166),none,2⟩,
 ⟨(some 168),.mov (.tmp 15),some (167,false),2⟩,
 ⟨(some 169),.bin .neq (.tmp 168) (.cst (.c (.int .i64 0))),some (167,false),2⟩,
 ⟨(some 170),.pick (.tmp 167) (.cst (.c (.bool true))) (.tmp 169),none,2⟩,
 ⟨(some 171),.mov (.tmp 170),none,2⟩,
 ⟨(some 172),.mov (.tmp 13),some (171,false),2⟩,
 ⟨(some 173),.bin .neq (.tmp 172) (.cst (.c (.int .i64 0))),some (171,false),2⟩,
 ⟨(some 174),.pick (.tmp 171) (.cst (.c (.bool true))) (.tmp 173),none,2⟩,
 ⟨(some 175),.mov (.tmp 174),none,2⟩,
 ⟨(some 176),.mov (.tmp 14),some (175,false),2⟩,
 ⟨(some 177),.bin .neq (.tmp 176) (.cst (.c (.int .i64 34))),some (175,false),2⟩,
 ⟨(some 178),.pick (.tmp 175) (.cst (.c (.bool true))) (.tmp 177),none,2⟩,
 ⟨(some 179),.mov (.tmp 178),none,2⟩,
 ⟨(some 180),.mov (.tmp 18),some (179,false),2⟩,
 ⟨(some 181),.bin .neq (.tmp 180) (.cst (.c (.int .i64 0))),some (179,false),2⟩,
 ⟨(some 182),.pick (.tmp 179) (.cst (.c (.bool true))) (.tmp 181),none,2⟩,
 ⟨(some 183),.mov (.tmp 182),none,2⟩,
 ⟨(some 184),.mov (.tmp 16),some (183,false),2⟩,
 ⟨(some 185),.bin .neq (.tmp 184) (.cst (.c (.int .i64 1))),some (183,false),2⟩,
 ⟨(some 186),.pick (.tmp 183) (.cst (.c (.bool true))) (.tmp 185),none,2⟩,
 ⟨(some 187),.mov (.tmp 186),none,2⟩,
 ⟨(some 188),.mov (.tmp 17),some (187,false),2⟩,
 ⟨(some 189),.bin .neq (.tmp 188) (.cst (.c (.int .i64 34))),some (187,false),2⟩,
 ⟨(some 190),.pick (.tmp 187) (.cst (.c (.bool true))) (.tmp 189),none,2⟩,
 ⟨(some 191),.mov (.tmp 190),none,2⟩,
 ⟨(some 192),.call 13 true [(.cst (.c (.int .i64 10)))],some (191,false),2⟩,
 ⟨(some 193),.bslice 1 3 [(.int .i64 0)] [(0,(.cst (.c (.int .i64 0)))),(1,(.cst (.c (.int .i64 0)))),(2,(.cst (.c (.int .i64 1))))],some (191,false),2⟩,
 ⟨(some 194),.call 19 true [(.tmp 192),(.tmp 193),(.cst (.c (.int .i64 34)))],some (191,false),3⟩,
 ⟨(some 195),.not (.tmp 194),some (191,false),3⟩,
 ⟨(some 196),.pick (.tmp 191) (.cst (.c (.bool true))) (.tmp 195),none,3⟩,
 ⟨(some 197),.mov (.tmp 196),none,3⟩,
 ⟨(some 198),.call 13 true [(.cst (.c (.int .i64 10)))],some (197,false),3⟩,
 ⟨(some 199),.bslice 1 3 [(.int .i64 0)] [(0,(.cst (.c (.int .i64 0)))),(1,(.cst (.c (.int .i64 0)))),(2,(.cst (.c (.int .i64 1))))],some (197,false),3⟩,
 ⟨(some 200),.call 19 true [(.tmp 198),(.tmp 199),(.cst (.c (.int .i64 35)))],some (197,false),4⟩,
 ⟨(some 201),.pick (.tmp 197) (.cst (.c (.bool true))) (.tmp 200),none,4⟩,
 ⟨(some 202),.mov (.tmp 201),none,4⟩,
 ⟨(some 203),.call 13 true [(.cst (.c (.int .i64 8)))],some (202,false),4⟩,
 ⟨(some 204),.bslice 1 3 [(.int .i64 0)] [(0,(.cst (.c (.int .i64 1)))),(1,(.cst (.c (.int .i64 0)))),(2,(.cst (.c (.int .i64 0))))],some (202,false),4⟩,
 ⟨(some 205),.call 19 true [(.tmp 203),(.tmp 204),(.cst (.c (.int .i64 0)))],some (202,false),5⟩,
 ⟨(some 206),.pick (.tmp 202) (.cst (.c (.bool true))) (.tmp 205),none,5⟩,
 ⟨(some 207),.mov (.tmp 206),none,5⟩,
 ⟨(some 208),.call 13 true [(.cst (.c (.int .i64 10)))],some (207,false),5⟩,
 ⟨(some 209),.bslice 1 2 [(.int .i64 0)] [(0,(.cst (.c (.int .i64 0)))),(1,(.cst (.c (.int .i64 0))))],some (207,false),5⟩,
 ⟨(some 210),.call 19 true [(.tmp 208),(.tmp 209),(.cst (.c (.int .i64 (-99))))],some (207,false),6⟩,
 ⟨(some 211),.pick (.tmp 207) (.cst (.c (.bool true))) (.tmp 210),none,6⟩])
 (.cond (.tmp 211)
 (.seq (.region 0 [] [
 ⟨(some 0),.mov (.cst (.c (.bool false))),none,0⟩])
 .ret)
 .skip))
 (.seq (.region 1 [] [
 ⟨(some 213),.call 13 true [(.cst (.c (.int .i64 10)))],none,0⟩,
 ⟨(some 214),.bslice 1 3 [(.int .i64 0)] [(0,(.cst (.c (.int .i64 0)))),(1,(.cst (.c (.int .i64 0)))),(2,(.cst (.c (.int .i64 2))))],none,0⟩,
 ⟨(some 215),.call 10 true [(.tmp 213),(.tmp 214),(.cst (.c .nils))],none,1⟩,
 ⟨(some 212),.mov (.tmp 215),none,1⟩,
 ⟨(some 216),.extract 0 (.tmp 212),none,1⟩,
 ⟨(some 217),.extract 1 (.tmp 212),none,1⟩,
 ⟨(some 2),.mov (.tmp 217),none,1⟩])
 (.seq (.region 2 [] [
 ⟨(some 219),.call 13 true [(.cst (.c (.int .i64 10)))],none,0⟩,
 ⟨(some 220),.bslice 1 3 [(.int .i64 0)] [(0,(.cst (.c (.int .i64 0)))),(1,(.cst (.c (.int .i64 0)))),(2,(.cst (.c (.int .i64 1))))],none,0⟩,
 ⟨(some 221),.bslice 1 2 [(.int .i64 0)] [(0,(.cst (.c (.int .i64 0)))),(1,(.cst (.c (.int .i64 1))))],none,1⟩,
 ⟨(some 222),.call 10 true [(.tmp 219),(.tmp 220),(.tmp 221)],none,2⟩,
 ⟨(some 218),.mov (.tmp 222),none,2⟩,
 ⟨(some 223),.extract 0 (.tmp 218),none,2⟩,
 ⟨(some 224),.extract 1 (.tmp 218),none,2⟩,
 ⟨(some 4),.mov (.tmp 224),none,2⟩])
 (.seq (.region 1 [] [
 ⟨(some 226),.call 13 true [(.cst (.c (.int .i64 8)))],none,0⟩,
 ⟨(some 227),.bslice 1 3 [(.int .i64 0)] [(0,(.cst (.c (.int .i64 1)))),(1,(.cst (.c (.int .i64 0)))),(2,(.cst (.c (.int .i64 0))))],none,0⟩,
 ⟨(some 228),.call 10 true [(.tmp 226),(.tmp 227),(.cst (.c .nils))],none,1⟩,
 ⟨(some 225),.mov (.tmp 228),none,1⟩,
 ⟨(some 229),.extract 0 (.tmp 225),none,1⟩,
 ⟨(some 230),.extract 1 (.tmp 225),none,1⟩,
 ⟨(some 7),.mov (.tmp 230),none,1⟩])
 (.seq (.region 1 [] [
 ⟨(some 232),.call 13 true [(.cst (.c (.int .i64 8)))],none,0⟩,
 ⟨(some 233),.bslice 1 3 [(.int .i64 0)] [(0,(.cst (.c (.int .i64 1)))),(1,(.cst (.c (.int .i64 0)))),(2,(.cst (.c (.int .i64 0))))],none,0⟩,
 ⟨(some 234),.call 14 true [(.tmp 232),(.tmp 233)],none,1⟩,
 ⟨(some 231),.mov (.tmp 234),none,1⟩,
 ⟨(some 235),.extract 0 (.tmp 231),none,1⟩,
 ⟨(some 236),.extract 1 (.tmp 231),none,1⟩,
 ⟨(some 237),.extract 2 (.tmp 231),none,1⟩,
 ⟨(some 10),.mov (.tmp 237),none,1⟩])
 (.seq (.region 0 [] [
 ⟨(some 239),.call 13 true [(.cst (.c (.int .i64 1)))],none,0⟩,
 ⟨(some 240),.call 20 true [(.tmp 239)],none,0⟩,
 ⟨(some 238),.mov (.tmp 240),none,0⟩,
 ⟨(some 241),.extract 0 (.tmp 238),none,0⟩,
 ⟨(some 242),.extract 1 (.tmp 238),none,0⟩,
 ⟨(some 243),.extract 2 (.tmp 238),none,0⟩,
 ⟨(some 12),.mov (.tmp 243),none,0⟩])
 (.seq (.region 0 [] [
 ⟨(some 245),.call 13 true [(.cst (.c (.int .i64 1)))],none,0⟩,
 ⟨(some 246),.call 21 true [(.tmp 245)],none,0⟩,
 ⟨(some 244),.mov (.tmp 246),none,0⟩,
 ⟨(some 247),.extract 0 (.tmp 244),none,0⟩,
 ⟨(some 248),.extract 1 (.tmp 244),none,0⟩,
 ⟨(some 15),.mov (.tmp 248),none,0⟩])
 (.seq (.region 0 [] [
 ⟨(some 250),.call 13 true [(.cst (.c (.int .i64 10)))],none,0⟩,
 ⟨(some 251),.call 15 true [(.tmp 250),(.cst (.c (.int .i64 2)))],none,0⟩,
 ⟨(some 249),.mov (.tmp 251),none,0⟩,
 ⟨(some 252),.extract 0 (.tmp 249),none,0⟩,
 ⟨(some 253),.extract 1 (.tmp 249),none,0⟩,
 ⟨(some 18),.mov (.tmp 253),none,0⟩])
 (.seq (.region 1 [] [
 ⟨(some 255),.call 13 true [(.cst (.c (.int .i64 10)))],none,0⟩,
 ⟨(some 256),.bslice 1 3 [(.int .i64 0)] [(0,(.cst (.c (.int .i64 0)))),(1,(.cst (.c (.int .i64 0)))),(2,(.cst (.c (.int .i64 0))))],none,0⟩,
 ⟨(some 257),.call 16 true [(.tmp 255),(.tmp 256),(.cst (.c .nils))],none,1⟩,
 ⟨(some 254),.mov (.tmp 257),none,1⟩,
 ⟨(some 258),.extract 0 (.tmp 254),none,1⟩,
 ⟨(some 259),.extract 1 (.tmp 254),none,1⟩,
 ⟨(some 260),.extract 2 (.tmp 254),none,1⟩,
 ⟨(some 19),.mov (.tmp 258),none,1⟩,
 ⟨(some 20),.mov (.tmp 259),none,1⟩,
 ⟨(some 21),.mov (.tmp 260),none,1⟩])
 (.seq (.region 2 [] [
 ⟨(some 262),.call 13 true [(.cst (.c (.int .i64 10)))],none,0⟩,
 ⟨(some 263),.bslice 1 1 [(.int .i64 0)] [(0,(.cst (.c (.int .i64 0))))],none,0⟩,
 ⟨(some 264),.bslice 1 1 [(.int .i64 0)] [(0,(.cst (.c (.int .i64 1))))],none,1⟩,
 ⟨(some 265),.call 16 true [(.tmp 262),(.tmp 263),(.tmp 264)],none,2⟩,
 ⟨(some 261),.mov (.tmp 265),none,2⟩,
 ⟨(some 266),.extract 0 (.tmp 261),none,2⟩,
 ⟨(some 267),.extract 1 (.tmp 261),none,2⟩,
 ⟨(some 268),.extract 2 (.tmp 261),none,2⟩,
 ⟨(some 22),.mov (.tmp 266),none,2⟩,
 ⟨(some 23),.mov (.tmp 267),none,2⟩,
 ⟨(some 24),.mov (.tmp 268),none,2⟩])
 (.seq (.region 1 [] [
 ⟨(some 270),.call 13 true [(.cst (.c (.int .i64 8)))],none,0⟩,
 ⟨(some 271),.bslice 1 1 [(.int .i64 0)] [(0,(.cst (.c (.int .i64 1))))],none,0⟩,
 ⟨(some 272),.call 16 true [(.tmp 270),(.tmp 271),(.cst (.c .nils))],none,1⟩,
 ⟨(some 269),.mov (.tmp 272),none,1⟩,
 ⟨(some 273),.extract 0 (.tmp 269),none,1⟩,
 ⟨(some 274),.extract 1 (.tmp 269),none,1⟩,
 ⟨(some 275),.extract 2 (.tmp 269),none,1⟩,
 ⟨(some 25),.mov (.tmp 273),none,1⟩,
 ⟨(some 26),.mov (.tmp 274),none,1⟩,
 ⟨(some 27),.mov (.tmp 275),none,1⟩])
 (.seq (.region 8 [] [
 ⟨(some 276),.call 13 true [(.cst (.c (.int .i64 10)))],none,0⟩,
 ⟨(some 277),.call 13 true [(.cst (.c (.int .i64 10)))],none,0⟩,
 ⟨(some 278),.call 13 true [(.cst (.c (.int .i64 10)))],none,0⟩,
 ⟨(some 279),.call 13 true [(.cst (.c (.int .i64 10)))],none,0⟩,
 ⟨(some 280),.call 13 false [(.cst (.c (.int .i64 10)))],none,0⟩,
 ⟨(some 281),.call 13 true [(.cst (.c (.int .i64 10)))],none,0⟩,
 ⟨(some 282),.call 13 false [(.cst (.c (.int .i64 10)))],none,0⟩,
 ⟨(some 283),.call 13 true [(.cst (.c (.int .i64 10)))],none,0⟩,
 ⟨(some 28),.alloc [(.int .i64 0),(.int .i64 0),(.int .i64 0),(.int .i64 0),(.int .i64 0),.nils,.nils],none,0⟩,
 ⟨(some 29),.alloc [(.int .i64 0),(.int .i64 0),(.int .i64 0),(.int .i64 0),(.int .i64 0),.nils,.nils],none,1⟩,
 ⟨(some 30),.alloc [(.int .i64 0),(.int .i64 0),(.int .i64 0),(.int .i64 0),(.int .i64 0),.nils,.nils],none,2⟩,
 ⟨(some 31),.alloc [(.int .i64 0),(.int .i64 0),(.int .i64 0),(.int .i64 0),(.int .i64 0),.nils,.nils],none,3⟩,
 ⟨(some 32),.alloc [(.int .i64 0),(.int .i64 0),(.int .i64 0),(.int .i64 0),(.int .i64 0),.nils,.nils],none,4⟩,
 ⟨(some 33),.alloc [(.int .i64 0),(.int .i64 0),(.int .i64 0),(.int .i64 0),(.int .i64 0),.nils,.nils],none,5⟩,
 ⟨(some 34),.alloc [(.int .i64 0),(.int .i64 0),(.int .i64 0),(.int .i64 0),(.int .i64 0),.nils,.nils],none,6⟩,
 ⟨(some 35),.alloc [(.int .i64 0),(.int .i64 0),(.int .i64 0),(.int .i64 0),(.int .i64 0),.nils,.nils],none,7⟩,
 ⟨none,.store (some 7) (.tmp 28) (.tmp 276),none,8⟩,
 ⟨none,.store (some 7) (.tmp 29) (.tmp 277),none,8⟩,
 ⟨none,.store (some 7) (.tmp 30) (.tmp 278),none,8⟩,
 ⟨none,.store (some 7) (.tmp 31) (.tmp 279),none,8⟩,
 ⟨none,.store (some 7) (.tmp 32) (.tmp 280),none,8⟩,
 ⟨none,.store (some 7) (.tmp 33) (.tmp 281),none,8⟩,
 ⟨none,.store (some 7) (.tmp 34) (.tmp 282),none,8⟩,
 ⟨none,.store (some 7) (.tmp 35) (.tmp 283),none,8⟩])
 (.seq (.region 0 [] [
 ⟨(some 284),.faddr 0 (.tmp 28),none,0⟩,
 ⟨none,.store none (.tmp 284) (.cst (.c (.int .i64 5))),none,0⟩])
 (.seq (.region 0 [] [
 ⟨(some 285),.faddr 1 (.tmp 29),none,0⟩,
 ⟨none,.store none (.tmp 285) (.cst (.c (.int .i64 2))),none,0⟩])
 (.seq (.region 0 [] [
 ⟨(some 286),.faddr 3 (.tmp 30),none,0⟩,
 ⟨none,.store none (.tmp 286) (.cst (.c (.int .i64 4))),none,0⟩])
 (.seq (.region 0 [] [
 ⟨(some 287),.faddr 4 (.tmp 31),none,0⟩,
 ⟨none,.store none (.tmp 287) (.cst (.c (.int .i64 0))),none,0⟩])
 (.seq (.region 0 [] [
 ⟨(some 288),.faddr 5 (.tmp 32),none,0⟩,
 ⟨(some 289),.load none (.tmp 288),none,0⟩,
 ⟨(some 290),.iaddr 3 (.tmp 289) (.cst (.c (.int .i64 0))),none,0⟩,
 ⟨(some 291),.faddr 1 (.tmp 290),none,0⟩,
 ⟨none,.store none (.tmp 291) (.cst (.c (.int .i64 21))),none,0⟩])
 (.seq (.region 0 [] [
 ⟨(some 292),.faddr 6 (.tmp 33),none,0⟩,
 ⟨(some 293),.load none (.tmp 292),none,0⟩,
 ⟨(some 294),.slice 1 (.tmp 293) none (some (.cst (.c (.int .i64 1)))),none,0⟩,
 ⟨(some 295),.faddr 6 (.tmp 33),none,0⟩,
 ⟨none,.store none (.tmp 295) (.tmp 294),none,0⟩])
 (.seq (.region 0 [] [
 ⟨(some 296),.faddr 6 (.tmp 34),none,0⟩,
 ⟨(some 297),.load none (.tmp 296),none,0⟩,
 ⟨(some 298),.iaddr 1 (.tmp 297) (.cst (.c (.int .i64 1))),none,0⟩,
 ⟨(some 299),.load none (.tmp 298),none,0⟩,
 ⟨(some 300),.iaddr 1 (.tmp 299) (.cst (.c (.int .i64 1))),none,0⟩,
 ⟨none,.store none (.tmp 300) (.cst (.c (.int .i64 1))),none,0⟩])
 (.seq (.region 1 [] [
 ⟨(some 301),.mkslice 3 24 [(.int .i64 0),(.int .i64 0),(.int .i64 0)] (.cst (.c (.int .i64 5))),none,0⟩,
 ⟨(some 302),.faddr 5 (.tmp 35),none,1⟩,
 ⟨none,.store none (.tmp 302) (.tmp 301),none,1⟩])
 (.seq (.seq (.frz [32,34])
 (.region 0 [] [
 ⟨(some 303),.mov (.tmp 2),none,0⟩,
 ⟨(some 304),.bin .eql (.tmp 303) (.cst (.c (.int .i64 2))),none,0⟩,
 ⟨(some 305),.mov (.tmp 304),none,0⟩,
 ⟨(some 306),.mov (.tmp 4),some (305,true),0⟩,
 ⟨(some 307),.bin .eql (.tmp 306) (.cst (.c (.int .i64 2))),some (305,true),0⟩,
 ⟨(some 308),.pick (.tmp 305) (.tmp 307) (.cst (.c (.bool false))),none,0⟩,
 ⟨(some 309),.mov (.tmp 308),none,0⟩,
 ⟨(some 310),.mov (.tmp 7),some (309,true),0⟩,
 ⟨(some 311),.bin .eql (.tmp 310) (.cst (.c (.int .i64 9))),some (309,true),0⟩,
 ⟨(some 312),.pick (.tmp 309) (.tmp 311) (.cst (.c (.bool false))),none,0⟩,
 ⟨(some 313),.mov (.tmp 312),none,0⟩,
 ⟨(some 314),.mov (.tmp 10),some (313,true),0⟩,
 ⟨(some 315),.bin .eql (.tmp 314) (.cst (.c (.int .i64 9))),some (313,true),0⟩,
 ⟨(some 316),.pick (.tmp 313) (.tmp 315) (.cst (.c (.bool false))),none,0⟩,
 ⟨(some 317),.mov (.tmp 316),none,0⟩,
 ⟨(some 318),.mov (.tmp 12),some (317,true),0⟩,
 ⟨(some 319),.bin .eql (.tmp 318) (.cst (.c (.int .i64 10))),some (317,true),0⟩,
 ⟨(some 320),.pick (.tmp 317) (.tmp 319) (.cst (.c (.bool false))),none,0⟩,
 ⟨(some 321),.mov (.tmp 320),none,0⟩,
 ⟨(some 322),.mov (.tmp 15),some (321,true),0⟩,
 ⟨(some 323),.bin .eql (.tmp 322) (.cst (.c (.int .i64 10))),some (321,true),0⟩,
 ⟨(some 324),.pick (.tmp 321) (.tmp 323) (.cst (.c (.bool false))),none,0⟩,
 ⟨(some 325),.mov (.tmp 324),none,0⟩,
 ⟨(some 326),.mov (.tmp 18),some (325,true),0⟩,
 ⟨(some 327),.bin .eql (.tmp 326) (.cst (.c (.int .i64 2))),some (325,true),0⟩,
 ⟨(some 328),.pick (.tmp 325) (.tmp 327) (.cst (.c (.bool false))),none,0⟩,
 ⟨(some 329),.mov (.tmp 328),none,0⟩,
 ⟨(some 330),.mov (.tmp 21),some (329,true),0⟩,
 ⟨(some 331),.bin .eql (.tmp 330) (.cst (.c (.int .i64 2))),some (329,true),0⟩,
 ⟨(some 332),.pick (.tmp 329) (.tmp 331) (.cst (.c (.bool false))),none,0⟩,
 ⟨(some 333),.mov (.tmp 332),none,0⟩,
 ⟨(some 334),.mov (.tmp 24),some (333,true),0⟩,
 ⟨(some 335),.bin .eql (.tmp 334) (.cst (.c (.int .i64 2))),some (333,true),0⟩,
 ⟨(some 336),.pick (.tmp 333) (.tmp 335) (.cst (.c (.bool false))),none,0⟩,
 ⟨(some 337),.mov (.tmp 336),none,0⟩,
 ⟨(some 338),.mov (.tmp 27),some (337,true),0⟩,
 ⟨(some 339),.bin .eql (.tmp 338) (.cst (.c (.int .i64 9))),some (337,true),0⟩,
 ⟨(some 340),.pick (.tmp 337) (.tmp 339) (.cst (.c (.bool false))),none,0⟩,
 ⟨(some 341),.mov (.tmp 340),none,0⟩,
 ⟨(some 342),.load (some 7) (.tmp 28),some (341,true),0⟩,
 ⟨(some 343),.call 22 true [(.tmp 342)],some (341,true),0⟩,
 ⟨(some 344),.bin .eql (.tmp 343) (.cst (.c (.int .i64 3))),some (341,true),0⟩,
 ⟨(some 345),.pick (.tmp 341) (.tmp 344) (.cst (.c (.bool false))),none,0⟩,
 ⟨(some 346),.mov (.tmp 345),none,0⟩,
 ⟨(some 347),.load (some 7) (.tmp 29),some (346,true),0⟩,
 ⟨(some 348),.call 22 true [(.tmp 347)],some (346,true),0⟩,
 ⟨(some 349),.bin .eql (.tmp 348) (.cst (.c (.int .i64 1))),some (346,true),0⟩,
 ⟨(some 350),.pick (.tmp 346) (.tmp 349) (.cst (.c (.bool false))),none,0⟩,
 ⟨(some 351),.mov (.tmp 350),none,0⟩,
 ⟨(some 352),.load (some 7) (.tmp 30),some (351,true),0⟩,
 ⟨(some 353),.call 22 true [(.tmp 352)],some (351,true),0⟩,
 ⟨(some 354),.bin .eql (.tmp 353) (.cst (.c (.int .i64 1))),some (351,true),0⟩,
 ⟨(some 355),.pick (.tmp 351) (.tmp 354) (.cst (.c (.bool false))),none,0⟩,
 ⟨(some 356),.mov (.tmp 355),none,0⟩,
 ⟨(some 357),.load (some 7) (.tmp 31),some (356,true),0⟩,
 ⟨(some 358),.call 22 true [(.tmp 357)],some (356,true),0⟩,
 ⟨(some 359),.bin .eql (.tmp 358) (.cst (.c (.int .i64 1))),some (356,true),0⟩,
 ⟨(some 360),.pick (.tmp 356) (.tmp 359) (.cst (.c (.bool false))),none,0⟩,
 ⟨(some 361),.mov (.tmp 360),none,0⟩,
 ⟨(some 362),.load (some 7) (.tmp 32),some (361,true),0⟩,
 ⟨(some 363),.call 22 true [(.tmp 362)],some (361,true),0⟩,
 ⟨(some 364),.bin .eql (.tmp 363) (.cst (.c (.int .i64 1))),some (361,true),0⟩,
 ⟨(some 365),.pick (.tmp 361) (.tmp 364) (.cst (.c (.bool false))),none,0⟩,
 ⟨(some 366),.mov (.tmp 365),none,0⟩,
 ⟨(some 367),.load (some 7) (.tmp 33),some (366,true),0⟩,
 ⟨(some 368),.call 22 true [(.tmp 367)],some (366,true),0⟩,
 ⟨(some 369),.bin .eql (.tmp 368) (.cst (.c (.int .i64 1))),some (366,true),0⟩,
 ⟨(some 370),.pick (.tmp 366) (.tmp 369) (.cst (.c (.bool false))),none,0⟩,
 ⟨(some 371),.mov (.tmp 370),none,0⟩,
 ⟨(some 372),.load (some 7) (.tmp 34),some (371,true),0⟩,
 ⟨(some 373),.call 22 true [(.tmp 372)],some (371,true),0⟩,
 ⟨(some 374),.bin .eql (.tmp 373) (.cst (.c (.int .i64 1))),some (371,true),0⟩,
 ⟨(some 375),.pick (.tmp 371) (.tmp 374) (.cst (.c (.bool false))),none,0⟩,
 ⟨(some 376),.mov (.tmp 375),none,0⟩,
 ⟨(some 377),.load (some 7) (.tmp 35),some (376,true),0⟩,
 ⟨(some 378),.call 22 true [(.tmp 377)],some (376,true),0⟩,
 ⟨(some 379),.bin .eql (.tmp 378) (.cst (.c (.int .i64 3))),some (376,true),0⟩,
 ⟨(some 380),.pick (.tmp 376) (.tmp 379) (.cst (.c (.bool false))),none,0⟩,
 ⟨(some 381),.mov (.tmp 380),none,0⟩,
 ⟨(some 382),.build [(.int .i64 0),(.int .i64 0),(.int .i64 0),(.int .i64 0),(.int .i64 0),.nils,.nils] [],some (381,true),0⟩,
 ⟨(some 383),.call 22 true [(.tmp 382)],some (381,true),0⟩,
 ⟨(some 384),.bin .eql (.tmp 383) (.cst (.c (.int .i64 1))),some (381,true),0⟩,
 ⟨(some 385),.pick (.tmp 381) (.tmp 384) (.cst (.c (.bool false))),none,0⟩,
 ⟨(some 386),.mov (.tmp 385),none,0⟩,
 ⟨(some 387),.call 6 true [],some (386,true),0⟩,
 ⟨(some 388),.pick (.tmp 386) (.tmp 387) (.cst (.c (.bool false))),none,0⟩,
 ⟨(some 0),.mov (.tmp 388),none,0⟩]))
 .ret)))))))))))))))))))))))))))))⟩
def f6 : AFunc:=⟨137,[.tmp 0],false,
 (.seq (.region 0 [] [
 ⟨(some 0),.mov (.cst (.c (.bool false))),none,0⟩])
 (.seq (.region 2 [] [
 ⟨(some 19),.call 13 true [(.cst (.c (.int .i64 10)))],none,0⟩,
 ⟨(some 20),.bslice 1 3 [(.int .i64 0)] [(0,(.cst (.c (.int .i64 0)))),(1,(.cst (.c (.int .i64 0)))),(2,(.cst (.c (.int .i64 1))))],none,0⟩,
 ⟨(some 21),.bslice 1 1 [(.int .i64 0)] [(0,(.cst (.c (.int .i64 2))))],none,1⟩,
 ⟨(some 22),.call 10 true [(.tmp 19),(.tmp 20),(.tmp 21)],none,2⟩,
 ⟨(some 18),.mov (.tmp 22),none,2⟩,
 ⟨(some 23),.extract 0 (.tmp 18),none,2⟩,
 ⟨(some 24),.extract 1 (.tmp 18),none,2⟩,
 ⟨(some 1),.mov (.tmp 23),none,2⟩,
 ⟨(some 2),.mov (.tmp 24),none,2⟩])
 (.seq (.region 1 [] [
 ⟨(some 26),.call 13 true [(.cst (.c (.int .i64 10)))],none,0⟩,
 ⟨(some 27),.bslice 1 3 [(.int .i64 0)] [(0,(.cst (.c (.int .i64 0)))),(1,(.cst (.c (.int .i64 1)))),(2,(.cst (.c (.int .i64 0))))],none,0⟩,
 ⟨(some 28),.call 14 true [(.tmp 26),(.tmp 27)],none,1⟩,
 ⟨(some 25),.mov (.tmp 28),none,1⟩,
 ⟨(some 29),.extract 0 (.tmp 25),none,1⟩,
 ⟨(some 30),.extract 1 (.tmp 25),none,1⟩,
 ⟨(some 31),.extract 2 (.tmp 25),none,1⟩,
 ⟨(some 3),.mov (.tmp 29),none,1⟩,
 ⟨(some 4),.mov (.tmp 30),none,1⟩,
 ⟨(some 5),.mov (.tmp 31),none,1⟩])
 (.seq (.region 0 [] [
 ⟨(some 33),.call 13 true [(.cst (.c (.int .i64 10)))],none,0⟩,
 ⟨(some 34),.call 20 true [(.tmp 33)],none,0⟩,
 ⟨(some 32),.mov (.tmp 34),none,0⟩,
 ⟨(some 35),.extract 0 (.tmp 32),none,0⟩,
 ⟨(some 36),.extract 1 (.tmp 32),none,0⟩,
 ⟨(some 37),.extract 2 (.tmp 32),none,0⟩,
 ⟨(some 6),.mov (.tmp 35),none,0⟩,
 ⟨(some 7),.mov (.tmp 36),none,0⟩,
 ⟨(some 8),.mov (.tmp 37),none,0⟩])
 (.seq (.region 0 [] [
 ⟨(some 39),.call 13 true [(.cst (.c (.int .i64 10)))],none,0⟩,
 ⟨(some 40),.call 21 true [(.tmp 39)],none,0⟩,
 ⟨(some 38),.mov (.tmp 40),none,0⟩,
 ⟨(some 41),.extract 0 (.tmp 38),none,0⟩,
 ⟨(some 42),.extract 1 (.tmp 38),none,0⟩,
 ⟨(some 9),.mov (.tmp 41),none,0⟩,
 ⟨(some 10),.mov (.tmp 42),none,0⟩])
 (.seq (.region 0 [] [
 ⟨(some 44),.call 13 true [(.cst (.c (.int .i64 10)))],none,0⟩,
 ⟨(some 45),.call 25 true [(.tmp 44)],none,0⟩,
 ⟨(some 43),.mov (.tmp 45),none,0⟩,
 ⟨(some 46),.extract 0 (.tmp 43),none,0⟩,
 ⟨(some 47),.extract 1 (.tmp 43),none,0⟩,
 ⟨(some 11),.mov (.tmp 46),none,0⟩,
 ⟨(some 12),.mov (.tmp 47),none,0⟩])
 (.seq (.region 0 [] [
 ⟨(some 49),.call 13 true [(.cst (.c (.int .i64 10)))],none,0⟩,
 ⟨(some 50),.call 15 true [(.tmp 49),(.cst (.c (.int .i64 0)))],none,0⟩,
 ⟨(some 48),.mov (.tmp 50),none,0⟩,
 ⟨(some 51),.extract 0 (.tmp 48),none,0⟩,
 ⟨(some 52),.extract 1 (.tmp 48),none,0⟩,
 ⟨(some 13),.mov (.tmp 51),none,0⟩,
 ⟨(some 14),.mov (.tmp 52),none,0⟩])
 (.seq (.region 2 [] [
 ⟨(some 54),.call 13 true [(.cst (.c (.int .i64 10)))],none,0⟩,
 ⟨(some 55),.bslice 1 1 [(.int .i64 0)] [(0,(.cst (.c (.int .i64 0))))],none,0⟩,
 ⟨(some 56),.bslice 1 1 [(.int .i64 0)] [(0,(.cst (.c (.int .i64 0))))],none,1⟩,
 ⟨(some 57),.call 16 true [(.tmp 54),(.tmp 55),(.tmp 56)],none,2⟩,
 ⟨(some 53),.mov (.tmp 57),none,2⟩,
 ⟨(some 58),.extract 0 (.tmp 53),none,2⟩,
 ⟨(some 59),.extract 1 (.tmp 53),none,2⟩,
 ⟨(some 60),.extract 2 (.tmp 53),none,2⟩,
 ⟨(some 15),.mov (.tmp 58),none,2⟩,
 ⟨(some 16),.mov (.tmp 59),none,2⟩,
 ⟨(some 17),.mov (.tmp 60),none,2⟩])
 (.seq (.region 2 [(8,11),(9,11),(10,11),(23,24),(32,33)] [
 ⟨(some 61),.mov (.tmp 2),none,0⟩,
 ⟨(some 62),.bin .eql (.tmp 61) (.cst (.c (.int .i64 0))),none,0⟩,
 ⟨(some 63),.mov (.tmp 62),none,0⟩,
 ⟨(some 64),.mov (.tmp 1),some (63,true),0⟩,
 ⟨(some 65),.len (.tmp 64),some (63,true),0⟩,
 ⟨(some 66),.bin .eql (.tmp 65) (.cst (.c (.int .i64 3))),some (63,true),0⟩,
 ⟨(some 67),.pick (.tmp 63) (.tmp 66) (.cst (.c (.bool false))),none,0⟩,
 ⟨(some 68),.mov (.tmp 67),none,0⟩,
 ⟨(some 69),.mov (.tmp 1),some (68,true),0⟩,
 ⟨(some 70),.iaddr 3 (.tmp 69) (.cst (.c (.int .i64 2))),some (68,true),0⟩,
 ⟨(some 71),.load (some 3) (.tmp 70),some (68,true),0⟩,
 ⟨(some 72),.call 17 true [(.cst (.c (.int .i64 15))),(.cst (.c (.int .i64 9))),(.cst (.c (.int .i64 44)))],some (68,true),0⟩,
 ⟨(some 73),.eqA false [(some .i64),(some .i64),(some .i64)] (.tmp 71) (.tmp 72),some (68,true),0⟩,
 ⟨(some 74),.pick (.tmp 68) (.tmp 73) (.cst (.c (.bool false))),none,0⟩,
 ⟨(some 75),.mov (.tmp 74),none,0⟩,
 ⟨(some 76),.mov (.tmp 5),some (75,true),0⟩,
 ⟨(some 77),.bin .eql (.tmp 76) (.cst (.c (.int .i64 0))),some (75,true),0⟩,
 ⟨(some 78),.pick (.tmp 75) (.tmp 77) (.cst (.c (.bool false))),none,0⟩,
 ⟨(some 79),.mov (.tmp 78),none,0⟩,
 ⟨(some 80),.mov (.tmp 3),some (79,true),0⟩,
 ⟨(some 81),.bin .eql (.tmp 80) (.cst (.c (.int .i64 29))),some (79,true),0⟩,
 ⟨(some 82),.pick (.tmp 79) (.tmp 81) (.cst (.c (.bool false))),none,0⟩,
 ⟨(some 83),.mov (.tmp 82),none,0⟩,
 ⟨(some 84),.mov (.tmp 4),some (83,true),0⟩,
 ⟨(some 85),.bslice 1 1 [(.int .i64 0)] [(0,(.cst (.c (.int .i64 1))))],some (83,true),0⟩,
 ⟨(some 86),.call 18 true [(.tmp 84),(.tmp 85)],some (83,true),1⟩,
 ⟨(some 87),.pick (.tmp 83) (.tmp 86) (.cst (.c (.bool false))),none,1⟩,
 ⟨(some 88),.mov (.tmp 87),none,1⟩,
 ⟨(some 89),.mov (.tmp 8),some (88,true),1⟩,
 ⟨(some 90),.bin .eql (.tmp 89) (.cst (.c (.int .i64 0))),some (88,true),1⟩,
 ⟨(some 91),.pick (.tmp 88) (.tmp 90) (.cst (.c (.bool false))),none,1⟩,
 ⟨(some 92),.mov (.tmp 91),none,1⟩,
 ⟨(some 93),.mov (.tmp 6),some (92,true),1⟩,
 ⟨(some 94),.bslice 1 3 [(.int .i64 0)] [(0,(.cst (.c (.int .i64 0)))),(1,(.cst (.c (.int .i64 0)))),(2,(.cst (.c (.int .i64 1))))],some (92,true),1⟩,
 ⟨(some 95),.call 18 true [(.tmp 93),(.tmp 94)],some (92,true),2⟩,
 ⟨(some 96),.pick (.tmp 92) (.tmp 95) (.cst (.c (.bool false))),none,2⟩,
 ⟨(some 97),.mov (.tmp 96),none,2⟩,
 ⟨(some 98),.mov (.tmp 7),some (97,true),2⟩,
 ⟨(some 99),.bin .eql (.tmp 98) (.cst (.c (.int .i64 34))),some (97,true),2⟩,
 ⟨(some 100),.pick (.tmp 97) (.tmp 99) (.cst (.c (.bool false))),none,2⟩,
 ⟨(some 101),.mov (.tmp 100),none,2⟩,
 ⟨(some 102),.mov (.tmp 10),some (101,true),2⟩,
 ⟨(some 103),.bin .eql (.tmp 102) (.cst (.c (.int .i64 0))),some (101,true),2⟩,
 ⟨(some 104),.pick (.tmp 101) (.tmp 103) (.cst (.c (.bool false))),none,2⟩,
 ⟨(some 105),.mov (.tmp 104),none,2⟩,
 ⟨(some 106),.mov (.tmp 9),some (105,true),2⟩,
 ⟨(some 107),.bin .eql (.tmp 106) (.cst (.c (.int .i64 34))),some (105,true),2⟩,
 ⟨(some 108),.pick (.tmp 105) (.tmp 107) (.cst (.c (.bool false))),none,2⟩,
 ⟨(some 109),.mov (.tmp 108),none,2⟩,
 ⟨(some 110),.mov (.tmp 12),some (109,true),2⟩,
 ⟨(some 111),.bin .eql (.tmp 110) (.cst (.c (.int .i64 0))),some (109,true),2⟩,
 ⟨(some 112),.pick (.tmp 109) (.tmp 111) (.cst (.c (.bool false))),none,2⟩,
 ⟨(some 113),.mov (.tmp 112),none,2⟩,
 ⟨(some 114),.mov (.tmp 11),some (113,true),2⟩,
 ⟨(some 115),.bin .eql (.tmp 114) (.cst (.c (.int .i64 2))),some (113,true),2⟩,
 ⟨(some 116),.pick (.tmp 113) (.tmp 115) (.cst (.c (.bool false))),none,2⟩,
 ⟨(some 117),.mov (.tmp 116),none,2⟩,
 ⟨(some 118),.mov (.tmp 14),some (117,true),2⟩,
 ⟨(some 119),.bin .eql (.tmp 118) (.cst (.c (.int .i64 0))),some (117,true),2⟩,
 ⟨(some 120),.pick (.tmp 117) (.tmp 119) (.cst (.c (.bool false))),none,2⟩,
 ⟨(some 121),.mov (.tmp 120),none,2⟩,
 ⟨(some 122),.mov (.tmp 13),some (121,true),2⟩,
 ⟨(some 123),.bin .eql (.tmp 122) (.cst (.c (.int .i64 26))),some (121,true),2⟩,
 ⟨(some 124),.pick (.tmp 121) (.tmp 123) (.cst (.c (.bool false))),none,2⟩,
 ⟨(some 125),.mov (.tmp 124),none,2⟩,
 ⟨(some 126),.mov (.tmp 17),some (125,true),2⟩,
 ⟨(some 127),.bin .eql (.tmp 126) (.cst (.c (.int .i64 0))),some (125,true),2⟩,
 ⟨(some 128),.pick (.tmp 125) (.tmp 127) (.cst (.c (.bool false))),none,2⟩,
 ⟨(some 129),.mov (.tmp 128),none,2⟩,
 ⟨(some 130),.mov (.tmp 15),some (129,true),2⟩,
 ⟨(some 131),.bin .eql (.tmp 130) (.cst (.c (.int .i64 0))),some (129,true),2⟩,
 ⟨(some 132),.pick (.tmp 129) (.tmp 131) (.cst (.c (.bool false))),none,2⟩,
 ⟨(some 133),.mov (.tmp 132),none,2⟩,
 ⟨(some 134),.mov (.tmp 16),some (133,true),2⟩,
 ⟨(some 135),.bin .eql (.tmp 134) (.cst (.c (.int .i64 39))),some (133,true),2⟩,
 ⟨(some 136),.pick (.tmp 133) (.tmp 135) (.cst (.c (.bool false))),none,2⟩,
 ⟨(some 0),.mov (.tmp 136),none,2⟩])
 .ret)))))))))⟩
def f10 : AFunc:=⟨41,[.tmp 6,.tmp 7],false,
 (.seq (.region 1 [] [
 ⟨(some 3),.box (.tmp 0),none,0⟩,
 ⟨(some 6),.mov (.cst (.c .nils)),none,1⟩,
 ⟨(some 7),.mov (.cst (.c (.int .i64 0))),none,1⟩])
 (.seq (.seq (.region 0 [] [
 ⟨(some 12),.load (some 7) (.tmp 3),none,0⟩,
 ⟨(some 13),.call 22 true [(.tmp 12)],none,0⟩,
 ⟨(some 8),.mov (.tmp 13),none,0⟩])
 (.seq (.region 0 [] [
 ⟨(some 14),.mov (.tmp 8),none,0⟩,
 ⟨(some 15),.bin .neq (.tmp 14) (.cst (.c (.int .i64 0))),none,0⟩])
 (.cond (.tmp 15)
 (.seq (.region 0 [] [
 ⟨(some 16),.mov (.tmp 8),none,0⟩,
 ⟨(some 6),.mov (.cst (.c .nils)),none,0⟩,
 ⟨(some 7),.mov (.tmp 16),none,0⟩])
 .ret)
 .skip)))
 (.seq (.seq (.region 0 [] [
 ⟨(some 17),.load (some 7) (.tmp 3),none,0⟩,
 ⟨(some 18),.mov (.tmp 1),none,0⟩,
 ⟨(some 19),.call 29 true [(.tmp 17),(.tmp 18)],none,0⟩,
 ⟨(some 20),.not (.tmp 19),none,0⟩,
 ⟨(some 21),.mov (.tmp 20),none,0⟩,
 ⟨(some 22),.load (some 7) (.tmp 3),some (21,false),0⟩,
 ⟨(some 23),.mov (.tmp 2),some (21,false),0⟩,
 ⟨(some 24),.faddr 0 (.tmp 3),some (21,false),0⟩,
 ⟨(some 25),.load none (.tmp 24),some (21,false),0⟩,
 ⟨(some 26),.bin .add (.tmp 25) (.cst (.c (.int .i64 1))),some (21,false),0⟩,
 ⟨(some 27),.call 30 true [(.tmp 22),(.tmp 23),(.tmp 26)],some (21,false),0⟩,
 ⟨(some 28),.not (.tmp 27),some (21,false),0⟩,
 ⟨(some 29),.pick (.tmp 21) (.cst (.c (.bool true))) (.tmp 28),none,0⟩])
 (.cond (.tmp 29)
 (.seq (.region 0 [] [
 ⟨(some 6),.mov (.cst (.c .nils)),none,0⟩,
 ⟨(some 7),.mov (.cst (.c (.int .i64 2))),none,0⟩])
 .ret)
 .skip))
 (.seq (.region 1 [] [
 ⟨(some 31),.load (some 7) (.tmp 3),none,0⟩,
 ⟨(some 32),.mov (.tmp 1),none,0⟩,
 ⟨(some 33),.mov (.tmp 2),none,0⟩,
 ⟨(some 34),.call 31 true [(.tmp 31),(.tmp 32),(.tmp 33)],none,0⟩,
 ⟨(some 30),.mov (.tmp 34),none,0⟩,
 ⟨(some 35),.extract 0 (.tmp 30),none,0⟩,
 ⟨(some 36),.extract 1 (.tmp 30),none,0⟩,
 ⟨(some 37),.extract 2 (.tmp 30),none,0⟩,
 ⟨(some 10),.alloc [(.int .i64 0),(.int .i64 0),(.int .i64 0),(.int .i64 0),(.int .i64 0),(.int .i64 0),(.int .i64 0),(.int .i64 0),(.int .i64 0),(.int .i64 0),(.int .i64 0)],none,0⟩,
 ⟨(some 9),.mov (.tmp 35),none,1⟩,
 ⟨none,.store (some 11) (.tmp 10) (.tmp 36),none,1⟩,
 ⟨(some 11),.mov (.tmp 37),none,1⟩])
 (.seq (.seq (.region 0 [] [
 ⟨(some 38),.mov (.tmp 11),none,0⟩,
 ⟨(some 39),.not (.tmp 38),none,0⟩])
 (.cond (.tmp 39)
 (.seq (.region 0 [] [
 ⟨(some 6),.mov (.cst (.c .nils)),none,0⟩,
 ⟨(some 7),.mov (.cst (.c (.int .i64 9))),none,0⟩])
 .ret)
 .skip))
 (.seq (.region 0 [] [
 ⟨(some 40),.mov (.tmp 9),none,0⟩,
 ⟨(some 6),.mov (.tmp 40),none,0⟩,
 ⟨(some 7),.mov (.cst (.c (.int .i64 0))),none,0⟩])
 .ret))))))⟩
def f13 : AFunc:=⟨11,[.cell 2 (some 7)],false,
 (.seq (.region 1 [] [
 ⟨(some 2),.alloc [(.int .i64 0),(.int .i64 0),(.int .i64 0),(.int .i64 0),(.int .i64 0),.nils,.nils],none,0⟩])
 (.seq (.region 3 [] [
 ⟨(some 3),.mov (.tmp 0),none,0⟩,
 ⟨(some 4),.build [(.int .i64 0),(.int .i64 0),(.int .i64 0)] [(0,1,(.cst (.c (.int .i64 20)))),(1,1,(.cst (.c (.int .i64 12)))),(2,1,(.cst (.c (.int .i64 2))))],none,0⟩,
 ⟨(some 5),.build [(.int .i64 0),(.int .i64 0),(.int .i64 0)] [(0,1,(.cst (.c (.int .i64 30)))),(1,1,(.cst (.c (.int .i64 10)))),(2,1,(.cst (.c (.int .i64 4))))],none,0⟩,
 ⟨(some 6),.bslice 3 2 [(.int .i64 0),(.int .i64 0),(.int .i64 0)] [(0,(.tmp 4)),(1,(.tmp 5))],none,0⟩,
 ⟨(some 7),.bslice 1 2 [(.int .i64 0)] [(0,(.cst (.c (.int .i64 0)))),(1,(.cst (.c (.int .i64 5))))],none,1⟩,
 ⟨(some 8),.bslice 1 2 [(.int .i64 0)] [(0,(.cst (.c (.int .i64 5)))),(1,(.cst (.c (.int .i64 0))))],none,2⟩,
 ⟨(some 9),.blistc [.nils,.nils] [(0,1,(.tmp 7)),(1,1,(.tmp 8))],none,3⟩,
 ⟨(some 10),.build [(.int .i64 0),(.int .i64 0),(.int .i64 0),(.int .i64 0),(.int .i64 0),.nils,.nils] [(0,1,(.cst (.c (.int .i64 2)))),(2,1,(.tmp 3)),(3,1,(.cst (.c (.int .i64 1)))),(4,1,(.cst (.c (.int .i64 2)))),(5,1,(.tmp 6)),(6,1,(.tmp 9))],none,3⟩,
 ⟨none,.store (some 7) (.tmp 2) (.tmp 10),none,3⟩])
 .ret))⟩
def f14 : AFunc:=⟨29,[.tmp 4,.tmp 5,.tmp 6],false,
 (.seq (.region 1 [] [
 ⟨(some 2),.box (.tmp 0),none,0⟩,
 ⟨(some 4),.mov (.cst (.c (.int .i64 0))),none,1⟩,
 ⟨(some 5),.mov (.cst (.c .nils)),none,1⟩,
 ⟨(some 6),.mov (.cst (.c (.int .i64 0))),none,1⟩])
 (.seq (.seq (.region 0 [] [
 ⟨(some 9),.load (some 7) (.tmp 2),none,0⟩,
 ⟨(some 10),.call 22 true [(.tmp 9)],none,0⟩,
 ⟨(some 7),.mov (.tmp 10),none,0⟩])
 (.seq (.region 0 [] [
 ⟨(some 11),.mov (.tmp 7),none,0⟩,
 ⟨(some 12),.bin .neq (.tmp 11) (.cst (.c (.int .i64 0))),none,0⟩])
 (.cond (.tmp 12)
 (.seq (.region 0 [] [
 ⟨(some 13),.mov (.tmp 7),none,0⟩,
 ⟨(some 4),.mov (.cst (.c (.int .i64 0))),none,0⟩,
 ⟨(some 5),.mov (.cst (.c .nils)),none,0⟩,
 ⟨(some 6),.mov (.tmp 13),none,0⟩])
 .ret)
 .skip)))
 (.seq (.seq (.region 0 [] [
 ⟨(some 14),.load (some 7) (.tmp 2),none,0⟩,
 ⟨(some 15),.mov (.tmp 1),none,0⟩,
 ⟨(some 16),.call 29 true [(.tmp 14),(.tmp 15)],none,0⟩,
 ⟨(some 17),.not (.tmp 16),none,0⟩])
 (.cond (.tmp 17)
 (.seq (.region 0 [] [
 ⟨(some 4),.mov (.cst (.c (.int .i64 0))),none,0⟩,
 ⟨(some 5),.mov (.cst (.c .nils)),none,0⟩,
 ⟨(some 6),.mov (.cst (.c (.int .i64 2))),none,0⟩])
 .ret)
 .skip))
 (.seq (.region 0 [] [
 ⟨(some 19),.load (some 7) (.tmp 2),none,0⟩,
 ⟨(some 20),.mov (.tmp 1),none,0⟩,
 ⟨(some 21),.call 32 true [(.tmp 19),(.tmp 20)],none,0⟩,
 ⟨(some 18),.mov (.tmp 21),none,0⟩,
 ⟨(some 22),.extract 0 (.tmp 18),none,0⟩,
 ⟨(some 23),.extract 1 (.tmp 18),none,0⟩,
 ⟨(some 24),.extract 2 (.tmp 18),none,0⟩,
 ⟨(some 4),.mov (.tmp 22),none,0⟩,
 ⟨(some 5),.mov (.tmp 23),none,0⟩,
 ⟨(some 8),.mov (.tmp 24),none,0⟩])
 (.seq (.seq (.region 0 [] [
 ⟨(some 25),.mov (.tmp 8),none,0⟩,
 ⟨(some 26),.not (.tmp 25),none,0⟩])
 (.cond (.tmp 26)
 (.seq (.region 0 [] [
 ⟨(some 4),.mov (.cst (.c (.int .i64 0))),none,0⟩,
 ⟨(some 5),.mov (.cst (.c .nils)),none,0⟩,
 ⟨(some 6),.mov (.cst (.c (.int .i64 9))),none,0⟩])
 .ret)
 .skip))
 (.seq (.region 0 [] [
 ⟨(some 27),.mov (.tmp 4),none,0⟩,
 ⟨(some 28),.mov (.tmp 5),none,0⟩,
 ⟨(some 4),.mov (.tmp 27),none,0⟩,
 ⟨(some 5),.mov (.tmp 28),none,0⟩,
 ⟨(some 6),.mov (.cst (.c (.int .i64 0))),none,0⟩])
 .ret))))))⟩
def f15 : AFunc:=⟨40,[.tmp 4,.tmp 5],false,
 (.seq (.region 1 [] [
 ⟨(some 2),.box (.tmp 0),none,0⟩,
 ⟨(some 4),.mov (.cst (.c (.int .i64 0))),none,1⟩,
 ⟨(some 5),.mov (.cst (.c (.int .i64 0))),none,1⟩])
 (.seq (.seq (.region 0 [] [
 ⟨(some 13),.load (some 7) (.tmp 2),none,0⟩,
 ⟨(some 14),.call 22 true [(.tmp 13)],none,0⟩,
 ⟨(some 6),.mov (.tmp 14),none,0⟩])
 (.seq (.region 0 [] [
 ⟨(some 15),.mov (.tmp 6),none,0⟩,
 ⟨(some 16),.bin .neq (.tmp 15) (.cst (.c (.int .i64 0))),none,0⟩])
 (.cond (.tmp 16)
 (.seq (.region 0 [] [
 ⟨(some 17),.mov (.tmp 6),none,0⟩,
 ⟨(some 4),.mov (.cst (.c (.int .i64 0))),none,0⟩,
 ⟨(some 5),.mov (.tmp 17),none,0⟩])
 .ret)
 .skip)))
 (.seq (.seq (.region 0 [] [
 ⟨(some 18),.load (some 7) (.tmp 2),none,0⟩,
 ⟨(some 19),.mov (.tmp 1),none,0⟩,
 ⟨(some 20),.call 33 true [(.tmp 18),(.tmp 19)],none,0⟩,
 ⟨(some 21),.not (.tmp 20),none,0⟩])
 (.cond (.tmp 21)
 (.seq (.region 0 [] [
 ⟨(some 4),.mov (.cst (.c (.int .i64 0))),none,0⟩,
 ⟨(some 5),.mov (.cst (.c (.int .i64 2))),none,0⟩])
 .ret)
 .skip))
 (.seq (.region 0 [] [
 ⟨(some 23),.load (some 7) (.tmp 2),none,0⟩,
 ⟨(some 24),.mov (.tmp 1),none,0⟩,
 ⟨(some 25),.call 34 true [(.tmp 23),(.tmp 24)],none,0⟩,
 ⟨(some 22),.mov (.tmp 25),none,0⟩,
 ⟨(some 26),.extract 0 (.tmp 22),none,0⟩,
 ⟨(some 27),.extract 1 (.tmp 22),none,0⟩,
 ⟨(some 28),.extract 2 (.tmp 22),none,0⟩,
 ⟨(some 7),.mov (.tmp 26),none,0⟩,
 ⟨(some 8),.mov (.tmp 27),none,0⟩,
 ⟨(some 9),.mov (.tmp 28),none,0⟩])
 (.seq (.seq (.region 0 [] [
 ⟨(some 29),.mov (.tmp 9),none,0⟩,
 ⟨(some 30),.not (.tmp 29),none,0⟩])
 (.cond (.tmp 30)
 (.seq (.region 0 [] [
 ⟨(some 4),.mov (.cst (.c (.int .i64 0))),none,0⟩,
 ⟨(some 5),.mov (.cst (.c (.int .i64 10))),none,0⟩])
 .ret)
 .skip))
 (.seq (.region 0 [] [
 ⟨(some 32),.load (some 7) (.tmp 2),none,0⟩,
 ⟨(some 33),.call 34 true [(.tmp 32),(.cst (.c (.int .i64 (-1))))],none,0⟩,
 ⟨(some 31),.mov (.tmp 33),none,0⟩,
 ⟨(some 34),.extract 0 (.tmp 31),none,0⟩,
 ⟨(some 35),.extract 1 (.tmp 31),none,0⟩,
 ⟨(some 36),.extract 2 (.tmp 31),none,0⟩,
 ⟨(some 10),.mov (.tmp 34),none,0⟩,
 ⟨(some 11),.mov (.tmp 35),none,0⟩,
 ⟨(some 12),.mov (.tmp 36),none,0⟩])
 (.seq (.region 0 [] [
 ⟨(some 37),.mov (.tmp 11),none,0⟩,
 ⟨(some 38),.mov (.tmp 8),none,0⟩,
 ⟨(some 39),.bin .sub (.tmp 37) (.tmp 38),none,0⟩,
 ⟨(some 4),.mov (.tmp 39),none,0⟩,
 ⟨(some 5),.mov (.cst (.c (.int .i64 0))),none,0⟩])
 .ret)))))))⟩
def f16 : AFunc:=⟨73,[.tmp 6,.tmp 7,.tmp 8],false,
 (.seq (.region 1 [] [
 ⟨(some 3),.box (.tmp 0),none,0⟩,
 ⟨(some 6),.mov (.cst (.c (.int .i64 0))),none,1⟩,
 ⟨(some 7),.mov (.cst (.c (.int .i64 0))),none,1⟩,
 ⟨(some 8),.mov (.cst (.c (.int .i64 0))),none,1⟩])
 (.seq (.seq (.region 0 [] [
 ⟨(some 15),.load (some 7) (.tmp 3),none,0⟩,
 ⟨(some 16),.call 22 true [(.tmp 15)],none,0⟩,
 ⟨(some 9),.mov (.tmp 16),none,0⟩])
 (.seq (.region 0 [] [
 ⟨(some 17),.mov (.tmp 9),none,0⟩,
 ⟨(some 18),.bin .neq (.tmp 17) (.cst (.c (.int .i64 0))),none,0⟩])
 (.cond (.tmp 18)
 (.seq (.region 0 [] [
 ⟨(some 19),.mov (.tmp 9),none,0⟩,
 ⟨(some 6),.mov (.cst (.c (.int .i64 0))),none,0⟩,
 ⟨(some 7),.mov (.cst (.c (.int .i64 0))),none,0⟩,
 ⟨(some 8),.mov (.tmp 19),none,0⟩])
 .ret)
 .skip)))
 (.seq (.region 0 [] [
 ⟨(some 20),.load (some 7) (.tmp 3),none,0⟩,
 ⟨(some 21),.mkfn 33 (some (.tmp 20)) [],none,0⟩,
 ⟨(some 10),.mov (.tmp 21),none,0⟩])
 (.seq (.seq (.region 0 [] [
 ⟨(some 22),.mov (.tmp 1),none,0⟩,
 ⟨(some 23),.len (.tmp 22),none,0⟩,
 ⟨(some 24),.faddr 0 (.tmp 3),none,0⟩,
 ⟨(some 25),.load none (.tmp 24),none,0⟩,
 ⟨(some 26),.bin .gtr (.tmp 23) (.tmp 25),none,0⟩,
 ⟨(some 27),.mov (.tmp 26),none,0⟩,
 ⟨(some 28),.mov (.tmp 1),some (27,false),0⟩,
 ⟨(some 29),.mov (.tmp 10),some (27,false),0⟩,
 ⟨(some 30),.call 35 false [(.tmp 28),(.tmp 29)],some (27,false),0⟩,
 ⟨(some 31),.not (.tmp 30),some (27,false),0⟩,
 ⟨(some 32),.pick (.tmp 27) (.cst (.c (.bool true))) (.tmp 31),none,0⟩,
 ⟨(some 33),.mov (.tmp 32),none,0⟩,
 ⟨(some 34),.load (some 7) (.tmp 3),some (33,false),0⟩,
 ⟨(some 35),.mov (.tmp 2),some (33,false),0⟩,
 ⟨(some 36),.mov (.tmp 1),some (33,false),0⟩,
 ⟨(some 37),.len (.tmp 36),some (33,false),0⟩,
 ⟨(some 38),.call 30 true [(.tmp 34),(.tmp 35),(.tmp 37)],some (33,false),0⟩,
 ⟨(some 39),.not (.tmp 38),some (33,false),0⟩,
 ⟨(some 40),.pick (.tmp 33) (.cst (.c (.bool true))) (.tmp 39),none,0⟩])
 (.cond (.tmp 40)
 (.seq (.region 0 [] [
 ⟨(some 6),.mov (.cst (.c (.int .i64 0))),none,0⟩,
 ⟨(some 7),.mov (.cst (.c (.int .i64 0))),none,0⟩,
 ⟨(some 8),.mov (.cst (.c (.int .i64 2))),none,0⟩])
 .ret)
 .skip))
 (.seq (.region 1 [] [
 ⟨(some 42),.load (some 7) (.tmp 3),none,0⟩,
 ⟨(some 43),.mov (.tmp 1),none,0⟩,
 ⟨(some 44),.mov (.tmp 2),none,0⟩,
 ⟨(some 45),.call 31 true [(.tmp 42),(.tmp 43),(.tmp 44)],none,0⟩,
 ⟨(some 41),.mov (.tmp 45),none,0⟩,
 ⟨(some 46),.extract 0 (.tmp 41),none,0⟩,
 ⟨(some 47),.extract 1 (.tmp 41),none,0⟩,
 ⟨(some 48),.extract 2 (.tmp 41),none,0⟩,
 ⟨(some 12),.alloc [(.int .i64 0),(.int .i64 0),(.int .i64 0),(.int .i64 0),(.int .i64 0),(.int .i64 0),(.int .i64 0),(.int .i64 0),(.int .i64 0),(.int .i64 0),(.int .i64 0)],none,0⟩,
 ⟨(some 11),.mov (.tmp 46),none,1⟩,
 ⟨none,.store (some 11) (.tmp 12) (.tmp 47),none,1⟩,
 ⟨(some 13),.mov (.tmp 48),none,1⟩])
 (.seq (.seq (.region 0 [] [
 ⟨(some 49),.mov (.tmp 13),none,0⟩,
 ⟨(some 50),.not (.tmp 49),none,0⟩])
 (.cond (.tmp 50)
 (.seq (.region 0 [] [
 ⟨(some 6),.mov (.cst (.c (.int .i64 0))),none,0⟩,
 ⟨(some 7),.mov (.cst (.c (.int .i64 0))),none,0⟩,
 ⟨(some 8),.mov (.cst (.c (.int .i64 9))),none,0⟩])
 .ret)
 .skip))
 (.seq (.region 3 [] [
 ⟨(some 51),.load (some 7) (.tmp 3),none,0⟩,
 ⟨(some 52),.mkmap true true [(some .i64),(some .i64),(some .i64),(some .i64),(some .i64),(some .i64),(some .i64),(some .i64),(some .i64),(some .i64),(some .i64),(some .i64)],none,0⟩,
 ⟨(some 53),.build [(.int .i64 0),(.int .i64 0),(.int .i64 0),(.int .i64 0),(.int .i64 0),.nils,.nils,.any] [(0,7,(.tmp 51)),(7,1,(.tmp 52))],none,1⟩,
 ⟨(some 54),.box (.tmp 53),none,1⟩,
 ⟨(some 55),.load (some 11) (.tmp 12),none,2⟩,
 ⟨(some 56),.faddr 3 (.tmp 3),none,2⟩,
 ⟨(some 57),.load none (.tmp 56),none,2⟩,
 ⟨(some 58),.mov (.tmp 2),none,2⟩,
 ⟨(some 59),.len (.tmp 58),none,2⟩,
 ⟨(some 60),.bin .sub (.tmp 57) (.tmp 59),none,2⟩,
 ⟨(some 61),.build [(.int .i64 0),(.int .i64 0),(.int .i64 0),(.int .i64 0),(.int .i64 0),(.int .i64 0),(.int .i64 0),(.int .i64 0),(.int .i64 0),(.int .i64 0),(.int .i64 0),(.int .i64 0)] [(0,11,(.tmp 55)),(11,1,(.tmp 60))],none,2⟩,
 ⟨(some 62),.call 36 false [(.tmp 54),(.tmp 61)],none,2⟩,
 ⟨(some 14),.alloc [(.int .i64 0),(.int .i64 0),(.bool false)],none,2⟩,
 ⟨none,.store (some 3) (.tmp 14) (.tmp 62),none,3⟩])
 (.seq (.seq (.region 0 [] [
 ⟨(some 63),.faddr 2 (.tmp 14),none,0⟩,
 ⟨(some 64),.load none (.tmp 63),none,0⟩,
 ⟨(some 65),.not (.tmp 64),none,0⟩])
 (.cond (.tmp 65)
 (.seq (.region 0 [] [
 ⟨(some 6),.mov (.cst (.c (.int .i64 0))),none,0⟩,
 ⟨(some 7),.mov (.cst (.c (.int .i64 0))),none,0⟩,
 ⟨(some 8),.mov (.cst (.c (.int .i64 10))),none,0⟩])
 .ret)
 .skip))
 (.seq (.region 0 [(0,2),(1,2),(0,3),(1,3),(0,4),(1,4),(2,4),(3,4),(0,5),(1,5),(2,5),(3,5),(0,6),(1,6),(2,7),(3,7),(4,7),(5,7),(6,7)] [
 ⟨(some 66),.faddr 0 (.tmp 14),none,0⟩,
 ⟨(some 67),.load none (.tmp 66),none,0⟩,
 ⟨(some 68),.faddr 1 (.tmp 14),none,0⟩,
 ⟨(some 69),.load none (.tmp 68),none,0⟩,
 ⟨(some 70),.faddr 2 (.tmp 3),none,0⟩,
 ⟨(some 71),.load none (.tmp 70),none,0⟩,
 ⟨(some 72),.bin .sub (.tmp 69) (.tmp 71),none,0⟩,
 ⟨(some 6),.mov (.tmp 67),none,0⟩,
 ⟨(some 7),.mov (.tmp 72),none,0⟩,
 ⟨(some 8),.mov (.cst (.c (.int .i64 0))),none,0⟩])
 .ret)))))))))⟩
def f17 : AFunc:=⟨11,[.cell 6 (some 3)],false,
 (.seq (.region 1 [] [
 ⟨(some 6),.alloc [(.int .i64 0),(.int .i64 0),(.int .i64 0)],none,0⟩])
 (.seq (.region 0 [] [
 ⟨(some 7),.mov (.tmp 0),none,0⟩,
 ⟨(some 8),.mov (.tmp 1),none,0⟩,
 ⟨(some 9),.mov (.tmp 2),none,0⟩,
 ⟨(some 10),.build [(.int .i64 0),(.int .i64 0),(.int .i64 0)] [(0,1,(.tmp 7)),(1,1,(.tmp 8)),(2,1,(.tmp 9))],none,0⟩,
 ⟨none,.store (some 3) (.tmp 6) (.tmp 10),none,0⟩])
 .ret))⟩
def f18 : AFunc:=⟨26,[.tmp 4],false,
 (.seq (.region 0 [] [
 ⟨(some 4),.mov (.cst (.c (.bool false))),none,0⟩])
 (.seq (.seq (.region 0 [] [
 ⟨(some 6),.mov (.tmp 0),none,0⟩,
 ⟨(some 7),.len (.tmp 6),none,0⟩,
 ⟨(some 8),.mov (.tmp 1),none,0⟩,
 ⟨(some 9),.len (.tmp 8),none,0⟩,
 ⟨(some 10),.bin .neq (.tmp 7) (.tmp 9),none,0⟩])
 (.cond (.tmp 10)
 (.seq (.region 0 [] [
 ⟨(some 4),.mov (.cst (.c (.bool false))),none,0⟩])
 .ret)
 .skip))
 (.seq (.seq (.region 0 [] [
 ⟨(some 5),.mov (.cst (.c (.int .i64 0))),none,0⟩])
 (.block 0 (.loop ⟨[4,11,12,13,14,15,16,17,18,19,20,21,22,23,24,25],false,[]⟩
 (.seq (.seq (.region 0 [] [
 ⟨(some 11),.mov (.tmp 5),none,0⟩,
 ⟨(some 12),.mov (.tmp 0),none,0⟩,
 ⟨(some 13),.len (.tmp 12),none,0⟩,
 ⟨(some 14),.bin .lss (.tmp 11) (.tmp 13),none,0⟩])
 (.cond (.tmp 14)
 .skip
 (.exit 0)))
 (.seq (.block 1 (.seq (.region 0 [(0,1),(0,4),(1,4),(2,4),(3,4),(0,5),(1,5),(2,5),(3,5),(4,5),(0,6),(1,6),(2,6),(3,6),(0,7),(1,7),(2,7),(3,7)] [
 ⟨(some 17),.mov (.tmp 0),none,0⟩,
 ⟨(some 18),.mov (.tmp 5),none,0⟩,
 ⟨(some 19),.iaddr 1 (.tmp 17) (.tmp 18),none,0⟩,
 ⟨(some 20),.load none (.tmp 19),none,0⟩,
 ⟨(some 21),.mov (.tmp 1),none,0⟩,
 ⟨(some 22),.mov (.tmp 5),none,0⟩,
 ⟨(some 23),.iaddr 1 (.tmp 21) (.tmp 22),none,0⟩,
 ⟨(some 24),.load none (.tmp 23),none,0⟩,
 ⟨(some 25),.bin .neq (.tmp 20) (.tmp 24),none,0⟩])
 (.cond (.tmp 25)
 (.seq (.region 0 [] [
 ⟨(some 4),.mov (.cst (.c (.bool false))),none,0⟩])
 .ret)
 .skip)))
 (.region 0 [] [
 ⟨(some 15),.mov (.tmp 5),none,0⟩,
 ⟨(some 16),.bin .add (.tmp 15) (.cst (.c (.int .i64 1))),none,0⟩,
 ⟨(some 5),.mov (.tmp 16),none,0⟩]))))))
 (.seq (.region 0 [] [
 ⟨(some 4),.mov (.cst (.c (.bool true))),none,0⟩])
 .ret))))⟩
def f19 : AFunc:=⟨24,[.tmp 6],false,
 (.seq (.region 1 [] [
 ⟨(some 3),.box (.tmp 0),none,0⟩,
 ⟨(some 6),.mov (.cst (.c (.bool false))),none,1⟩])
 (.seq (.region 0 [] [
 ⟨(some 11),.load (some 7) (.tmp 3),none,0⟩,
 ⟨(some 12),.mov (.tmp 1),none,0⟩,
 ⟨(some 13),.call 14 true [(.tmp 11),(.tmp 12)],none,0⟩,
 ⟨(some 10),.mov (.tmp 13),none,0⟩,
 ⟨(some 14),.extract 0 (.tmp 10),none,0⟩,
 ⟨(some 15),.extract 1 (.tmp 10),none,0⟩,
 ⟨(some 16),.extract 2 (.tmp 10),none,0⟩,
 ⟨(some 7),.mov (.tmp 14),none,0⟩,
 ⟨(some 8),.mov (.tmp 15),none,0⟩,
 ⟨(some 9),.mov (.tmp 16),none,0⟩])
 (.seq (.region 0 [] [
 ⟨(some 17),.mov (.tmp 9),none,0⟩,
 ⟨(some 18),.bin .eql (.tmp 17) (.cst (.c (.int .i64 0))),none,0⟩,
 ⟨(some 19),.mov (.tmp 18),none,0⟩,
 ⟨(some 20),.mov (.tmp 7),some (19,true),0⟩,
 ⟨(some 21),.mov (.tmp 2),some (19,true),0⟩,
 ⟨(some 22),.bin .geq (.tmp 20) (.tmp 21),some (19,true),0⟩,
 ⟨(some 23),.pick (.tmp 19) (.tmp 22) (.cst (.c (.bool false))),none,0⟩,
 ⟨(some 6),.mov (.tmp 23),none,0⟩])
 .ret)))⟩
def f20 : AFunc:=⟨22,[.tmp 2,.tmp 3,.tmp 4],false,
 (.seq (.region 1 [] [
 ⟨(some 1),.box (.tmp 0),none,0⟩,
 ⟨(some 2),.mov (.cst (.c .nils)),none,1⟩,
 ⟨(some 3),.mov (.cst (.c (.int .i64 0))),none,1⟩,
 ⟨(some 4),.mov (.cst (.c (.int .i64 0))),none,1⟩])
 (.seq (.seq (.region 0 [] [
 ⟨(some 7),.load (some 7) (.tmp 1),none,0⟩,
 ⟨(some 8),.call 22 true [(.tmp 7)],none,0⟩,
 ⟨(some 5),.mov (.tmp 8),none,0⟩])
 (.seq (.region 0 [] [
 ⟨(some 9),.mov (.tmp 5),none,0⟩,
 ⟨(some 10),.bin .neq (.tmp 9) (.cst (.c (.int .i64 0))),none,0⟩])
 (.cond (.tmp 10)
 (.seq (.region 0 [] [
 ⟨(some 11),.mov (.tmp 5),none,0⟩,
 ⟨(some 2),.mov (.cst (.c .nils)),none,0⟩,
 ⟨(some 3),.mov (.cst (.c (.int .i64 0))),none,0⟩,
 ⟨(some 4),.mov (.tmp 11),none,0⟩])
 .ret)
 .skip)))
 (.seq (.region 0 [] [
 ⟨(some 13),.load (some 7) (.tmp 1),none,0⟩,
 ⟨(some 14),.call 34 true [(.tmp 13),(.cst (.c (.int .i64 (-1))))],none,0⟩,
 ⟨(some 12),.mov (.tmp 14),none,0⟩,
 ⟨(some 15),.extract 0 (.tmp 12),none,0⟩,
 ⟨(some 16),.extract 1 (.tmp 12),none,0⟩,
 ⟨(some 17),.extract 2 (.tmp 12),none,0⟩,
 ⟨(some 2),.mov (.tmp 15),none,0⟩,
 ⟨(some 3),.mov (.tmp 16),none,0⟩,
 ⟨(some 6),.mov (.tmp 17),none,0⟩])
 (.seq (.seq (.region 0 [] [
 ⟨(some 18),.mov (.tmp 6),none,0⟩,
 ⟨(some 19),.not (.tmp 18),none,0⟩])
 (.cond (.tmp 19)
 (.seq (.region 0 [] [
 ⟨(some 2),.mov (.cst (.c .nils)),none,0⟩,
 ⟨(some 3),.mov (.cst (.c (.int .i64 0))),none,0⟩,
 ⟨(some 4),.mov (.cst (.c (.int .i64 10))),none,0⟩])
 .ret)
 .skip))
 (.seq (.region 0 [] [
 ⟨(some 20),.mov (.tmp 2),none,0⟩,
 ⟨(some 21),.mov (.tmp 3),none,0⟩,
 ⟨(some 2),.mov (.tmp 20),none,0⟩,
 ⟨(some 3),.mov (.tmp 21),none,0⟩,
 ⟨(some 4),.mov (.cst (.c (.int .i64 0))),none,0⟩])
 .ret)))))⟩
def f21 : AFunc:=⟨15,[.tmp 2,.tmp 3],false,
 (.seq (.region 1 [] [
 ⟨(some 1),.box (.tmp 0),none,0⟩,
 ⟨(some 2),.mov (.cst (.c (.int .i64 0))),none,1⟩,
 ⟨(some 3),.mov (.cst (.c (.int .i64 0))),none,1⟩])
 (.seq (.region 0 [] [
 ⟨(some 8),.load (some 7) (.tmp 1),none,0⟩,
 ⟨(some 9),.call 16 true [(.tmp 8),(.cst (.c .nils)),(.cst (.c .nils))],none,0⟩,
 ⟨(some 7),.mov (.tmp 9),none,0⟩,
 ⟨(some 10),.extract 0 (.tmp 7),none,0⟩,
 ⟨(some 11),.extract 1 (.tmp 7),none,0⟩,
 ⟨(some 12),.extract 2 (.tmp 7),none,0⟩,
 ⟨(some 4),.mov (.tmp 10),none,0⟩,
 ⟨(some 5),.mov (.tmp 11),none,0⟩,
 ⟨(some 6),.mov (.tmp 12),none,0⟩])
 (.seq (.region 0 [] [
 ⟨(some 13),.mov (.tmp 5),none,0⟩,
 ⟨(some 14),.mov (.tmp 6),none,0⟩,
 ⟨(some 2),.mov (.tmp 13),none,0⟩,
 ⟨(some 3),.mov (.tmp 14),none,0⟩])
 .ret)))⟩
def f22 : AFunc:=⟨66,[.tmp 2],false,
 (.seq (.region 1 [] [
 ⟨(some 1),.box (.tmp 0),none,0⟩,
 ⟨(some 2),.mov (.cst (.c (.int .i64 0))),none,1⟩])
 (.seq (.region 0 [] [
 ⟨(some 4),.load (some 7) (.tmp 1),none,0⟩,
 ⟨(some 5),.mkfn 37 (some (.tmp 4)) [],none,0⟩,
 ⟨(some 3),.mov (.tmp 5),none,0⟩])
 (.seq (.block 0 (.seq (.region 0 [] [
 ⟨(some 7),.faddr 0 (.tmp 1),none,0⟩,
 ⟨(some 8),.load none (.tmp 7),none,0⟩,
 ⟨(some 9),.bin .gtr (.tmp 8) (.cst (.c (.int .i64 4))),none,0⟩,
 ⟨(some 10),.mov (.tmp 9),none,0⟩,
 ⟨(some 11),.faddr 5 (.tmp 1),some (10,false),0⟩,
 ⟨(some 12),.load none (.tmp 11),some (10,false),0⟩,
 ⟨(some 13),.len (.tmp 12),some (10,false),0⟩,
 ⟨(some 14),.bin .gtr (.tmp 13) (.cst (.c (.int .i64 4))),some (10,false),0⟩,
 ⟨(some 15),.pick (.tmp 10) (.cst (.c (.bool true))) (.tmp 14),none,0⟩,
 ⟨(some 6),.mov (.tmp 15),none,0⟩])
 (.cond (.tmp 6)
 (.seq (.region 0 [] [
 ⟨(some 2),.mov (.cst (.c (.int .i64 3))),none,0⟩])
 .ret)
 (.seq (.region 0 [] [
 ⟨(some 17),.faddr 0 (.tmp 1),none,0⟩,
 ⟨(some 18),.load none (.tmp 17),none,0⟩,
 ⟨(some 19),.bin .lss (.tmp 18) (.cst (.c (.int .i64 0))),none,0⟩,
 ⟨(some 20),.mov (.tmp 19),none,0⟩,
 ⟨(some 21),.faddr 5 (.tmp 1),some (20,false),0⟩,
 ⟨(some 22),.load none (.tmp 21),some (20,false),0⟩,
 ⟨(some 23),.len (.tmp 22),some (20,false),0⟩,
 ⟨(some 24),.bin .eql (.tmp 23) (.cst (.c (.int .i64 0))),some (20,false),0⟩,
 ⟨(some 25),.pick (.tmp 20) (.cst (.c (.bool true))) (.tmp 24),none,0⟩,
 ⟨(some 26),.mov (.tmp 25),none,0⟩,
 ⟨(some 27),.load (some 7) (.tmp 1),some (26,false),0⟩,
 ⟨(some 28),.faddr 1 (.tmp 1),some (26,false),0⟩,
 ⟨(some 29),.load none (.tmp 28),some (26,false),0⟩,
 ⟨(some 30),.call 33 true [(.tmp 27),(.tmp 29)],some (26,false),0⟩,
 ⟨(some 31),.not (.tmp 30),some (26,false),0⟩,
 ⟨(some 32),.pick (.tmp 26) (.cst (.c (.bool true))) (.tmp 31),none,0⟩,
 ⟨(some 33),.mov (.tmp 32),none,0⟩,
 ⟨(some 34),.faddr 2 (.tmp 1),some (33,false),0⟩,
 ⟨(some 35),.load none (.tmp 34),some (33,false),0⟩,
 ⟨(some 36),.call 38 true [(.tmp 35),(.cst (.c (.int .i64 0))),(.cst (.c (.int .i64 999)))],some (33,false),0⟩,
 ⟨(some 37),.not (.tmp 36),some (33,false),0⟩,
 ⟨(some 38),.pick (.tmp 33) (.cst (.c (.bool true))) (.tmp 37),none,0⟩,
 ⟨(some 39),.mov (.tmp 38),none,0⟩,
 ⟨(some 40),.faddr 3 (.tmp 1),some (39,false),0⟩,
 ⟨(some 41),.load none (.tmp 40),some (39,false),0⟩,
 ⟨(some 42),.faddr 0 (.tmp 1),some (39,false),0⟩,
 ⟨(some 43),.load none (.tmp 42),some (39,false),0⟩,
 ⟨(some 44),.bin .add (.tmp 43) (.cst (.c (.int .i64 1))),some (39,false),0⟩,
 ⟨(some 45),.call 38 true [(.tmp 41),(.cst (.c (.int .i64 0))),(.tmp 44)],some (39,false),0⟩,
 ⟨(some 46),.not (.tmp 45),some (39,false),0⟩,
 ⟨(some 47),.pick (.tmp 39) (.cst (.c (.bool true))) (.tmp 46),none,0⟩,
 ⟨(some 48),.mov (.tmp 47),none,0⟩,
 ⟨(some 49),.faddr 4 (.tmp 1),some (48,false),0⟩,
 ⟨(some 50),.load none (.tmp 49),some (48,false),0⟩,
 ⟨(some 51),.call 38 true [(.tmp 50),(.cst (.c (.int .i64 1))),(.cst (.c (.int .i64 5)))],some (48,false),0⟩,
 ⟨(some 52),.not (.tmp 51),some (48,false),0⟩,
 ⟨(some 53),.pick (.tmp 48) (.cst (.c (.bool true))) (.tmp 52),none,0⟩,
 ⟨(some 54),.mov (.tmp 53),none,0⟩,
 ⟨(some 55),.faddr 5 (.tmp 1),some (54,false),0⟩,
 ⟨(some 56),.load none (.tmp 55),some (54,false),0⟩,
 ⟨(some 57),.mov (.tmp 3),some (54,false),0⟩,
 ⟨(some 58),.call 39 false [(.tmp 56),(.tmp 57)],some (54,false),0⟩,
 ⟨(some 59),.not (.tmp 58),some (54,false),0⟩,
 ⟨(some 60),.pick (.tmp 54) (.cst (.c (.bool true))) (.tmp 59),none,0⟩,
 ⟨(some 61),.mov (.tmp 60),none,0⟩,
 ⟨(some 62),.load (some 7) (.tmp 1),some (61,false),0⟩,
 ⟨(some 63),.call 40 true [(.tmp 62)],some (61,false),0⟩,
 ⟨(some 64),.not (.tmp 63),some (61,false),0⟩,
 ⟨(some 65),.pick (.tmp 61) (.cst (.c (.bool true))) (.tmp 64),none,0⟩,
 ⟨(some 16),.mov (.tmp 65),none,0⟩])
 (.cond (.tmp 16)
 (.seq (.region 0 [] [
 ⟨(some 2),.mov (.cst (.c (.int .i64 1))),none,0⟩])
 .ret)
 .skip)))))
 (.seq (.region 0 [] [
 ⟨(some 2),.mov (.cst (.c (.int .i64 0))),none,0⟩])
 .ret))))⟩
end Am.Tm
