/-
  A part of the proof: the texts VtTabA of this seat, joined.
-/
import Derived.Test.YtphjbeffckignaaGreatAmA
namespace Am.Vt
open Go Am
set_option maxRecDepth 100000
def f9 : AFunc:=⟨330,[.tmp 0],false,
 (.seq (.region 0 [] [
 ⟨(some 0),.mov (.cst (.c (.bool false))),none,0⟩])
 (.seq (.region 3 [] [
 ⟨(some 36),.build [(.int .i64 0),(.int .i64 0),(.int .i64 0),(.int .i64 0),(.int .i64 0)] [(0,1,(.cst (.c (.int .i64 0)))),(1,1,(.cst (.c (.int .i64 1)))),(2,1,(.cst (.c (.int .i64 1)))),(3,1,(.cst (.c (.int .i64 2)))),(4,1,(.cst (.c (.int .i64 2))))],none,0⟩,
 ⟨(some 37),.build [(.int .i64 0),(.int .i64 0),(.int .i64 0),(.int .i64 0),(.int .i64 0)] [(0,1,(.cst (.c (.int .i64 0)))),(1,1,(.cst (.c (.int .i64 0)))),(2,1,(.cst (.c (.int .i64 2)))),(3,1,(.cst (.c (.int .i64 2)))),(4,1,(.cst (.c (.int .i64 6))))],none,0⟩,
 ⟨(some 38),.build [(.int .i64 0),(.int .i64 0),(.int .i64 0),(.int .i64 0),(.int .i64 0)] [(0,1,(.cst (.c (.int .i64 2)))),(1,1,(.cst (.c (.int .i64 4)))),(2,1,(.cst (.c (.int .i64 4)))),(3,1,(.cst (.c (.int .i64 2)))),(4,1,(.cst (.c (.int .i64 3))))],none,0⟩,
 ⟨(some 1),.alloc [(.int .i64 0),(.int .i64 0),(.int .i64 0),(.int .i64 0),(.int .i64 0)],none,0⟩,
 ⟨(some 2),.alloc [(.int .i64 0),(.int .i64 0),(.int .i64 0),(.int .i64 0),(.int .i64 0)],none,1⟩,
 ⟨(some 3),.alloc [(.int .i64 0),(.int .i64 0),(.int .i64 0),(.int .i64 0),(.int .i64 0)],none,2⟩,
 ⟨none,.store (some 5) (.tmp 1) (.tmp 36),none,3⟩,
 ⟨none,.store (some 5) (.tmp 2) (.tmp 37),none,3⟩,
 ⟨none,.store (some 5) (.tmp 3) (.tmp 38),none,3⟩])
 (.seq (.seq (.region 0 [] [
 ⟨(some 4),.mov (.cst (.c (.int .i64 0))),none,0⟩])
 (.block 0 (.loop ⟨[0,5,6,39,40,41,42,43,44,45,46,47,48,49,50,51,52,53,54,55,56,57,58,59,60,61,62],false,[]⟩
 (.seq (.seq (.region 0 [] [
 ⟨(some 39),.mov (.tmp 4),none,0⟩,
 ⟨(some 40),.bin .lss (.tmp 39) (.cst (.c (.int .i64 5))),none,0⟩])
 (.cond (.tmp 40)
 .skip
 (.exit 0)))
 (.seq (.block 1 (.seq (.region 0 [(0,1),(0,2),(0,3),(0,4),(1,4),(2,4),(3,4),(0,5),(1,5),(2,5),(3,5),(0,6),(1,6),(2,6),(3,6),(9,10),(10,11)] [
 ⟨(some 44),.call 46 true [(.cst (.c .nils))],none,0⟩,
 ⟨(some 45),.mov (.tmp 4),none,0⟩,
 ⟨(some 46),.iaddrA 5 1 (.tmp 1) (.tmp 45),none,0⟩,
 ⟨(some 47),.load none (.tmp 46),none,0⟩,
 ⟨(some 48),.mov (.tmp 4),none,0⟩,
 ⟨(some 49),.iaddrA 5 1 (.tmp 2) (.tmp 48),none,0⟩,
 ⟨(some 50),.load none (.tmp 49),none,0⟩,
 ⟨(some 51),.call 28 true [(.tmp 44),(.tmp 47),(.tmp 50)],none,0⟩,
 ⟨(some 43),.mov (.tmp 51),none,0⟩,
 ⟨(some 52),.extract 0 (.tmp 43),none,0⟩,
 ⟨(some 53),.extract 1 (.tmp 43),none,0⟩,
 ⟨(some 5),.mov (.tmp 52),none,0⟩,
 ⟨(some 6),.mov (.tmp 53),none,0⟩])
 (.seq (.region 0 [] [
 ⟨(some 54),.mov (.tmp 6),none,0⟩,
 ⟨(some 55),.bin .neq (.tmp 54) (.cst (.c (.int .i64 0))),none,0⟩,
 ⟨(some 56),.mov (.tmp 55),none,0⟩,
 ⟨(some 57),.mov (.tmp 5),some (56,false),0⟩,
 ⟨(some 58),.mov (.tmp 4),some (56,false),0⟩,
 ⟨(some 59),.iaddrA 5 1 (.tmp 3) (.tmp 58),some (56,false),0⟩,
 ⟨(some 60),.load none (.tmp 59),some (56,false),0⟩,
 ⟨(some 61),.bin .neq (.tmp 57) (.tmp 60),some (56,false),0⟩,
 ⟨(some 62),.pick (.tmp 56) (.cst (.c (.bool true))) (.tmp 61),none,0⟩])
 (.cond (.tmp 62)
 (.seq (.region 0 [] [
 ⟨(some 0),.mov (.cst (.c (.bool false))),none,0⟩])
 .ret)
 .skip))))
 (.region 0 [] [
 ⟨(some 41),.mov (.tmp 4),none,0⟩,
 ⟨(some 42),.bin .add (.tmp 41) (.cst (.c (.int .i64 1))),none,0⟩,
 ⟨(some 4),.mov (.tmp 42),none,0⟩]))))))
 (.seq (.seq (.region 0 [] [
 ⟨(some 7),.mov (.cst (.c (.int .i64 0))),none,0⟩])
 (.block 2 (.loop ⟨[0,8,9,10,11,63,64,65,66,67,68,69,70,71,72,73,74,75,76,77,78,79,80,81,82,83,84,85,86,87,88,89,90,91,92,93,94,95,96,97,98],false,[]⟩
 (.seq (.seq (.region 0 [] [
 ⟨(some 63),.mov (.tmp 7),none,0⟩,
 ⟨(some 64),.bin .lss (.tmp 63) (.cst (.c (.int .i64 3))),none,0⟩])
 (.cond (.tmp 64)
 .skip
 (.exit 2)))
 (.seq (.block 3 (.seq (.region 0 [] [
 ⟨(some 68),.call 46 true [(.cst (.c .nils))],none,0⟩,
 ⟨(some 69),.call 47 true [],none,0⟩,
 ⟨(some 70),.mov (.tmp 7),none,0⟩,
 ⟨(some 71),.call 41 true [(.tmp 68),(.tmp 69),(.tmp 70)],none,0⟩,
 ⟨(some 67),.mov (.tmp 71),none,0⟩,
 ⟨(some 72),.extract 0 (.tmp 67),none,0⟩,
 ⟨(some 73),.extract 1 (.tmp 67),none,0⟩,
 ⟨(some 8),.mov (.tmp 72),none,0⟩,
 ⟨(some 9),.mov (.tmp 73),none,0⟩])
 (.seq (.region 0 [] [
 ⟨(some 75),.call 46 true [(.cst (.c .nils))],none,0⟩,
 ⟨(some 76),.call 47 true [],none,0⟩,
 ⟨(some 77),.mov (.tmp 7),none,0⟩,
 ⟨(some 78),.call 40 true [(.tmp 75),(.tmp 76),(.tmp 77)],none,0⟩,
 ⟨(some 74),.mov (.tmp 78),none,0⟩,
 ⟨(some 79),.extract 0 (.tmp 74),none,0⟩,
 ⟨(some 80),.extract 1 (.tmp 74),none,0⟩,
 ⟨(some 10),.mov (.tmp 79),none,0⟩,
 ⟨(some 11),.mov (.tmp 80),none,0⟩])
 (.seq (.region 0 [] [
 ⟨(some 81),.mov (.tmp 9),none,0⟩,
 ⟨(some 82),.bin .neq (.tmp 81) (.cst (.c (.int .i64 0))),none,0⟩,
 ⟨(some 83),.mov (.tmp 82),none,0⟩,
 ⟨(some 84),.mov (.tmp 8),some (83,false),0⟩,
 ⟨(some 85),.bin .neq (.tmp 84) (.cst (.c (.int .i64 1))),some (83,false),0⟩,
 ⟨(some 86),.pick (.tmp 83) (.cst (.c (.bool true))) (.tmp 85),none,0⟩,
 ⟨(some 87),.mov (.tmp 86),none,0⟩,
 ⟨(some 88),.mov (.tmp 11),some (87,false),0⟩,
 ⟨(some 89),.bin .neq (.tmp 88) (.cst (.c (.int .i64 0))),some (87,false),0⟩,
 ⟨(some 90),.pick (.tmp 87) (.cst (.c (.bool true))) (.tmp 89),none,0⟩,
 ⟨(some 91),.mov (.tmp 90),none,0⟩,
 ⟨(some 92),.mov (.tmp 10),some (91,false),0⟩,
 ⟨(some 93),.bin .neq (.tmp 92) (.cst (.c (.int .i64 2))),some (91,false),0⟩,
 ⟨(some 94),.mov (.tmp 93),some (91,false),0⟩,
 ⟨(some 95),.mov (.tmp 7),some (94,true),0⟩,
 ⟨(some 96),.bin .gtr (.tmp 95) (.cst (.c (.int .i64 0))),some (94,true),0⟩,
 ⟨(some 97),.pick (.tmp 94) (.tmp 96) (.cst (.c (.bool false))),some (91,false),0⟩,
 ⟨(some 98),.pick (.tmp 91) (.cst (.c (.bool true))) (.tmp 97),none,0⟩])
 (.cond (.tmp 98)
 (.seq (.region 0 [] [
 ⟨(some 0),.mov (.cst (.c (.bool false))),none,0⟩])
 .ret)
 .skip)))))
 (.region 0 [] [
 ⟨(some 65),.mov (.tmp 7),none,0⟩,
 ⟨(some 66),.bin .add (.tmp 65) (.cst (.c (.int .i64 1))),none,0⟩,
 ⟨(some 7),.mov (.tmp 66),none,0⟩]))))))
 (.seq (.region 1 [] [
 ⟨(some 99),.call 46 false [(.cst (.c .nils))],none,0⟩,
 ⟨(some 12),.alloc [(.int .i64 0),(.int .i64 0),(.int .i64 0),(.int .i64 0),(.int .i64 0),(.int .i64 0),(.int .i64 0),(.int .i64 0),.nils,.nils,.nils,.nils,(.int .i64 0),.nils,(.int .i64 0),(.int .i64 0),(.int .i64 0)],none,0⟩,
 ⟨none,.store (some 17) (.tmp 12) (.tmp 99),none,1⟩])
 (.seq (.region 0 [(0,2),(1,2),(2,3)] [
 ⟨(some 100),.faddr 13 (.tmp 12),none,0⟩,
 ⟨(some 101),.load none (.tmp 100),none,0⟩,
 ⟨(some 102),.call 48 true [(.cst (.c (.int .i64 8))),(.cst (.c (.int .i64 9)))],none,0⟩,
 ⟨(some 103),.faddr 12 (.tmp 12),none,0⟩,
 ⟨none,.store none (.tmp 103) (.cst (.c (.int .i64 2))),none,0⟩,
 ⟨(some 104),.iaddr 2 (.tmp 101) (.cst (.c (.int .i64 0))),none,0⟩,
 ⟨none,.store (some 2) (.tmp 104) (.tmp 102),none,0⟩])
 (.seq (.region 1 [] [
 ⟨(some 106),.load (some 17) (.tmp 12),none,0⟩,
 ⟨(some 107),.build [(.int .i64 0),(.int .i64 0)] [(0,1,(.cst (.c (.int .i64 0)))),(1,1,(.cst (.c (.int .i64 1))))],none,0⟩,
 ⟨(some 108),.bslice 2 1 [(.int .i64 0),(.int .i64 0)] [(0,(.tmp 107))],none,0⟩,
 ⟨(some 109),.call 41 true [(.tmp 106),(.tmp 108),(.cst (.c (.int .i64 0)))],none,1⟩,
 ⟨(some 105),.mov (.tmp 109),none,1⟩,
 ⟨(some 110),.extract 0 (.tmp 105),none,1⟩,
 ⟨(some 111),.extract 1 (.tmp 105),none,1⟩,
 ⟨(some 13),.mov (.tmp 110),none,1⟩,
 ⟨(some 14),.mov (.tmp 111),none,1⟩])
 (.seq (.region 0 [] [
 ⟨(some 113),.call 46 true [(.cst (.c .nils))],none,0⟩,
 ⟨(some 114),.call 47 true [],none,0⟩,
 ⟨(some 115),.call 39 true [(.tmp 113),(.tmp 114),(.cst (.c (.int .i64 0))),(.cst (.c (.int .i64 1)))],none,0⟩,
 ⟨(some 112),.mov (.tmp 115),none,0⟩,
 ⟨(some 116),.extract 0 (.tmp 112),none,0⟩,
 ⟨(some 117),.extract 1 (.tmp 112),none,0⟩,
 ⟨(some 15),.mov (.tmp 116),none,0⟩,
 ⟨(some 16),.mov (.tmp 117),none,0⟩])
 (.seq (.region 0 [] [
 ⟨(some 119),.call 46 true [(.cst (.c .nils))],none,0⟩,
 ⟨(some 120),.call 49 true [(.tmp 119),(.cst (.c (.int .i64 1)))],none,0⟩,
 ⟨(some 118),.mov (.tmp 120),none,0⟩,
 ⟨(some 121),.extract 0 (.tmp 118),none,0⟩,
 ⟨(some 122),.extract 1 (.tmp 118),none,0⟩,
 ⟨(some 123),.extract 2 (.tmp 118),none,0⟩,
 ⟨(some 17),.mov (.tmp 121),none,0⟩,
 ⟨(some 18),.mov (.tmp 122),none,0⟩,
 ⟨(some 19),.mov (.tmp 123),none,0⟩])
 (.seq (.region 0 [] [
 ⟨(some 125),.call 46 true [(.cst (.c .nils))],none,0⟩,
 ⟨(some 126),.call 50 true [(.tmp 125)],none,0⟩,
 ⟨(some 124),.mov (.tmp 126),none,0⟩,
 ⟨(some 127),.extract 0 (.tmp 124),none,0⟩,
 ⟨(some 128),.extract 1 (.tmp 124),none,0⟩,
 ⟨(some 20),.mov (.tmp 127),none,0⟩,
 ⟨(some 21),.mov (.tmp 128),none,0⟩])
 (.seq (.region 0 [] [
 ⟨(some 130),.call 46 true [(.cst (.c .nils))],none,0⟩,
 ⟨(some 131),.call 28 true [(.tmp 130),(.cst (.c (.int .i64 2))),(.cst (.c (.int .i64 0)))],none,0⟩,
 ⟨(some 129),.mov (.tmp 131),none,0⟩,
 ⟨(some 132),.extract 0 (.tmp 129),none,0⟩,
 ⟨(some 133),.extract 1 (.tmp 129),none,0⟩,
 ⟨(some 22),.mov (.tmp 132),none,0⟩,
 ⟨(some 23),.mov (.tmp 133),none,0⟩])
 (.seq (.seq (.region 2 [] [
 ⟨(some 134),.mov (.tmp 14),none,0⟩,
 ⟨(some 135),.bin .neq (.tmp 134) (.cst (.c (.int .i64 0))),none,0⟩,
 ⟨(some 136),.mov (.tmp 135),none,0⟩,
 ⟨(some 137),.mov (.tmp 13),some (136,false),0⟩,
 ⟨(some 138),.bin .neq (.tmp 137) (.cst (.c (.int .i64 3))),some (136,false),0⟩,
 ⟨(some 139),.pick (.tmp 136) (.cst (.c (.bool true))) (.tmp 138),none,0⟩,
 ⟨(some 140),.mov (.tmp 139),none,0⟩,
 ⟨(some 141),.mov (.tmp 16),some (140,false),0⟩,
 ⟨(some 142),.bin .neq (.tmp 141) (.cst (.c (.int .i64 0))),some (140,false),0⟩,
 ⟨(some 143),.pick (.tmp 140) (.cst (.c (.bool true))) (.tmp 142),none,0⟩,
 ⟨(some 144),.mov (.tmp 143),none,0⟩,
 ⟨(some 145),.mov (.tmp 15),some (144,false),0⟩,
 ⟨(some 146),.bin .neq (.tmp 145) (.cst (.c (.int .i64 2))),some (144,false),0⟩,
 ⟨(some 147),.pick (.tmp 144) (.cst (.c (.bool true))) (.tmp 146),none,0⟩,
 ⟨(some 148),.mov (.tmp 147),none,0⟩,
 ⟨(some 149),.mov (.tmp 19),some (148,false),0⟩,
 ⟨(some 150),.bin .neq (.tmp 149) (.cst (.c (.int .i64 0))),some (148,false),0⟩,
 ⟨(some 151),.pick (.tmp 148) (.cst (.c (.bool true))) (.tmp 150),none,0⟩,
 ⟨(some 152),.mov (.tmp 151),none,0⟩,
 ⟨(some 153),.mov (.tmp 18),some (152,false),0⟩,
 ⟨(some 154),.bin .neq (.tmp 153) (.cst (.c (.int .i64 0))),some (152,false),0⟩,
 ⟨(some 155),.pick (.tmp 152) (.cst (.c (.bool true))) (.tmp 154),none,0⟩,
 ⟨(some 156),.mov (.tmp 155),none,0⟩,
 ⟨(some 157),.mov (.tmp 21),some (156,false),0⟩,
 ⟨(some 158),.bin .neq (.tmp 157) (.cst (.c (.int .i64 0))),some (156,false),0⟩,
 ⟨(some 159),.pick (.tmp 156) (.cst (.c (.bool true))) (.tmp 158),none,0⟩,
 ⟨(some 160),.mov (.tmp 159),none,0⟩,
 ⟨(some 161),.mov (.tmp 20),some (160,false),0⟩,
 ⟨(some 162),.len (.tmp 161),some (160,false),0⟩,
 ⟨(some 163),.bin .neq (.tmp 162) (.cst (.c (.int .i64 0))),some (160,false),0⟩,
 ⟨(some 164),.pick (.tmp 160) (.cst (.c (.bool true))) (.tmp 163),none,0⟩,
 ⟨(some 165),.mov (.tmp 164),none,0⟩,
 ⟨(some 166),.mov (.tmp 23),some (165,false),0⟩,
 ⟨(some 167),.bin .neq (.tmp 166) (.cst (.c (.int .i64 10))),some (165,false),0⟩,
 ⟨(some 168),.pick (.tmp 165) (.cst (.c (.bool true))) (.tmp 167),none,0⟩,
 ⟨(some 169),.mov (.tmp 168),none,0⟩,
 ⟨(some 170),.call 46 true [(.cst (.c .nils))],some (169,false),0⟩,
 ⟨(some 171),.call 47 true [],some (169,false),0⟩,
 ⟨(some 172),.call 34 true [(.tmp 170),(.tmp 171),(.cst (.c (.int .i64 8)))],some (169,false),0⟩,
 ⟨(some 173),.pick (.tmp 169) (.cst (.c (.bool true))) (.tmp 172),none,0⟩,
 ⟨(some 174),.mov (.tmp 173),none,0⟩,
 ⟨(some 175),.call 46 true [(.cst (.c .nils))],some (174,false),0⟩,
 ⟨(some 176),.call 47 true [],some (174,false),0⟩,
 ⟨(some 177),.call 35 true [(.tmp 175),(.tmp 176),(.cst (.c (.int .i64 9))),(.cst (.c (.int .i64 3)))],some (174,false),0⟩,
 ⟨(some 178),.not (.tmp 177),some (174,false),0⟩,
 ⟨(some 179),.pick (.tmp 174) (.cst (.c (.bool true))) (.tmp 178),none,0⟩,
 ⟨(some 180),.mov (.tmp 179),none,0⟩,
 ⟨(some 181),.call 46 true [(.cst (.c .nils))],some (180,false),0⟩,
 ⟨(some 182),.call 47 true [],some (180,false),0⟩,
 ⟨(some 183),.slice 2 (.tmp 182) none (some (.cst (.c (.int .i64 2)))),some (180,false),0⟩,
 ⟨(some 184),.call 35 true [(.tmp 181),(.tmp 183),(.cst (.c (.int .i64 9))),(.cst (.c (.int .i64 3)))],some (180,false),0⟩,
 ⟨(some 185),.pick (.tmp 180) (.cst (.c (.bool true))) (.tmp 184),none,0⟩,
 ⟨(some 186),.mov (.tmp 185),none,0⟩,
 ⟨(some 187),.call 46 true [(.cst (.c .nils))],some (186,false),0⟩,
 ⟨(some 188),.call 47 true [],some (186,false),0⟩,
 ⟨(some 189),.slice 2 (.tmp 188) none (some (.cst (.c (.int .i64 2)))),some (186,false),0⟩,
 ⟨(some 190),.call 35 true [(.tmp 187),(.tmp 189),(.cst (.c (.int .i64 4))),(.cst (.c (.int .i64 2)))],some (186,false),0⟩,
 ⟨(some 191),.not (.tmp 190),some (186,false),0⟩,
 ⟨(some 192),.pick (.tmp 186) (.cst (.c (.bool true))) (.tmp 191),none,0⟩,
 ⟨(some 193),.mov (.tmp 192),none,0⟩,
 ⟨(some 194),.call 46 true [(.cst (.c .nils))],some (193,false),0⟩,
 ⟨(some 195),.call 47 false [],some (193,false),0⟩,
 ⟨(some 196),.build [(.int .i64 0),(.int .i64 0)] [(0,1,(.cst (.c (.int .i64 1))))],some (193,false),0⟩,
 ⟨(some 197),.bslice 2 1 [(.int .i64 0),(.int .i64 0)] [(0,(.tmp 196))],some (193,false),0⟩,
 ⟨(some 198),.append 2 16 (.tmp 195) (.tmp 197),some (193,false),1⟩,
 ⟨(some 199),.call 34 true [(.tmp 194),(.tmp 198),(.cst (.c (.int .i64 20)))],some (193,false),2⟩,
 ⟨(some 200),.pick (.tmp 193) (.cst (.c (.bool true))) (.tmp 199),none,2⟩])
 (.cond (.tmp 200)
 (.seq (.region 0 [] [
 ⟨(some 0),.mov (.cst (.c (.bool false))),none,0⟩])
 .ret)
 .skip))
 (.seq (.region 1 [] [
 ⟨(some 202),.call 46 true [(.cst (.c .nils))],none,0⟩,
 ⟨(some 203),.call 47 true [],none,0⟩,
 ⟨(some 204),.bslice 1 4 [(.int .i64 0)] [(0,(.cst (.c (.int .i64 2)))),(1,(.cst (.c (.int .i64 1)))),(2,(.cst (.c (.int .i64 3)))),(3,(.cst (.c (.int .i64 0))))],none,0⟩,
 ⟨(some 205),.build [(.int .i64 0),(.int .i64 0),.nils] [(0,1,(.cst (.c (.int .i64 3)))),(1,1,(.cst (.c (.int .i64 100)))),(2,1,(.tmp 204))],none,1⟩,
 ⟨(some 206),.call 17 true [(.tmp 202),(.tmp 203),(.tmp 205)],none,1⟩,
 ⟨(some 201),.mov (.tmp 206),none,1⟩,
 ⟨(some 207),.extract 0 (.tmp 201),none,1⟩,
 ⟨(some 208),.extract 1 (.tmp 201),none,1⟩,
 ⟨(some 14),.mov (.tmp 208),none,1⟩])
 (.seq (.region 0 [] [
 ⟨(some 210),.call 46 true [(.cst (.c .nils))],none,0⟩,
 ⟨(some 211),.call 28 true [(.tmp 210),(.cst (.c (.int .i64 3))),(.cst (.c (.int .i64 0)))],none,0⟩,
 ⟨(some 209),.mov (.tmp 211),none,0⟩,
 ⟨(some 212),.extract 0 (.tmp 209),none,0⟩,
 ⟨(some 213),.extract 1 (.tmp 209),none,0⟩,
 ⟨(some 16),.mov (.tmp 213),none,0⟩])
 (.seq (.region 0 [] [
 ⟨(some 215),.call 46 true [(.cst (.c .nils))],none,0⟩,
 ⟨(some 216),.call 28 true [(.tmp 215),(.cst (.c (.int .i64 0))),(.cst (.c (.int .i64 21)))],none,0⟩,
 ⟨(some 214),.mov (.tmp 216),none,0⟩,
 ⟨(some 217),.extract 0 (.tmp 214),none,0⟩,
 ⟨(some 218),.extract 1 (.tmp 214),none,0⟩,
 ⟨(some 19),.mov (.tmp 218),none,0⟩])
 (.seq (.region 1 [] [
 ⟨(some 220),.call 46 true [(.cst (.c .nils))],none,0⟩,
 ⟨(some 221),.build [(.int .i64 0),(.int .i64 0)] [(0,1,(.cst (.c (.int .i64 0)))),(1,1,(.cst (.c (.int .i64 21))))],none,0⟩,
 ⟨(some 222),.bslice 2 1 [(.int .i64 0),(.int .i64 0)] [(0,(.tmp 221))],none,0⟩,
 ⟨(some 223),.call 41 true [(.tmp 220),(.tmp 222),(.cst (.c (.int .i64 0)))],none,1⟩,
 ⟨(some 219),.mov (.tmp 223),none,1⟩,
 ⟨(some 224),.extract 0 (.tmp 219),none,1⟩,
 ⟨(some 225),.extract 1 (.tmp 219),none,1⟩,
 ⟨(some 21),.mov (.tmp 225),none,1⟩])
 (.seq (.region 0 [] [
 ⟨(some 227),.call 46 true [(.cst (.c .nils))],none,0⟩,
 ⟨(some 228),.call 47 true [],none,0⟩,
 ⟨(some 229),.call 39 true [(.tmp 227),(.tmp 228),(.cst (.c (.int .i64 0))),(.cst (.c (.int .i64 3)))],none,0⟩,
 ⟨(some 226),.mov (.tmp 229),none,0⟩,
 ⟨(some 230),.extract 0 (.tmp 226),none,0⟩,
 ⟨(some 231),.extract 1 (.tmp 226),none,0⟩,
 ⟨(some 23),.mov (.tmp 231),none,0⟩])
 (.seq (.region 0 [] [
 ⟨(some 233),.call 46 true [(.cst (.c .nils))],none,0⟩,
 ⟨(some 234),.call 49 true [(.tmp 233),(.cst (.c (.int .i64 (-1))))],none,0⟩,
 ⟨(some 232),.mov (.tmp 234),none,0⟩,
 ⟨(some 235),.extract 0 (.tmp 232),none,0⟩,
 ⟨(some 236),.extract 1 (.tmp 232),none,0⟩,
 ⟨(some 237),.extract 2 (.tmp 232),none,0⟩,
 ⟨(some 24),.mov (.tmp 235),none,0⟩,
 ⟨(some 25),.mov (.tmp 236),none,0⟩,
 ⟨(some 26),.mov (.tmp 237),none,0⟩])
 (.seq (.region 1 [] [
 ⟨(some 239),.call 48 true [(.cst (.c (.int .i64 91))),(.cst (.c (.int .i64 99)))],none,0⟩,
 ⟨(some 240),.bslice 2 1 [(.int .i64 0),(.int .i64 0)] [(0,(.tmp 239))],none,0⟩,
 ⟨(some 241),.call 46 true [(.tmp 240)],none,1⟩,
 ⟨(some 242),.call 51 true [(.tmp 241)],none,1⟩,
 ⟨(some 238),.mov (.tmp 242),none,1⟩,
 ⟨(some 243),.extract 0 (.tmp 238),none,1⟩,
 ⟨(some 244),.extract 1 (.tmp 238),none,1⟩,
 ⟨(some 245),.extract 2 (.tmp 238),none,1⟩,
 ⟨(some 27),.mov (.tmp 243),none,1⟩,
 ⟨(some 28),.mov (.tmp 244),none,1⟩,
 ⟨(some 29),.mov (.tmp 245),none,1⟩])
 (.seq (.region 8 [] [
 ⟨(some 246),.call 46 true [(.cst (.c .nils))],none,0⟩,
 ⟨(some 247),.call 46 true [(.cst (.c .nils))],none,0⟩,
 ⟨(some 248),.call 46 true [(.cst (.c .nils))],none,0⟩,
 ⟨(some 249),.call 48 true [(.cst (.c (.int .i64 0))),(.cst (.c (.int .i64 0)))],none,0⟩,
 ⟨(some 250),.call 48 true [(.cst (.c (.int .i64 0))),(.cst (.c (.int .i64 0)))],none,0⟩,
 ⟨(some 251),.bslice 2 2 [(.int .i64 0),(.int .i64 0)] [(0,(.tmp 249)),(1,(.tmp 250))],none,0⟩,
 ⟨(some 252),.call 46 true [(.tmp 251)],none,1⟩,
 ⟨(some 253),.call 48 true [(.cst (.c (.int .i64 5))),(.cst (.c (.int .i64 4)))],none,1⟩,
 ⟨(some 254),.bslice 2 1 [(.int .i64 0),(.int .i64 0)] [(0,(.tmp 253))],none,1⟩,
 ⟨(some 255),.call 46 true [(.tmp 254)],none,2⟩,
 ⟨(some 256),.call 46 true [(.cst (.c .nils))],none,2⟩,
 ⟨(some 30),.alloc [(.int .i64 0),(.int .i64 0),(.int .i64 0),(.int .i64 0),(.int .i64 0),(.int .i64 0),(.int .i64 0),(.int .i64 0),.nils,.nils,.nils,.nils,(.int .i64 0),.nils,(.int .i64 0),(.int .i64 0),(.int .i64 0)],none,2⟩,
 ⟨(some 31),.alloc [(.int .i64 0),(.int .i64 0),(.int .i64 0),(.int .i64 0),(.int .i64 0),(.int .i64 0),(.int .i64 0),(.int .i64 0),.nils,.nils,.nils,.nils,(.int .i64 0),.nils,(.int .i64 0),(.int .i64 0),(.int .i64 0)],none,3⟩,
 ⟨(some 32),.alloc [(.int .i64 0),(.int .i64 0),(.int .i64 0),(.int .i64 0),(.int .i64 0),(.int .i64 0),(.int .i64 0),(.int .i64 0),.nils,.nils,.nils,.nils,(.int .i64 0),.nils,(.int .i64 0),(.int .i64 0),(.int .i64 0)],none,4⟩,
 ⟨(some 33),.alloc [(.int .i64 0),(.int .i64 0),(.int .i64 0),(.int .i64 0),(.int .i64 0),(.int .i64 0),(.int .i64 0),(.int .i64 0),.nils,.nils,.nils,.nils,(.int .i64 0),.nils,(.int .i64 0),(.int .i64 0),(.int .i64 0)],none,5⟩,
 ⟨(some 34),.alloc [(.int .i64 0),(.int .i64 0),(.int .i64 0),(.int .i64 0),(.int .i64 0),(.int .i64 0),(.int .i64 0),(.int .i64 0),.nils,.nils,.nils,.nils,(.int .i64 0),.nils,(.int .i64 0),(.int .i64 0),(.int .i64 0)],none,6⟩,
 ⟨(some 35),.alloc [(.int .i64 0),(.int .i64 0),(.int .i64 0),(.int .i64 0),(.int .i64 0),(.int .i64 0),(.int .i64 0),(.int .i64 0),.nils,.nils,.nils,.nils,(.int .i64 0),.nils,(.int .i64 0),(.int .i64 0),(.int .i64 0)],none,7⟩,
 ⟨none,.store (some 17) (.tmp 30) (.tmp 246),none,8⟩,
 ⟨none,.store (some 17) (.tmp 31) (.tmp 247),none,8⟩,
 ⟨none,.store (some 17) (.tmp 32) (.tmp 248),none,8⟩,
 ⟨none,.store (some 17) (.tmp 33) (.tmp 252),none,8⟩,
 ⟨none,.store (some 17) (.tmp 34) (.tmp 255),none,8⟩,
 ⟨none,.store (some 17) (.tmp 35) (.tmp 256),none,8⟩])
 (.seq (.region 0 [] [
 ⟨(some 257),.faddr 12 (.tmp 30),none,0⟩,
 ⟨none,.store none (.tmp 257) (.cst (.c (.int .i64 4))),none,0⟩])
 (.seq (.region 0 [] [
 ⟨(some 258),.faddr 14 (.tmp 31),none,0⟩,
 ⟨none,.store none (.tmp 258) (.cst (.c (.int .i64 (-1)))),none,0⟩])
 (.seq (.region 0 [] [
 ⟨(some 259),.call 48 true [(.cst (.c (.int .i64 0))),(.cst (.c (.int .i64 10000)))],none,0⟩,
 ⟨(some 260),.faddr 15 (.tmp 32),none,0⟩,
 ⟨none,.store (some 2) (.tmp 260) (.tmp 259),none,0⟩])
 (.seq (.region 1 [] [
 ⟨(some 261),.call 52 true [(.cst (.c (.int .i64 9))),(.cst (.c (.int .i64 9)))],none,0⟩,
 ⟨(some 262),.build [(.int .i64 0),(.bool false),(.int .i64 0),(.int .i64 0)] [(1,1,(.cst (.c (.bool true)))),(2,2,(.tmp 261))],none,0⟩,
 ⟨(some 263),.bslice 4 1 [(.int .i64 0),(.bool false),(.int .i64 0),(.int .i64 0)] [(0,(.tmp 262))],none,0⟩,
 ⟨(some 264),.faddr 0 (.tmp 35),none,1⟩,
 ⟨(some 265),.faddr 11 (.tmp 264),none,1⟩,
 ⟨none,.store none (.tmp 265) (.tmp 263),none,1⟩])
 (.seq (.region 0 [] [
 ⟨(some 266),.mov (.tmp 14),none,0⟩,
 ⟨(some 267),.bin .eql (.tmp 266) (.cst (.c (.int .i64 2))),none,0⟩,
 ⟨(some 268),.mov (.tmp 267),none,0⟩,
 ⟨(some 269),.mov (.tmp 16),some (268,true),0⟩,
 ⟨(some 270),.bin .eql (.tmp 269) (.cst (.c (.int .i64 2))),some (268,true),0⟩,
 ⟨(some 271),.pick (.tmp 268) (.tmp 270) (.cst (.c (.bool false))),none,0⟩,
 ⟨(some 272),.mov (.tmp 271),none,0⟩,
 ⟨(some 273),.mov (.tmp 19),some (272,true),0⟩,
 ⟨(some 274),.bin .eql (.tmp 273) (.cst (.c (.int .i64 2))),some (272,true),0⟩,
 ⟨(some 275),.pick (.tmp 272) (.tmp 274) (.cst (.c (.bool false))),none,0⟩,
 ⟨(some 276),.mov (.tmp 275),none,0⟩,
 ⟨(some 277),.mov (.tmp 21),some (276,true),0⟩,
 ⟨(some 278),.bin .eql (.tmp 277) (.cst (.c (.int .i64 2))),some (276,true),0⟩,
 ⟨(some 279),.pick (.tmp 276) (.tmp 278) (.cst (.c (.bool false))),none,0⟩,
 ⟨(some 280),.mov (.tmp 279),none,0⟩,
 ⟨(some 281),.mov (.tmp 23),some (280,true),0⟩,
 ⟨(some 282),.bin .eql (.tmp 281) (.cst (.c (.int .i64 2))),some (280,true),0⟩,
 ⟨(some 283),.pick (.tmp 280) (.tmp 282) (.cst (.c (.bool false))),none,0⟩,
 ⟨(some 284),.mov (.tmp 283),none,0⟩,
 ⟨(some 285),.mov (.tmp 26),some (284,true),0⟩,
 ⟨(some 286),.bin .eql (.tmp 285) (.cst (.c (.int .i64 2))),some (284,true),0⟩,
 ⟨(some 287),.pick (.tmp 284) (.tmp 286) (.cst (.c (.bool false))),none,0⟩,
 ⟨(some 288),.mov (.tmp 287),none,0⟩,
 ⟨(some 289),.mov (.tmp 29),some (288,true),0⟩,
 ⟨(some 290),.bin .eql (.tmp 289) (.cst (.c (.int .i64 10))),some (288,true),0⟩,
 ⟨(some 291),.pick (.tmp 288) (.tmp 290) (.cst (.c (.bool false))),none,0⟩,
 ⟨(some 292),.mov (.tmp 291),none,0⟩,
 ⟨(some 293),.load (some 17) (.tmp 30),some (292,true),0⟩,
 ⟨(some 294),.call 22 true [(.tmp 293)],some (292,true),0⟩,
 ⟨(some 295),.bin .eql (.tmp 294) (.cst (.c (.int .i64 1))),some (292,true),0⟩,
 ⟨(some 296),.pick (.tmp 292) (.tmp 295) (.cst (.c (.bool false))),none,0⟩,
 ⟨(some 297),.mov (.tmp 296),none,0⟩,
 ⟨(some 298),.load (some 17) (.tmp 31),some (297,true),0⟩,
 ⟨(some 299),.call 22 true [(.tmp 298)],some (297,true),0⟩,
 ⟨(some 300),.bin .eql (.tmp 299) (.cst (.c (.int .i64 1))),some (297,true),0⟩,
 ⟨(some 301),.pick (.tmp 297) (.tmp 300) (.cst (.c (.bool false))),none,0⟩,
 ⟨(some 302),.mov (.tmp 301),none,0⟩,
 ⟨(some 303),.load (some 17) (.tmp 32),some (302,true),0⟩,
 ⟨(some 304),.call 22 true [(.tmp 303)],some (302,true),0⟩,
 ⟨(some 305),.bin .eql (.tmp 304) (.cst (.c (.int .i64 1))),some (302,true),0⟩,
 ⟨(some 306),.pick (.tmp 302) (.tmp 305) (.cst (.c (.bool false))),none,0⟩,
 ⟨(some 307),.mov (.tmp 306),none,0⟩,
 ⟨(some 308),.load (some 17) (.tmp 33),some (307,true),0⟩,
 ⟨(some 309),.call 22 true [(.tmp 308)],some (307,true),0⟩,
 ⟨(some 310),.bin .eql (.tmp 309) (.cst (.c (.int .i64 3))),some (307,true),0⟩,
 ⟨(some 311),.pick (.tmp 307) (.tmp 310) (.cst (.c (.bool false))),none,0⟩,
 ⟨(some 312),.mov (.tmp 311),none,0⟩,
 ⟨(some 313),.load (some 17) (.tmp 34),some (312,true),0⟩,
 ⟨(some 314),.call 22 true [(.tmp 313)],some (312,true),0⟩,
 ⟨(some 315),.bin .eql (.tmp 314) (.cst (.c (.int .i64 1))),some (312,true),0⟩,
 ⟨(some 316),.pick (.tmp 312) (.tmp 315) (.cst (.c (.bool false))),none,0⟩,
 ⟨(some 317),.mov (.tmp 316),none,0⟩,
 ⟨(some 318),.load (some 17) (.tmp 35),some (317,true),0⟩,
 ⟨(some 319),.call 22 true [(.tmp 318)],some (317,true),0⟩,
 ⟨(some 320),.bin .eql (.tmp 319) (.cst (.c (.int .i64 11))),some (317,true),0⟩,
 ⟨(some 321),.pick (.tmp 317) (.tmp 320) (.cst (.c (.bool false))),none,0⟩,
 ⟨(some 322),.mov (.tmp 321),none,0⟩,
 ⟨(some 323),.build [(.int .i64 0),(.int .i64 0),(.int .i64 0),(.int .i64 0),(.int .i64 0),(.int .i64 0),(.int .i64 0),(.int .i64 0),.nils,.nils,.nils,.nils,(.int .i64 0),.nils,(.int .i64 0),(.int .i64 0),(.int .i64 0)] [],some (322,true),0⟩,
 ⟨(some 324),.call 22 true [(.tmp 323)],some (322,true),0⟩,
 ⟨(some 325),.bin .eql (.tmp 324) (.cst (.c (.int .i64 1))),some (322,true),0⟩,
 ⟨(some 326),.pick (.tmp 322) (.tmp 325) (.cst (.c (.bool false))),none,0⟩,
 ⟨(some 327),.mov (.tmp 326),none,0⟩,
 ⟨(some 328),.call 16 true [],some (327,true),0⟩,
 ⟨(some 329),.pick (.tmp 327) (.tmp 328) (.cst (.c (.bool false))),none,0⟩,
 ⟨(some 0),.mov (.tmp 329),none,0⟩])
 .ret)))))))))))))))))))))))))⟩
def f16 : AFunc:=⟨133,[.tmp 0],false,
 (.seq (.region 0 [] [
 ⟨(some 0),.mov (.cst (.c (.bool false))),none,0⟩])
 (.seq (.region 1 [] [
 ⟨(some 20),.call 46 true [(.cst (.c .nils))],none,0⟩,
 ⟨(some 21),.call 47 true [],none,0⟩,
 ⟨(some 22),.bslice 1 4 [(.int .i64 0)] [(0,(.cst (.c (.int .i64 2)))),(1,(.cst (.c (.int .i64 1)))),(2,(.cst (.c (.int .i64 3)))),(3,(.cst (.c (.int .i64 0))))],none,0⟩,
 ⟨(some 23),.build [(.int .i64 0),(.int .i64 0),.nils] [(0,1,(.cst (.c (.int .i64 1)))),(1,1,(.cst (.c (.int .i64 100)))),(2,1,(.tmp 22))],none,1⟩,
 ⟨(some 24),.call 17 true [(.tmp 20),(.tmp 21),(.tmp 23)],none,1⟩,
 ⟨(some 19),.mov (.tmp 24),none,1⟩,
 ⟨(some 25),.extract 0 (.tmp 19),none,1⟩,
 ⟨(some 26),.extract 1 (.tmp 19),none,1⟩,
 ⟨(some 1),.mov (.tmp 25),none,1⟩,
 ⟨(some 2),.mov (.tmp 26),none,1⟩])
 (.seq (.region 0 [] [
 ⟨(some 28),.call 46 true [(.cst (.c .nils))],none,0⟩,
 ⟨(some 29),.call 28 true [(.tmp 28),(.cst (.c (.int .i64 0))),(.cst (.c (.int .i64 8)))],none,0⟩,
 ⟨(some 27),.mov (.tmp 29),none,0⟩,
 ⟨(some 30),.extract 0 (.tmp 27),none,0⟩,
 ⟨(some 31),.extract 1 (.tmp 27),none,0⟩,
 ⟨(some 3),.mov (.tmp 30),none,0⟩,
 ⟨(some 4),.mov (.tmp 31),none,0⟩])
 (.seq (.region 0 [] [
 ⟨(some 33),.call 46 true [(.cst (.c .nils))],none,0⟩,
 ⟨(some 34),.call 28 true [(.tmp 33),(.cst (.c (.int .i64 0))),(.cst (.c (.int .i64 2)))],none,0⟩,
 ⟨(some 32),.mov (.tmp 34),none,0⟩,
 ⟨(some 35),.extract 0 (.tmp 32),none,0⟩,
 ⟨(some 36),.extract 1 (.tmp 32),none,0⟩,
 ⟨(some 5),.mov (.tmp 35),none,0⟩,
 ⟨(some 6),.mov (.tmp 36),none,0⟩])
 (.seq (.region 0 [] [
 ⟨(some 38),.call 46 true [(.cst (.c .nils))],none,0⟩,
 ⟨(some 39),.call 51 true [(.tmp 38)],none,0⟩,
 ⟨(some 37),.mov (.tmp 39),none,0⟩,
 ⟨(some 40),.extract 0 (.tmp 37),none,0⟩,
 ⟨(some 41),.extract 1 (.tmp 37),none,0⟩,
 ⟨(some 42),.extract 2 (.tmp 37),none,0⟩,
 ⟨(some 7),.mov (.tmp 40),none,0⟩,
 ⟨(some 8),.mov (.tmp 41),none,0⟩,
 ⟨(some 9),.mov (.tmp 42),none,0⟩])
 (.seq (.region 0 [] [
 ⟨(some 44),.call 46 true [(.cst (.c .nils))],none,0⟩,
 ⟨(some 45),.call 49 true [(.tmp 44),(.cst (.c (.int .i64 6)))],none,0⟩,
 ⟨(some 43),.mov (.tmp 45),none,0⟩,
 ⟨(some 46),.extract 0 (.tmp 43),none,0⟩,
 ⟨(some 47),.extract 1 (.tmp 43),none,0⟩,
 ⟨(some 48),.extract 2 (.tmp 43),none,0⟩,
 ⟨(some 10),.mov (.tmp 46),none,0⟩,
 ⟨(some 11),.mov (.tmp 47),none,0⟩,
 ⟨(some 12),.mov (.tmp 48),none,0⟩])
 (.seq (.region 0 [] [
 ⟨(some 50),.call 46 true [(.cst (.c .nils))],none,0⟩,
 ⟨(some 51),.call 47 true [],none,0⟩,
 ⟨(some 52),.call 39 true [(.tmp 50),(.tmp 51),(.cst (.c (.int .i64 0))),(.cst (.c (.int .i64 2)))],none,0⟩,
 ⟨(some 49),.mov (.tmp 52),none,0⟩,
 ⟨(some 53),.extract 0 (.tmp 49),none,0⟩,
 ⟨(some 54),.extract 1 (.tmp 49),none,0⟩,
 ⟨(some 13),.mov (.tmp 53),none,0⟩,
 ⟨(some 14),.mov (.tmp 54),none,0⟩])
 (.seq (.region 0 [] [
 ⟨(some 56),.call 46 true [(.cst (.c .nils))],none,0⟩,
 ⟨(some 57),.call 47 true [],none,0⟩,
 ⟨(some 58),.call 40 true [(.tmp 56),(.tmp 57),(.cst (.c (.int .i64 0)))],none,0⟩,
 ⟨(some 55),.mov (.tmp 58),none,0⟩,
 ⟨(some 59),.extract 0 (.tmp 55),none,0⟩,
 ⟨(some 60),.extract 1 (.tmp 55),none,0⟩,
 ⟨(some 15),.mov (.tmp 59),none,0⟩,
 ⟨(some 16),.mov (.tmp 60),none,0⟩])
 (.seq (.region 1 [] [
 ⟨(some 62),.call 48 true [(.cst (.c (.int .i64 91))),(.cst (.c (.int .i64 99)))],none,0⟩,
 ⟨(some 63),.bslice 2 1 [(.int .i64 0),(.int .i64 0)] [(0,(.tmp 62))],none,0⟩,
 ⟨(some 64),.call 46 true [(.tmp 63)],none,1⟩,
 ⟨(some 65),.call 50 true [(.tmp 64)],none,1⟩,
 ⟨(some 61),.mov (.tmp 65),none,1⟩,
 ⟨(some 66),.extract 0 (.tmp 61),none,1⟩,
 ⟨(some 67),.extract 1 (.tmp 61),none,1⟩,
 ⟨(some 17),.mov (.tmp 66),none,1⟩,
 ⟨(some 18),.mov (.tmp 67),none,1⟩])
 (.seq (.region 2 [] [
 ⟨(some 68),.mov (.tmp 2),none,0⟩,
 ⟨(some 69),.bin .eql (.tmp 68) (.cst (.c (.int .i64 0))),none,0⟩,
 ⟨(some 70),.mov (.tmp 69),none,0⟩,
 ⟨(some 71),.mov (.tmp 1),some (70,true),0⟩,
 ⟨(some 72),.bslice 1 3 [(.int .i64 0)] [(0,(.cst (.c (.int .i64 18)))),(1,(.cst (.c (.int .i64 31)))),(2,(.cst (.c (.int .i64 16))))],some (70,true),0⟩,
 ⟨(some 73),.call 25 true [(.tmp 71),(.tmp 72)],some (70,true),1⟩,
 ⟨(some 74),.pick (.tmp 70) (.tmp 73) (.cst (.c (.bool false))),none,1⟩,
 ⟨(some 75),.mov (.tmp 74),none,1⟩,
 ⟨(some 76),.mov (.tmp 4),some (75,true),1⟩,
 ⟨(some 77),.bin .eql (.tmp 76) (.cst (.c (.int .i64 0))),some (75,true),1⟩,
 ⟨(some 78),.pick (.tmp 75) (.tmp 77) (.cst (.c (.bool false))),none,1⟩,
 ⟨(some 79),.mov (.tmp 78),none,1⟩,
 ⟨(some 80),.mov (.tmp 3),some (79,true),1⟩,
 ⟨(some 81),.bin .eql (.tmp 80) (.cst (.c (.int .i64 4))),some (79,true),1⟩,
 ⟨(some 82),.pick (.tmp 79) (.tmp 81) (.cst (.c (.bool false))),none,1⟩,
 ⟨(some 83),.mov (.tmp 82),none,1⟩,
 ⟨(some 84),.mov (.tmp 6),some (83,true),1⟩,
 ⟨(some 85),.bin .eql (.tmp 84) (.cst (.c (.int .i64 10))),some (83,true),1⟩,
 ⟨(some 86),.pick (.tmp 83) (.tmp 85) (.cst (.c (.bool false))),none,1⟩,
 ⟨(some 87),.mov (.tmp 86),none,1⟩,
 ⟨(some 88),.mov (.tmp 9),some (87,true),1⟩,
 ⟨(some 89),.bin .eql (.tmp 88) (.cst (.c (.int .i64 0))),some (87,true),1⟩,
 ⟨(some 90),.pick (.tmp 87) (.tmp 89) (.cst (.c (.bool false))),none,1⟩,
 ⟨(some 91),.mov (.tmp 90),none,1⟩,
 ⟨(some 92),.mov (.tmp 8),some (91,true),1⟩,
 ⟨(some 93),.bin .eql (.tmp 92) (.cst (.c (.int .i64 9))),some (91,true),1⟩,
 ⟨(some 94),.pick (.tmp 91) (.tmp 93) (.cst (.c (.bool false))),none,1⟩,
 ⟨(some 95),.mov (.tmp 94),none,1⟩,
 ⟨(some 96),.call 46 true [(.cst (.c .nils))],some (95,true),1⟩,
 ⟨(some 97),.mov (.tmp 7),some (95,true),1⟩,
 ⟨(some 98),.call 34 true [(.tmp 96),(.tmp 97),(.cst (.c (.int .i64 9)))],some (95,true),1⟩,
 ⟨(some 99),.pick (.tmp 95) (.tmp 98) (.cst (.c (.bool false))),none,1⟩,
 ⟨(some 100),.mov (.tmp 99),none,1⟩,
 ⟨(some 101),.mov (.tmp 12),some (100,true),1⟩,
 ⟨(some 102),.bin .eql (.tmp 101) (.cst (.c (.int .i64 0))),some (100,true),1⟩,
 ⟨(some 103),.pick (.tmp 100) (.tmp 102) (.cst (.c (.bool false))),none,1⟩,
 ⟨(some 104),.mov (.tmp 103),none,1⟩,
 ⟨(some 105),.mov (.tmp 11),some (104,true),1⟩,
 ⟨(some 106),.bin .eql (.tmp 105) (.cst (.c (.int .i64 2))),some (104,true),1⟩,
 ⟨(some 107),.pick (.tmp 104) (.tmp 106) (.cst (.c (.bool false))),none,1⟩,
 ⟨(some 108),.mov (.tmp 107),none,1⟩,
 ⟨(some 109),.mov (.tmp 14),some (108,true),1⟩,
 ⟨(some 110),.bin .eql (.tmp 109) (.cst (.c (.int .i64 0))),some (108,true),1⟩,
 ⟨(some 111),.pick (.tmp 108) (.tmp 110) (.cst (.c (.bool false))),none,1⟩,
 ⟨(some 112),.mov (.tmp 111),none,1⟩,
 ⟨(some 113),.mov (.tmp 13),some (112,true),1⟩,
 ⟨(some 114),.bin .eql (.tmp 113) (.cst (.c (.int .i64 1))),some (112,true),1⟩,
 ⟨(some 115),.pick (.tmp 112) (.tmp 114) (.cst (.c (.bool false))),none,1⟩,
 ⟨(some 116),.mov (.tmp 115),none,1⟩,
 ⟨(some 117),.mov (.tmp 16),some (116,true),1⟩,
 ⟨(some 118),.bin .eql (.tmp 117) (.cst (.c (.int .i64 0))),some (116,true),1⟩,
 ⟨(some 119),.pick (.tmp 116) (.tmp 118) (.cst (.c (.bool false))),none,1⟩,
 ⟨(some 120),.mov (.tmp 119),none,1⟩,
 ⟨(some 121),.mov (.tmp 15),some (120,true),1⟩,
 ⟨(some 122),.bin .eql (.tmp 121) (.cst (.c (.int .i64 3))),some (120,true),1⟩,
 ⟨(some 123),.pick (.tmp 120) (.tmp 122) (.cst (.c (.bool false))),none,1⟩,
 ⟨(some 124),.mov (.tmp 123),none,1⟩,
 ⟨(some 125),.mov (.tmp 18),some (124,true),1⟩,
 ⟨(some 126),.bin .eql (.tmp 125) (.cst (.c (.int .i64 0))),some (124,true),1⟩,
 ⟨(some 127),.pick (.tmp 124) (.tmp 126) (.cst (.c (.bool false))),none,1⟩,
 ⟨(some 128),.mov (.tmp 127),none,1⟩,
 ⟨(some 129),.mov (.tmp 17),some (128,true),1⟩,
 ⟨(some 130),.bslice 1 1 [(.int .i64 0)] [(0,(.cst (.c (.int .i64 3))))],some (128,true),1⟩,
 ⟨(some 131),.call 25 true [(.tmp 129),(.tmp 130)],some (128,true),2⟩,
 ⟨(some 132),.pick (.tmp 128) (.tmp 131) (.cst (.c (.bool false))),none,2⟩,
 ⟨(some 0),.mov (.tmp 132),none,2⟩])
 .ret))))))))))⟩
def f17 : AFunc:=⟨40,[.tmp 6,.tmp 7],false,
 (.seq (.region 2 [] [
 ⟨(some 3),.box (.tmp 0),none,0⟩,
 ⟨(some 5),.box (.tmp 2),none,1⟩,
 ⟨(some 6),.mov (.cst (.c .nils)),none,2⟩,
 ⟨(some 7),.mov (.cst (.c (.int .i64 0))),none,2⟩])
 (.seq (.seq (.region 0 [] [
 ⟨(some 13),.load (some 17) (.tmp 3),none,0⟩,
 ⟨(some 14),.call 22 true [(.tmp 13)],none,0⟩,
 ⟨(some 8),.mov (.tmp 14),none,0⟩])
 (.seq (.region 0 [] [
 ⟨(some 15),.mov (.tmp 8),none,0⟩,
 ⟨(some 16),.bin .neq (.tmp 15) (.cst (.c (.int .i64 0))),none,0⟩])
 (.cond (.tmp 16)
 (.seq (.region 0 [] [
 ⟨(some 17),.mov (.tmp 8),none,0⟩,
 ⟨(some 6),.mov (.cst (.c .nils)),none,0⟩,
 ⟨(some 7),.mov (.tmp 17),none,0⟩])
 .ret)
 .skip)))
 (.seq (.region 1 [] [
 ⟨(some 19),.load (some 17) (.tmp 3),none,0⟩,
 ⟨(some 20),.load (some 3) (.tmp 5),none,0⟩,
 ⟨(some 21),.call 62 true [(.tmp 19),(.tmp 20)],none,0⟩,
 ⟨(some 18),.mov (.tmp 21),none,0⟩,
 ⟨(some 22),.extract 0 (.tmp 18),none,0⟩,
 ⟨(some 23),.extract 1 (.tmp 18),none,0⟩,
 ⟨(some 9),.alloc [(.int .i64 0),(.int .i64 0),(.int .i64 0),(.int .i64 0),(.int .i64 0),(.int .i64 0),(.int .i64 0),(.int .i64 0),(.int .i64 0),(.int .i64 0),(.int .i64 0),(.int .i64 0),(.int .i64 0),(.int .i64 0),(.int .i64 0),(.int .i64 0),(.int .i64 0),(.int .i64 0),(.int .i64 0),(.int .i64 0)],none,0⟩,
 ⟨none,.store (some 20) (.tmp 9) (.tmp 22),none,1⟩,
 ⟨(some 10),.mov (.tmp 23),none,1⟩])
 (.seq (.seq (.region 0 [] [
 ⟨(some 25),.load (some 17) (.tmp 3),none,0⟩,
 ⟨(some 26),.mov (.tmp 1),none,0⟩,
 ⟨(some 27),.call 63 true [(.tmp 25),(.tmp 26)],none,0⟩,
 ⟨(some 24),.mov (.tmp 27),none,0⟩,
 ⟨(some 28),.extract 0 (.tmp 24),none,0⟩,
 ⟨(some 29),.extract 1 (.tmp 24),none,0⟩,
 ⟨(some 11),.mov (.tmp 28),none,0⟩,
 ⟨(some 12),.mov (.tmp 29),none,0⟩])
 (.seq (.region 0 [] [
 ⟨(some 30),.mov (.tmp 12),none,0⟩,
 ⟨(some 31),.not (.tmp 30),none,0⟩,
 ⟨(some 32),.mov (.tmp 31),none,0⟩,
 ⟨(some 33),.mov (.tmp 10),some (32,false),0⟩,
 ⟨(some 34),.not (.tmp 33),some (32,false),0⟩,
 ⟨(some 35),.pick (.tmp 32) (.cst (.c (.bool true))) (.tmp 34),none,0⟩])
 (.cond (.tmp 35)
 (.seq (.region 0 [] [
 ⟨(some 6),.mov (.cst (.c .nils)),none,0⟩,
 ⟨(some 7),.mov (.cst (.c (.int .i64 2))),none,0⟩])
 .ret)
 .skip)))
 (.seq (.region 0 [] [
 ⟨(some 36),.load (some 20) (.tmp 9),none,0⟩,
 ⟨(some 37),.load (some 17) (.tmp 3),none,0⟩,
 ⟨(some 38),.mov (.tmp 1),none,0⟩,
 ⟨(some 39),.call 64 true [(.tmp 36),(.tmp 37),(.tmp 38)],none,0⟩,
 ⟨(some 6),.mov (.tmp 39),none,0⟩,
 ⟨(some 7),.mov (.cst (.c (.int .i64 0))),none,0⟩])
 .ret)))))⟩
def f22 : AFunc:=⟨43,[.tmp 2],false,
 (.seq (.region 1 [] [
 ⟨(some 1),.box (.tmp 0),none,0⟩,
 ⟨(some 2),.mov (.cst (.c (.int .i64 0))),none,1⟩])
 (.seq (.seq (.region 0 [] [
 ⟨(some 5),.faddr 13 (.tmp 1),none,0⟩,
 ⟨(some 6),.load none (.tmp 5),none,0⟩,
 ⟨(some 7),.len (.tmp 6),none,0⟩,
 ⟨(some 8),.bin .gtr (.tmp 7) (.cst (.c (.int .i64 4))),none,0⟩])
 (.cond (.tmp 8)
 (.seq (.region 0 [] [
 ⟨(some 2),.mov (.cst (.c (.int .i64 3))),none,0⟩])
 .ret)
 .skip))
 (.seq (.seq (.region 0 [] [
 ⟨(some 10),.faddr 0 (.tmp 1),none,0⟩,
 ⟨(some 11),.load (some 12) (.tmp 10),none,0⟩,
 ⟨(some 12),.call 68 true [(.tmp 11)],none,0⟩,
 ⟨(some 9),.mov (.tmp 12),none,0⟩,
 ⟨(some 13),.extract 0 (.tmp 9),none,0⟩,
 ⟨(some 14),.extract 1 (.tmp 9),none,0⟩,
 ⟨(some 3),.mov (.tmp 13),none,0⟩,
 ⟨(some 4),.mov (.tmp 14),none,0⟩])
 (.seq (.region 0 [] [
 ⟨(some 15),.mov (.tmp 4),none,0⟩,
 ⟨(some 16),.bin .neq (.tmp 15) (.cst (.c (.int .i64 0))),none,0⟩])
 (.cond (.tmp 16)
 (.seq (.region 0 [] [
 ⟨(some 17),.mov (.tmp 4),none,0⟩,
 ⟨(some 2),.mov (.tmp 17),none,0⟩])
 .ret)
 .skip)))
 (.seq (.seq (.region 0 [] [
 ⟨(some 18),.faddr 12 (.tmp 1),none,0⟩,
 ⟨(some 19),.load none (.tmp 18),none,0⟩,
 ⟨(some 20),.faddr 0 (.tmp 1),none,0⟩,
 ⟨(some 21),.faddr 0 (.tmp 20),none,0⟩,
 ⟨(some 22),.load none (.tmp 21),none,0⟩,
 ⟨(some 23),.call 69 true [(.tmp 19),(.cst (.c (.int .i64 0))),(.tmp 22)],none,0⟩,
 ⟨(some 24),.not (.tmp 23),none,0⟩,
 ⟨(some 25),.mov (.tmp 24),none,0⟩,
 ⟨(some 26),.faddr 13 (.tmp 1),some (25,false),0⟩,
 ⟨(some 27),.load none (.tmp 26),some (25,false),0⟩,
 ⟨(some 28),.call 70 false [(.tmp 27),(.cst (.c (.fn 71 false [] [])))],some (25,false),0⟩,
 ⟨(some 29),.not (.tmp 28),some (25,false),0⟩,
 ⟨(some 30),.pick (.tmp 25) (.cst (.c (.bool true))) (.tmp 29),none,0⟩,
 ⟨(some 31),.mov (.tmp 30),none,0⟩,
 ⟨(some 32),.faddr 14 (.tmp 1),some (31,false),0⟩,
 ⟨(some 33),.load none (.tmp 32),some (31,false),0⟩,
 ⟨(some 34),.call 69 true [(.tmp 33),(.cst (.c (.int .i64 0))),(.cst (.c (.int .i64 9999)))],some (31,false),0⟩,
 ⟨(some 35),.not (.tmp 34),some (31,false),0⟩,
 ⟨(some 36),.pick (.tmp 31) (.cst (.c (.bool true))) (.tmp 35),none,0⟩,
 ⟨(some 37),.mov (.tmp 36),none,0⟩,
 ⟨(some 38),.faddr 15 (.tmp 1),some (37,false),0⟩,
 ⟨(some 39),.load (some 2) (.tmp 38),some (37,false),0⟩,
 ⟨(some 40),.call 71 true [(.tmp 39)],some (37,false),0⟩,
 ⟨(some 41),.not (.tmp 40),some (37,false),0⟩,
 ⟨(some 42),.pick (.tmp 37) (.cst (.c (.bool true))) (.tmp 41),none,0⟩])
 (.cond (.tmp 42)
 (.seq (.region 0 [] [
 ⟨(some 2),.mov (.cst (.c (.int .i64 1))),none,0⟩])
 .ret)
 .skip))
 (.seq (.region 0 [] [
 ⟨(some 2),.mov (.cst (.c (.int .i64 0))),none,0⟩])
 .ret)))))⟩
end Am.Vt
