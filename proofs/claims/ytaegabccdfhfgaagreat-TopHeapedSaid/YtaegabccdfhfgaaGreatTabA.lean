/-
  A part of the proof: the texts TmTabA of this seat, joined.
-/
import Derived.Test.YtaegabccdfhfgaaGreatAmA
namespace Am.Tm
open Go Am
set_option maxRecDepth 100000
def f3 : AFunc:=⟨201,[.tmp 14],false,
 (.seq (.region 2 [] [
 ⟨(some 7),.box (.tmp 0),none,0⟩,
 ⟨(some 8),.box (.tmp 1),none,1⟩,
 ⟨(some 14),.mov (.cst (.c (.bool false))),none,2⟩])
 (.seq (.seq (.region 0 [] [
 ⟨(some 29),.load (some 9) (.tmp 7),none,0⟩,
 ⟨(some 30),.call 4 true [(.tmp 29)],none,0⟩,
 ⟨(some 31),.not (.tmp 30),none,0⟩,
 ⟨(some 32),.mov (.tmp 31),none,0⟩,
 ⟨(some 33),.load (some 9) (.tmp 7),some (32,false),0⟩,
 ⟨(some 34),.call 5 true [(.tmp 33)],some (32,false),0⟩,
 ⟨(some 35),.bin .neq (.tmp 34) (.cst (.c (.int .i64 0))),some (32,false),0⟩,
 ⟨(some 36),.pick (.tmp 32) (.cst (.c (.bool true))) (.tmp 35),none,0⟩,
 ⟨(some 37),.mov (.tmp 36),none,0⟩,
 ⟨(some 38),.load (some 10) (.tmp 8),some (37,false),0⟩,
 ⟨(some 39),.call 6 true [(.tmp 38)],some (37,false),0⟩,
 ⟨(some 40),.not (.tmp 39),some (37,false),0⟩,
 ⟨(some 41),.pick (.tmp 37) (.cst (.c (.bool true))) (.tmp 40),none,0⟩,
 ⟨(some 42),.mov (.tmp 41),none,0⟩,
 ⟨(some 43),.load (some 10) (.tmp 8),some (42,false),0⟩,
 ⟨(some 44),.call 7 true [(.tmp 43)],some (42,false),0⟩,
 ⟨(some 45),.bin .neq (.tmp 44) (.cst (.c (.int .i64 0))),some (42,false),0⟩,
 ⟨(some 46),.pick (.tmp 42) (.cst (.c (.bool true))) (.tmp 45),none,0⟩])
 (.cond (.tmp 46)
 (.seq (.region 0 [] [
 ⟨(some 47),.call 8 true [],none,0⟩,
 ⟨(some 14),.mov (.tmp 47),none,0⟩])
 .ret)
 .skip))
 (.seq (.region 0 [] [
 ⟨(some 48),.mov (.tmp 4),none,0⟩,
 ⟨(some 49),.conv .i64 (.tmp 48),none,0⟩,
 ⟨(some 50),.faddr 0 (.tmp 7),none,0⟩,
 ⟨(some 51),.load none (.tmp 50),none,0⟩,
 ⟨(some 52),.conv .u64 (.tmp 51),none,0⟩,
 ⟨(some 53),.bin .shl (.cst (.c (.int .i64 2))) (.tmp 52),none,0⟩,
 ⟨(some 54),.bin .sub (.tmp 53) (.cst (.c (.int .i64 1))),none,0⟩,
 ⟨(some 55),.bin .and (.tmp 49) (.tmp 54),none,0⟩,
 ⟨(some 56),.call 9 true [(.tmp 55)],none,0⟩,
 ⟨(some 15),.mov (.tmp 56),none,0⟩])
 (.seq (.region 0 [] [
 ⟨(some 57),.mov (.tmp 15),none,0⟩,
 ⟨(some 58),.mov (.tmp 15),none,0⟩,
 ⟨(some 59),.len (.tmp 58),none,0⟩,
 ⟨(some 60),.faddr 3 (.tmp 7),none,0⟩,
 ⟨(some 61),.load none (.tmp 60),none,0⟩,
 ⟨(some 62),.len (.tmp 61),none,0⟩,
 ⟨(some 63),.mm false (.tmp 59) (.tmp 62),none,0⟩,
 ⟨(some 64),.slice 1 (.tmp 57) none (some (.tmp 63)),none,0⟩,
 ⟨(some 15),.mov (.tmp 64),none,0⟩])
 (.seq (.region 0 [] [
 ⟨(some 65),.load (some 9) (.tmp 7),none,0⟩,
 ⟨(some 66),.call 10 true [(.tmp 65)],none,0⟩,
 ⟨(some 16),.mov (.tmp 66),none,0⟩])
 (.seq (.region 2 [] [
 ⟨(some 68),.load (some 9) (.tmp 7),none,0⟩,
 ⟨(some 69),.call 12 true [(.tmp 68)],none,0⟩,
 ⟨(some 70),.bslice 1 0 [(.int .i64 0)] [],none,0⟩,
 ⟨(some 71),.mov (.tmp 15),none,1⟩,
 ⟨(some 72),.append 1 8 (.tmp 70) (.tmp 71),none,1⟩,
 ⟨(some 73),.call 11 true [(.tmp 69),(.tmp 72)],none,2⟩,
 ⟨(some 67),.mov (.tmp 73),none,2⟩,
 ⟨(some 74),.extract 0 (.tmp 67),none,2⟩,
 ⟨(some 75),.extract 1 (.tmp 67),none,2⟩,
 ⟨(some 17),.mov (.tmp 74),none,2⟩,
 ⟨(some 18),.mov (.tmp 75),none,2⟩])
 (.seq (.seq (.region 0 [] [
 ⟨(some 76),.mov (.tmp 18),none,0⟩,
 ⟨(some 77),.bin .neq (.tmp 76) (.cst (.c (.int .i64 0))),none,0⟩])
 (.cond (.tmp 77)
 (.seq (.region 0 [] [
 ⟨(some 78),.mov (.tmp 18),none,0⟩,
 ⟨(some 79),.bin .eql (.tmp 78) (.cst (.c (.int .i64 11))),none,0⟩,
 ⟨(some 80),.mov (.tmp 79),none,0⟩,
 ⟨(some 81),.mov (.tmp 16),some (80,true),0⟩,
 ⟨(some 82),.len (.tmp 81),some (80,true),0⟩,
 ⟨(some 83),.bin .eql (.tmp 82) (.cst (.c (.int .i64 0))),some (80,true),0⟩,
 ⟨(some 84),.pick (.tmp 80) (.tmp 83) (.cst (.c (.bool false))),none,0⟩,
 ⟨(some 85),.mov (.tmp 84),none,0⟩,
 ⟨(some 86),.call 8 true [],some (85,true),0⟩,
 ⟨(some 87),.pick (.tmp 85) (.tmp 86) (.cst (.c (.bool false))),none,0⟩,
 ⟨(some 14),.mov (.tmp 87),none,0⟩])
 .ret)
 .skip))
 (.seq (.seq (.region 0 [] [
 ⟨(some 88),.mov (.tmp 16),none,0⟩,
 ⟨(some 89),.len (.tmp 88),none,0⟩,
 ⟨(some 90),.bin .eql (.tmp 89) (.cst (.c (.int .i64 0))),none,0⟩,
 ⟨(some 91),.mov (.tmp 90),none,0⟩,
 ⟨(some 92),.mov (.tmp 17),some (91,false),0⟩,
 ⟨(some 93),.len (.tmp 92),some (91,false),0⟩,
 ⟨(some 94),.mov (.tmp 15),some (91,false),0⟩,
 ⟨(some 95),.len (.tmp 94),some (91,false),0⟩,
 ⟨(some 96),.bin .neq (.tmp 93) (.tmp 95),some (91,false),0⟩,
 ⟨(some 97),.pick (.tmp 91) (.cst (.c (.bool true))) (.tmp 96),none,0⟩])
 (.cond (.tmp 97)
 (.seq (.region 0 [] [
 ⟨(some 14),.mov (.cst (.c (.bool false))),none,0⟩])
 .ret)
 .skip))
 (.seq (.seq (.region 0 [] [
 ⟨(some 98),.mov (.tmp 15),none,0⟩,
 ⟨(some 99),.len (.tmp 98),none,0⟩,
 ⟨(some 100),.bin .eql (.tmp 99) (.cst (.c (.int .i64 0))),none,0⟩])
 (.cond (.tmp 100)
 (.seq (.region 0 [] [
 ⟨(some 101),.call 8 true [],none,0⟩,
 ⟨(some 14),.mov (.tmp 101),none,0⟩])
 .ret)
 .skip))
 (.seq (.region 2 [(0,2),(1,2),(0,3),(1,3),(2,3),(0,4),(1,4),(2,4),(0,5),(1,5),(2,5),(3,5),(4,5),(0,6),(1,6),(2,6),(3,6),(4,6),(0,7),(1,7),(2,7),(0,8),(1,8),(0,9),(1,9),(0,11),(1,11),(2,11),(3,11),(4,11),(5,11),(6,11),(7,11),(8,11),(9,11),(10,11),(0,12),(1,12),(2,12),(3,12),(4,12),(5,12),(6,12),(7,12),(8,12),(9,12),(10,12),(11,12),(16,17),(17,18)] [
 ⟨(some 103),.load (some 9) (.tmp 7),none,0⟩,
 ⟨(some 104),.call 12 true [(.tmp 103)],none,0⟩,
 ⟨(some 105),.mov (.tmp 16),none,0⟩,
 ⟨(some 106),.mov (.tmp 2),none,0⟩,
 ⟨(some 107),.conv .i64 (.tmp 106),none,0⟩,
 ⟨(some 108),.mov (.tmp 16),none,0⟩,
 ⟨(some 109),.len (.tmp 108),none,0⟩,
 ⟨(some 110),.bin .rem (.tmp 107) (.tmp 109),none,0⟩,
 ⟨(some 111),.iaddr 2 (.tmp 105) (.tmp 110),none,0⟩,
 ⟨(some 112),.load (some 2) (.tmp 111),none,0⟩,
 ⟨(some 113),.call 14 true [(.tmp 112)],none,0⟩,
 ⟨(some 114),.bslice 1 0 [(.int .i64 0)] [],none,0⟩,
 ⟨(some 115),.mov (.tmp 15),none,1⟩,
 ⟨(some 116),.append 1 8 (.tmp 114) (.tmp 115),none,1⟩,
 ⟨(some 117),.call 13 true [(.tmp 104),(.tmp 113),(.tmp 116)],none,2⟩,
 ⟨(some 102),.mov (.tmp 117),none,2⟩,
 ⟨(some 118),.extract 0 (.tmp 102),none,2⟩,
 ⟨(some 119),.extract 1 (.tmp 102),none,2⟩,
 ⟨(some 19),.mov (.tmp 118),none,2⟩,
 ⟨(some 20),.mov (.tmp 119),none,2⟩])
 (.seq (.seq (.region 0 [] [
 ⟨(some 120),.mov (.tmp 20),none,0⟩,
 ⟨(some 121),.bin .neq (.tmp 120) (.cst (.c (.int .i64 0))),none,0⟩,
 ⟨(some 122),.mov (.tmp 121),none,0⟩,
 ⟨(some 123),.mov (.tmp 19),some (122,false),0⟩,
 ⟨(some 124),.len (.tmp 123),some (122,false),0⟩,
 ⟨(some 125),.mov (.tmp 15),some (122,false),0⟩,
 ⟨(some 126),.len (.tmp 125),some (122,false),0⟩,
 ⟨(some 127),.bin .neq (.tmp 124) (.tmp 126),some (122,false),0⟩,
 ⟨(some 128),.pick (.tmp 122) (.cst (.c (.bool true))) (.tmp 127),none,0⟩])
 (.cond (.tmp 128)
 (.seq (.region 0 [] [
 ⟨(some 14),.mov (.cst (.c (.bool false))),none,0⟩])
 .ret)
 .skip))
 (.seq (.region 0 [(0,2),(1,2),(0,3),(1,3),(0,5),(1,5),(2,5),(3,5),(4,5),(0,6),(1,6),(2,6),(3,6),(4,6),(0,7),(1,7),(2,7),(3,7),(4,7),(5,7),(6,7),(0,8),(1,8),(2,8),(3,8),(4,8),(5,8),(6,8),(0,9),(1,9),(2,9),(3,9),(4,9),(5,9),(6,9),(0,10),(1,10),(2,10),(3,10),(4,10),(5,11),(6,11),(7,11),(8,11),(9,11),(10,11)] [
 ⟨(some 129),.mov (.tmp 5),none,0⟩,
 ⟨(some 130),.conv .i64 (.tmp 129),none,0⟩,
 ⟨(some 131),.mov (.tmp 15),none,0⟩,
 ⟨(some 132),.len (.tmp 131),none,0⟩,
 ⟨(some 133),.bin .rem (.tmp 130) (.tmp 132),none,0⟩,
 ⟨(some 134),.mov (.tmp 6),none,0⟩,
 ⟨(some 135),.conv .i64 (.tmp 134),none,0⟩,
 ⟨(some 136),.faddr 0 (.tmp 8),none,0⟩,
 ⟨(some 137),.load none (.tmp 136),none,0⟩,
 ⟨(some 138),.bin .add (.tmp 137) (.cst (.c (.int .i64 1))),none,0⟩,
 ⟨(some 139),.bin .rem (.tmp 135) (.tmp 138),none,0⟩,
 ⟨(some 21),.mov (.tmp 133),none,0⟩,
 ⟨(some 22),.mov (.tmp 139),none,0⟩])
 (.seq (.region 0 [(0,1),(0,2),(1,2),(0,3),(0,4),(0,5),(0,6),(0,7),(0,8),(1,8),(2,8),(3,8),(4,8),(5,8),(6,8),(7,8),(0,9),(1,9),(2,9),(3,9),(4,9),(5,9),(6,9),(7,9),(8,9),(12,13),(13,14)] [
 ⟨(some 141),.load (some 10) (.tmp 8),none,0⟩,
 ⟨(some 142),.mov (.tmp 17),none,0⟩,
 ⟨(some 143),.mov (.tmp 21),none,0⟩,
 ⟨(some 144),.iaddr 5 (.tmp 142) (.tmp 143),none,0⟩,
 ⟨(some 145),.faddr 0 (.tmp 144),none,0⟩,
 ⟨(some 146),.faddr 0 (.tmp 145),none,0⟩,
 ⟨(some 147),.load none (.tmp 146),none,0⟩,
 ⟨(some 148),.call 16 true [(.tmp 147)],none,0⟩,
 ⟨(some 149),.mov (.tmp 3),none,0⟩,
 ⟨(some 150),.mov (.tmp 22),none,0⟩,
 ⟨(some 151),.call 15 true [(.tmp 141),(.tmp 148),(.tmp 149),(.tmp 150)],none,0⟩,
 ⟨(some 140),.mov (.tmp 151),none,0⟩,
 ⟨(some 152),.extract 0 (.tmp 140),none,0⟩,
 ⟨(some 153),.extract 1 (.tmp 140),none,0⟩,
 ⟨(some 23),.mov (.tmp 152),none,0⟩,
 ⟨(some 24),.mov (.tmp 153),none,0⟩])
 (.seq (.region 0 [(0,1),(0,2),(1,2),(0,3),(0,4),(0,5),(0,6),(0,7),(1,7),(2,7),(3,7),(4,7),(5,7),(6,7),(0,8),(1,8),(2,8),(3,8),(4,8),(5,8),(6,8),(7,8),(11,12),(12,13)] [
 ⟨(some 155),.load (some 10) (.tmp 8),none,0⟩,
 ⟨(some 156),.mov (.tmp 19),none,0⟩,
 ⟨(some 157),.mov (.tmp 21),none,0⟩,
 ⟨(some 158),.iaddr 3 (.tmp 156) (.tmp 157),none,0⟩,
 ⟨(some 159),.faddr 0 (.tmp 158),none,0⟩,
 ⟨(some 160),.load none (.tmp 159),none,0⟩,
 ⟨(some 161),.call 16 true [(.tmp 160)],none,0⟩,
 ⟨(some 162),.mov (.tmp 3),none,0⟩,
 ⟨(some 163),.mov (.tmp 22),none,0⟩,
 ⟨(some 164),.call 15 true [(.tmp 155),(.tmp 161),(.tmp 162),(.tmp 163)],none,0⟩,
 ⟨(some 154),.mov (.tmp 164),none,0⟩,
 ⟨(some 165),.extract 0 (.tmp 154),none,0⟩,
 ⟨(some 166),.extract 1 (.tmp 154),none,0⟩,
 ⟨(some 25),.mov (.tmp 165),none,0⟩,
 ⟨(some 26),.mov (.tmp 166),none,0⟩])
 (.seq (.region 0 [(0,1),(0,2),(1,2),(0,3),(0,4),(0,5),(0,6),(0,7),(0,8),(1,8),(2,8),(3,8),(4,8),(5,8),(6,8),(7,8),(0,9),(1,9),(2,9),(3,9),(4,9),(5,9),(6,9),(7,9),(8,9),(12,13),(13,14)] [
 ⟨(some 168),.load (some 10) (.tmp 8),none,0⟩,
 ⟨(some 169),.mov (.tmp 17),none,0⟩,
 ⟨(some 170),.mov (.tmp 21),none,0⟩,
 ⟨(some 171),.iaddr 5 (.tmp 169) (.tmp 170),none,0⟩,
 ⟨(some 172),.faddr 0 (.tmp 171),none,0⟩,
 ⟨(some 173),.faddr 1 (.tmp 172),none,0⟩,
 ⟨(some 174),.load none (.tmp 173),none,0⟩,
 ⟨(some 175),.call 16 true [(.tmp 174)],none,0⟩,
 ⟨(some 176),.mov (.tmp 3),none,0⟩,
 ⟨(some 177),.mov (.tmp 22),none,0⟩,
 ⟨(some 178),.call 15 true [(.tmp 168),(.tmp 175),(.tmp 176),(.tmp 177)],none,0⟩,
 ⟨(some 167),.mov (.tmp 178),none,0⟩,
 ⟨(some 179),.extract 0 (.tmp 167),none,0⟩,
 ⟨(some 180),.extract 1 (.tmp 167),none,0⟩,
 ⟨(some 27),.mov (.tmp 179),none,0⟩,
 ⟨(some 28),.mov (.tmp 180),none,0⟩])
 (.seq (.region 0 [] [
 ⟨(some 181),.mov (.tmp 24),none,0⟩,
 ⟨(some 182),.mov (.tmp 181),none,0⟩,
 ⟨(some 183),.mov (.tmp 26),some (182,true),0⟩,
 ⟨(some 184),.pick (.tmp 182) (.tmp 183) (.cst (.c (.bool false))),none,0⟩,
 ⟨(some 185),.mov (.tmp 184),none,0⟩,
 ⟨(some 186),.mov (.tmp 28),some (185,true),0⟩,
 ⟨(some 187),.pick (.tmp 185) (.tmp 186) (.cst (.c (.bool false))),none,0⟩,
 ⟨(some 188),.mov (.tmp 187),none,0⟩,
 ⟨(some 189),.mov (.tmp 23),some (188,true),0⟩,
 ⟨(some 190),.mov (.tmp 25),some (188,true),0⟩,
 ⟨(some 191),.bin .leq (.tmp 189) (.tmp 190),some (188,true),0⟩,
 ⟨(some 192),.pick (.tmp 188) (.tmp 191) (.cst (.c (.bool false))),none,0⟩,
 ⟨(some 193),.mov (.tmp 192),none,0⟩,
 ⟨(some 194),.mov (.tmp 25),some (193,true),0⟩,
 ⟨(some 195),.mov (.tmp 27),some (193,true),0⟩,
 ⟨(some 196),.bin .leq (.tmp 194) (.tmp 195),some (193,true),0⟩,
 ⟨(some 197),.pick (.tmp 193) (.tmp 196) (.cst (.c (.bool false))),none,0⟩,
 ⟨(some 198),.mov (.tmp 197),none,0⟩,
 ⟨(some 199),.call 8 true [],some (198,true),0⟩,
 ⟨(some 200),.pick (.tmp 198) (.tmp 199) (.cst (.c (.bool false))),none,0⟩,
 ⟨(some 14),.mov (.tmp 200),none,0⟩])
 .ret))))))))))))))))⟩
def f4 : AFunc:=⟨41,[.tmp 2],false,
 (.seq (.region 1 [] [
 ⟨(some 1),.box (.tmp 0),none,0⟩,
 ⟨(some 2),.mov (.cst (.c (.bool false))),none,1⟩])
 (.seq (.region 0 [] [
 ⟨(some 3),.faddr 1 (.tmp 1),none,0⟩,
 ⟨(some 4),.load none (.tmp 3),none,0⟩,
 ⟨(some 5),.len (.tmp 4),none,0⟩,
 ⟨(some 6),.bin .leq (.tmp 5) (.cst (.c (.int .i64 12))),none,0⟩,
 ⟨(some 7),.mov (.tmp 6),none,0⟩,
 ⟨(some 8),.faddr 2 (.tmp 1),some (7,true),0⟩,
 ⟨(some 9),.load none (.tmp 8),some (7,true),0⟩,
 ⟨(some 10),.len (.tmp 9),some (7,true),0⟩,
 ⟨(some 11),.bin .leq (.tmp 10) (.cst (.c (.int .i64 12))),some (7,true),0⟩,
 ⟨(some 12),.pick (.tmp 7) (.tmp 11) (.cst (.c (.bool false))),none,0⟩,
 ⟨(some 13),.mov (.tmp 12),none,0⟩,
 ⟨(some 14),.faddr 3 (.tmp 1),some (13,true),0⟩,
 ⟨(some 15),.load none (.tmp 14),some (13,true),0⟩,
 ⟨(some 16),.len (.tmp 15),some (13,true),0⟩,
 ⟨(some 17),.bin .leq (.tmp 16) (.cst (.c (.int .i64 5))),some (13,true),0⟩,
 ⟨(some 18),.pick (.tmp 13) (.tmp 17) (.cst (.c (.bool false))),none,0⟩,
 ⟨(some 19),.mov (.tmp 18),none,0⟩,
 ⟨(some 20),.faddr 4 (.tmp 1),some (19,true),0⟩,
 ⟨(some 21),.load none (.tmp 20),some (19,true),0⟩,
 ⟨(some 22),.len (.tmp 21),some (19,true),0⟩,
 ⟨(some 23),.bin .leq (.tmp 22) (.cst (.c (.int .i64 12))),some (19,true),0⟩,
 ⟨(some 24),.pick (.tmp 19) (.tmp 23) (.cst (.c (.bool false))),none,0⟩,
 ⟨(some 25),.mov (.tmp 24),none,0⟩,
 ⟨(some 26),.faddr 8 (.tmp 1),some (25,true),0⟩,
 ⟨(some 27),.load none (.tmp 26),some (25,true),0⟩,
 ⟨(some 28),.len (.tmp 27),some (25,true),0⟩,
 ⟨(some 29),.bin .leq (.tmp 28) (.cst (.c (.int .i64 7))),some (25,true),0⟩,
 ⟨(some 30),.pick (.tmp 25) (.tmp 29) (.cst (.c (.bool false))),none,0⟩,
 ⟨(some 31),.mov (.tmp 30),none,0⟩,
 ⟨(some 32),.load (some 9) (.tmp 1),some (31,true),0⟩,
 ⟨(some 33),.call 5 true [(.tmp 32)],some (31,true),0⟩,
 ⟨(some 34),.bin .neq (.tmp 33) (.cst (.c (.int .i64 0))),some (31,true),0⟩,
 ⟨(some 35),.mov (.tmp 34),some (31,true),0⟩,
 ⟨(some 36),.load (some 9) (.tmp 1),some (35,false),0⟩,
 ⟨(some 37),.call 17 true [(.tmp 36)],some (35,false),0⟩,
 ⟨(some 38),.bin .leq (.tmp 37) (.cst (.c (.int .i64 100))),some (35,false),0⟩,
 ⟨(some 39),.pick (.tmp 35) (.cst (.c (.bool true))) (.tmp 38),some (31,true),0⟩,
 ⟨(some 40),.pick (.tmp 31) (.tmp 39) (.cst (.c (.bool false))),none,0⟩,
 ⟨(some 2),.mov (.tmp 40),none,0⟩])
 .ret))⟩
def f5 : AFunc:=⟨157,[.tmp 2],false,
 (.seq (.region 1 [] [
 ⟨(some 1),.box (.tmp 0),none,0⟩,
 ⟨(some 2),.mov (.cst (.c (.int .i64 0))),none,1⟩])
 (.seq (.seq (.region 0 [] [
 ⟨(some 6),.faddr 0 (.tmp 1),none,0⟩,
 ⟨(some 7),.load none (.tmp 6),none,0⟩,
 ⟨(some 8),.bin .gtr (.tmp 7) (.cst (.c (.int .i64 9))),none,0⟩,
 ⟨(some 9),.mov (.tmp 8),none,0⟩,
 ⟨(some 10),.faddr 3 (.tmp 1),some (9,false),0⟩,
 ⟨(some 11),.load none (.tmp 10),some (9,false),0⟩,
 ⟨(some 12),.len (.tmp 11),some (9,false),0⟩,
 ⟨(some 13),.bin .gtr (.tmp 12) (.cst (.c (.int .i64 3))),some (9,false),0⟩,
 ⟨(some 14),.pick (.tmp 9) (.cst (.c (.bool true))) (.tmp 13),none,0⟩,
 ⟨(some 15),.mov (.tmp 14),none,0⟩,
 ⟨(some 16),.faddr 8 (.tmp 1),some (15,false),0⟩,
 ⟨(some 17),.load none (.tmp 16),some (15,false),0⟩,
 ⟨(some 18),.len (.tmp 17),some (15,false),0⟩,
 ⟨(some 19),.bin .gtr (.tmp 18) (.cst (.c (.int .i64 5))),some (15,false),0⟩,
 ⟨(some 20),.pick (.tmp 15) (.cst (.c (.bool true))) (.tmp 19),none,0⟩])
 (.cond (.tmp 20)
 (.seq (.region 0 [] [
 ⟨(some 2),.mov (.cst (.c (.int .i64 3))),none,0⟩])
 .ret)
 .skip))
 (.seq (.seq (.region 0 [] [
 ⟨(some 21),.faddr 0 (.tmp 1),none,0⟩,
 ⟨(some 22),.load none (.tmp 21),none,0⟩,
 ⟨(some 23),.bin .lss (.tmp 22) (.cst (.c (.int .i64 0))),none,0⟩,
 ⟨(some 24),.mov (.tmp 23),none,0⟩,
 ⟨(some 25),.faddr 1 (.tmp 1),some (24,false),0⟩,
 ⟨(some 26),.load none (.tmp 25),some (24,false),0⟩,
 ⟨(some 27),.len (.tmp 26),some (24,false),0⟩,
 ⟨(some 28),.faddr 0 (.tmp 1),some (24,false),0⟩,
 ⟨(some 29),.load none (.tmp 28),some (24,false),0⟩,
 ⟨(some 30),.bin .add (.tmp 29) (.cst (.c (.int .i64 1))),some (24,false),0⟩,
 ⟨(some 31),.bin .neq (.tmp 27) (.tmp 30),some (24,false),0⟩,
 ⟨(some 32),.pick (.tmp 24) (.cst (.c (.bool true))) (.tmp 31),none,0⟩,
 ⟨(some 33),.mov (.tmp 32),none,0⟩,
 ⟨(some 34),.faddr 2 (.tmp 1),some (33,false),0⟩,
 ⟨(some 35),.load none (.tmp 34),some (33,false),0⟩,
 ⟨(some 36),.len (.tmp 35),some (33,false),0⟩,
 ⟨(some 37),.faddr 0 (.tmp 1),some (33,false),0⟩,
 ⟨(some 38),.load none (.tmp 37),some (33,false),0⟩,
 ⟨(some 39),.bin .add (.tmp 38) (.cst (.c (.int .i64 1))),some (33,false),0⟩,
 ⟨(some 40),.bin .neq (.tmp 36) (.tmp 39),some (33,false),0⟩,
 ⟨(some 41),.pick (.tmp 33) (.cst (.c (.bool true))) (.tmp 40),none,0⟩,
 ⟨(some 42),.mov (.tmp 41),none,0⟩,
 ⟨(some 43),.faddr 3 (.tmp 1),some (42,false),0⟩,
 ⟨(some 44),.load none (.tmp 43),some (42,false),0⟩,
 ⟨(some 45),.len (.tmp 44),some (42,false),0⟩,
 ⟨(some 46),.bin .eql (.tmp 45) (.cst (.c (.int .i64 0))),some (42,false),0⟩,
 ⟨(some 47),.pick (.tmp 42) (.cst (.c (.bool true))) (.tmp 46),none,0⟩,
 ⟨(some 48),.mov (.tmp 47),none,0⟩,
 ⟨(some 49),.faddr 5 (.tmp 1),some (48,false),0⟩,
 ⟨(some 50),.load none (.tmp 49),some (48,false),0⟩,
 ⟨(some 51),.call 18 true [(.tmp 50),(.cst (.c (.int .i64 1))),(.cst (.c (.int .i64 10)))],some (48,false),0⟩,
 ⟨(some 52),.not (.tmp 51),some (48,false),0⟩,
 ⟨(some 53),.pick (.tmp 48) (.cst (.c (.bool true))) (.tmp 52),none,0⟩,
 ⟨(some 54),.mov (.tmp 53),none,0⟩,
 ⟨(some 55),.faddr 6 (.tmp 1),some (54,false),0⟩,
 ⟨(some 56),.load none (.tmp 55),some (54,false),0⟩,
 ⟨(some 57),.call 18 true [(.tmp 56),(.cst (.c (.int .i64 0))),(.cst (.c (.int .i64 50)))],some (54,false),0⟩,
 ⟨(some 58),.not (.tmp 57),some (54,false),0⟩,
 ⟨(some 59),.pick (.tmp 54) (.cst (.c (.bool true))) (.tmp 58),none,0⟩,
 ⟨(some 60),.mov (.tmp 59),none,0⟩,
 ⟨(some 61),.faddr 7 (.tmp 1),some (60,false),0⟩,
 ⟨(some 62),.load none (.tmp 61),some (60,false),0⟩,
 ⟨(some 63),.call 18 true [(.tmp 62),(.cst (.c (.int .i64 0))),(.cst (.c (.int .i64 100)))],some (60,false),0⟩,
 ⟨(some 64),.not (.tmp 63),some (60,false),0⟩,
 ⟨(some 65),.pick (.tmp 60) (.cst (.c (.bool true))) (.tmp 64),none,0⟩,
 ⟨(some 66),.mov (.tmp 65),none,0⟩,
 ⟨(some 67),.load (some 9) (.tmp 1),some (66,false),0⟩,
 ⟨(some 68),.faddr 4 (.tmp 1),some (66,false),0⟩,
 ⟨(some 69),.load none (.tmp 68),some (66,false),0⟩,
 ⟨(some 70),.call 19 true [(.tmp 67),(.tmp 69)],some (66,false),0⟩,
 ⟨(some 71),.not (.tmp 70),some (66,false),0⟩,
 ⟨(some 72),.pick (.tmp 66) (.cst (.c (.bool true))) (.tmp 71),none,0⟩])
 (.cond (.tmp 72)
 (.seq (.region 0 [] [
 ⟨(some 2),.mov (.cst (.c (.int .i64 1))),none,0⟩])
 .ret)
 .skip))
 (.seq (.seq (.region 0 [] [
 ⟨(some 3),.mov (.cst (.c (.int .i64 0))),none,0⟩])
 (.block 0 (.loop ⟨[2,73,74,75,76,77,78,79,80,81,82,83,84,85,86,87,88,89,90,91,92,93,94],false,[]⟩
 (.seq (.seq (.region 0 [] [
 ⟨(some 73),.mov (.tmp 3),none,0⟩,
 ⟨(some 74),.faddr 0 (.tmp 1),none,0⟩,
 ⟨(some 75),.load none (.tmp 74),none,0⟩,
 ⟨(some 76),.bin .leq (.tmp 73) (.tmp 75),none,0⟩])
 (.cond (.tmp 76)
 .skip
 (.exit 0)))
 (.seq (.block 1 (.seq (.region 0 [] [
 ⟨(some 79),.faddr 1 (.tmp 1),none,0⟩,
 ⟨(some 80),.load none (.tmp 79),none,0⟩,
 ⟨(some 81),.mov (.tmp 3),none,0⟩,
 ⟨(some 82),.iaddr 2 (.tmp 80) (.tmp 81),none,0⟩,
 ⟨(some 83),.load (some 2) (.tmp 82),none,0⟩,
 ⟨(some 84),.call 20 true [(.tmp 83),(.cst (.c (.int .i64 0))),(.cst (.c (.int .i64 50)))],none,0⟩,
 ⟨(some 85),.not (.tmp 84),none,0⟩,
 ⟨(some 86),.mov (.tmp 85),none,0⟩,
 ⟨(some 87),.faddr 2 (.tmp 1),some (86,false),0⟩,
 ⟨(some 88),.load none (.tmp 87),some (86,false),0⟩,
 ⟨(some 89),.mov (.tmp 3),some (86,false),0⟩,
 ⟨(some 90),.iaddr 1 (.tmp 88) (.tmp 89),some (86,false),0⟩,
 ⟨(some 91),.load none (.tmp 90),some (86,false),0⟩,
 ⟨(some 92),.call 18 true [(.tmp 91),(.cst (.c (.int .i64 0))),(.cst (.c (.int .i64 2)))],some (86,false),0⟩,
 ⟨(some 93),.not (.tmp 92),some (86,false),0⟩,
 ⟨(some 94),.pick (.tmp 86) (.cst (.c (.bool true))) (.tmp 93),none,0⟩])
 (.cond (.tmp 94)
 (.seq (.region 0 [] [
 ⟨(some 2),.mov (.cst (.c (.int .i64 1))),none,0⟩])
 .ret)
 .skip)))
 (.region 0 [] [
 ⟨(some 77),.mov (.tmp 3),none,0⟩,
 ⟨(some 78),.bin .add (.tmp 77) (.cst (.c (.int .i64 1))),none,0⟩,
 ⟨(some 3),.mov (.tmp 78),none,0⟩]))))))
 (.seq (.seq (.region 0 [] [
 ⟨(some 4),.mov (.cst (.c (.int .i64 0))),none,0⟩])
 (.block 2 (.loop ⟨[2,95,96,97,98,99,100,101,102,103,104,105,106,107,108,109,110,111,112,113,114,115,116,117,118,119,120,121,122,123,124,125,126],false,[]⟩
 (.seq (.seq (.region 0 [] [
 ⟨(some 95),.mov (.tmp 4),none,0⟩,
 ⟨(some 96),.faddr 3 (.tmp 1),none,0⟩,
 ⟨(some 97),.load none (.tmp 96),none,0⟩,
 ⟨(some 98),.len (.tmp 97),none,0⟩,
 ⟨(some 99),.bin .lss (.tmp 95) (.tmp 98),none,0⟩])
 (.cond (.tmp 99)
 .skip
 (.exit 2)))
 (.seq (.block 3 (.seq (.region 0 [(0,2),(1,2),(11,13),(12,13),(11,16),(12,16),(13,16),(14,16),(15,16),(11,17),(12,17),(13,17),(14,17),(15,17),(11,18),(12,18),(13,18),(14,18),(15,18),(16,18),(17,18),(11,19),(12,19),(13,19),(14,19),(15,19),(16,19),(17,19),(11,20),(12,20),(13,20),(14,20),(15,20),(11,21),(12,21),(13,21),(14,21),(15,21)] [
 ⟨(some 102),.faddr 3 (.tmp 1),none,0⟩,
 ⟨(some 103),.load none (.tmp 102),none,0⟩,
 ⟨(some 104),.mov (.tmp 4),none,0⟩,
 ⟨(some 105),.iaddr 1 (.tmp 103) (.tmp 104),none,0⟩,
 ⟨(some 106),.load none (.tmp 105),none,0⟩,
 ⟨(some 107),.call 18 true [(.tmp 106),(.cst (.c (.int .i64 0))),(.cst (.c (.int .i64 200)))],none,0⟩,
 ⟨(some 108),.not (.tmp 107),none,0⟩,
 ⟨(some 109),.mov (.tmp 108),none,0⟩,
 ⟨(some 110),.mov (.tmp 4),some (109,false),0⟩,
 ⟨(some 111),.bin .gtr (.tmp 110) (.cst (.c (.int .i64 0))),some (109,false),0⟩,
 ⟨(some 112),.mov (.tmp 111),some (109,false),0⟩,
 ⟨(some 113),.faddr 3 (.tmp 1),some (112,true),0⟩,
 ⟨(some 114),.load none (.tmp 113),some (112,true),0⟩,
 ⟨(some 115),.mov (.tmp 4),some (112,true),0⟩,
 ⟨(some 116),.iaddr 1 (.tmp 114) (.tmp 115),some (112,true),0⟩,
 ⟨(some 117),.load none (.tmp 116),some (112,true),0⟩,
 ⟨(some 118),.faddr 3 (.tmp 1),some (112,true),0⟩,
 ⟨(some 119),.load none (.tmp 118),some (112,true),0⟩,
 ⟨(some 120),.mov (.tmp 4),some (112,true),0⟩,
 ⟨(some 121),.bin .sub (.tmp 120) (.cst (.c (.int .i64 1))),some (112,true),0⟩,
 ⟨(some 122),.iaddr 1 (.tmp 119) (.tmp 121),some (112,true),0⟩,
 ⟨(some 123),.load none (.tmp 122),some (112,true),0⟩,
 ⟨(some 124),.bin .gtr (.tmp 117) (.tmp 123),some (112,true),0⟩,
 ⟨(some 125),.pick (.tmp 112) (.tmp 124) (.cst (.c (.bool false))),some (109,false),0⟩,
 ⟨(some 126),.pick (.tmp 109) (.cst (.c (.bool true))) (.tmp 125),none,0⟩])
 (.cond (.tmp 126)
 (.seq (.region 0 [] [
 ⟨(some 2),.mov (.cst (.c (.int .i64 1))),none,0⟩])
 .ret)
 .skip)))
 (.region 0 [] [
 ⟨(some 100),.mov (.tmp 4),none,0⟩,
 ⟨(some 101),.bin .add (.tmp 100) (.cst (.c (.int .i64 1))),none,0⟩,
 ⟨(some 4),.mov (.tmp 101),none,0⟩]))))))
 (.seq (.seq (.region 0 [] [
 ⟨(some 5),.mov (.cst (.c (.int .i64 0))),none,0⟩])
 (.block 4 (.loop ⟨[2,127,128,129,130,131,132,133,134,135,136,137,138,139,140,141,142,143,144,145,146,147,148,149,150,151,152,153],false,[]⟩
 (.seq (.seq (.region 0 [] [
 ⟨(some 127),.mov (.tmp 5),none,0⟩,
 ⟨(some 128),.faddr 8 (.tmp 1),none,0⟩,
 ⟨(some 129),.load none (.tmp 128),none,0⟩,
 ⟨(some 130),.len (.tmp 129),none,0⟩,
 ⟨(some 131),.bin .lss (.tmp 127) (.tmp 130),none,0⟩])
 (.cond (.tmp 131)
 .skip
 (.exit 4)))
 (.seq (.block 5 (.seq (.region 0 [(0,2),(1,2),(0,6),(1,6),(2,6),(3,6),(4,6),(5,6),(0,7),(1,7),(2,7),(3,7),(4,7),(5,7),(11,13),(12,13)] [
 ⟨(some 134),.faddr 8 (.tmp 1),none,0⟩,
 ⟨(some 135),.load none (.tmp 134),none,0⟩,
 ⟨(some 136),.mov (.tmp 5),none,0⟩,
 ⟨(some 137),.iaddr 3 (.tmp 135) (.tmp 136),none,0⟩,
 ⟨(some 138),.faddr 0 (.tmp 137),none,0⟩,
 ⟨(some 139),.load none (.tmp 138),none,0⟩,
 ⟨(some 140),.faddr 0 (.tmp 1),none,0⟩,
 ⟨(some 141),.load none (.tmp 140),none,0⟩,
 ⟨(some 142),.call 18 true [(.tmp 139),(.cst (.c (.int .i64 0))),(.tmp 141)],none,0⟩,
 ⟨(some 143),.not (.tmp 142),none,0⟩,
 ⟨(some 144),.mov (.tmp 143),none,0⟩,
 ⟨(some 145),.faddr 8 (.tmp 1),some (144,false),0⟩,
 ⟨(some 146),.load none (.tmp 145),some (144,false),0⟩,
 ⟨(some 147),.mov (.tmp 5),some (144,false),0⟩,
 ⟨(some 148),.iaddr 3 (.tmp 146) (.tmp 147),some (144,false),0⟩,
 ⟨(some 149),.faddr 1 (.tmp 148),some (144,false),0⟩,
 ⟨(some 150),.load (some 2) (.tmp 149),some (144,false),0⟩,
 ⟨(some 151),.call 20 true [(.tmp 150),(.cst (.c (.int .i64 0))),(.cst (.c (.int .i64 1000)))],some (144,false),0⟩,
 ⟨(some 152),.not (.tmp 151),some (144,false),0⟩,
 ⟨(some 153),.pick (.tmp 144) (.cst (.c (.bool true))) (.tmp 152),none,0⟩])
 (.cond (.tmp 153)
 (.seq (.region 0 [] [
 ⟨(some 2),.mov (.cst (.c (.int .i64 1))),none,0⟩])
 .ret)
 .skip)))
 (.region 0 [] [
 ⟨(some 132),.mov (.tmp 5),none,0⟩,
 ⟨(some 133),.bin .add (.tmp 132) (.cst (.c (.int .i64 1))),none,0⟩,
 ⟨(some 5),.mov (.tmp 133),none,0⟩]))))))
 (.seq (.seq (.region 0 [] [
 ⟨(some 154),.load (some 9) (.tmp 1),none,0⟩,
 ⟨(some 155),.call 17 true [(.tmp 154)],none,0⟩,
 ⟨(some 156),.bin .gtr (.tmp 155) (.cst (.c (.int .i64 2000))),none,0⟩])
 (.cond (.tmp 156)
 (.seq (.region 0 [] [
 ⟨(some 2),.mov (.cst (.c (.int .i64 3))),none,0⟩])
 .ret)
 .skip))
 (.seq (.region 0 [] [
 ⟨(some 2),.mov (.cst (.c (.int .i64 0))),none,0⟩])
 .ret))))))))⟩
def f6 : AFunc:=⟨29,[.tmp 2],false,
 (.seq (.region 1 [] [
 ⟨(some 1),.box (.tmp 0),none,0⟩,
 ⟨(some 2),.mov (.cst (.c (.bool false))),none,1⟩])
 (.seq (.region 0 [] [
 ⟨(some 3),.faddr 7 (.tmp 1),none,0⟩,
 ⟨(some 4),.load none (.tmp 3),none,0⟩,
 ⟨(some 5),.len (.tmp 4),none,0⟩,
 ⟨(some 6),.bin .leq (.tmp 5) (.cst (.c (.int .i64 12))),none,0⟩,
 ⟨(some 7),.mov (.tmp 6),none,0⟩,
 ⟨(some 8),.faddr 8 (.tmp 1),some (7,true),0⟩,
 ⟨(some 9),.load none (.tmp 8),some (7,true),0⟩,
 ⟨(some 10),.len (.tmp 9),some (7,true),0⟩,
 ⟨(some 11),.bin .leq (.tmp 10) (.cst (.c (.int .i64 12))),some (7,true),0⟩,
 ⟨(some 12),.pick (.tmp 7) (.tmp 11) (.cst (.c (.bool false))),none,0⟩,
 ⟨(some 13),.mov (.tmp 12),none,0⟩,
 ⟨(some 14),.faddr 9 (.tmp 1),some (13,true),0⟩,
 ⟨(some 15),.load none (.tmp 14),some (13,true),0⟩,
 ⟨(some 16),.len (.tmp 15),some (13,true),0⟩,
 ⟨(some 17),.bin .leq (.tmp 16) (.cst (.c (.int .i64 7))),some (13,true),0⟩,
 ⟨(some 18),.pick (.tmp 13) (.tmp 17) (.cst (.c (.bool false))),none,0⟩,
 ⟨(some 19),.mov (.tmp 18),none,0⟩,
 ⟨(some 20),.load (some 10) (.tmp 1),some (19,true),0⟩,
 ⟨(some 21),.call 7 true [(.tmp 20)],some (19,true),0⟩,
 ⟨(some 22),.bin .neq (.tmp 21) (.cst (.c (.int .i64 0))),some (19,true),0⟩,
 ⟨(some 23),.mov (.tmp 22),some (19,true),0⟩,
 ⟨(some 24),.load (some 10) (.tmp 1),some (23,false),0⟩,
 ⟨(some 25),.call 21 true [(.tmp 24)],some (23,false),0⟩,
 ⟨(some 26),.bin .leq (.tmp 25) (.cst (.c (.int .i64 100))),some (23,false),0⟩,
 ⟨(some 27),.pick (.tmp 23) (.cst (.c (.bool true))) (.tmp 26),some (19,true),0⟩,
 ⟨(some 28),.pick (.tmp 19) (.tmp 27) (.cst (.c (.bool false))),none,0⟩,
 ⟨(some 2),.mov (.tmp 28),none,0⟩])
 .ret))⟩
def f7 : AFunc:=⟨113,[.tmp 2],false,
 (.seq (.region 1 [] [
 ⟨(some 1),.box (.tmp 0),none,0⟩,
 ⟨(some 2),.mov (.cst (.c (.int .i64 0))),none,1⟩])
 (.seq (.seq (.region 0 [] [
 ⟨(some 6),.faddr 0 (.tmp 1),none,0⟩,
 ⟨(some 7),.load none (.tmp 6),none,0⟩,
 ⟨(some 8),.bin .gtr (.tmp 7) (.cst (.c (.int .i64 9))),none,0⟩,
 ⟨(some 9),.mov (.tmp 8),none,0⟩,
 ⟨(some 10),.faddr 9 (.tmp 1),some (9,false),0⟩,
 ⟨(some 11),.load none (.tmp 10),some (9,false),0⟩,
 ⟨(some 12),.len (.tmp 11),some (9,false),0⟩,
 ⟨(some 13),.bin .gtr (.tmp 12) (.cst (.c (.int .i64 5))),some (9,false),0⟩,
 ⟨(some 14),.pick (.tmp 9) (.cst (.c (.bool true))) (.tmp 13),none,0⟩])
 (.cond (.tmp 14)
 (.seq (.region 0 [] [
 ⟨(some 2),.mov (.cst (.c (.int .i64 3))),none,0⟩])
 .ret)
 .skip))
 (.seq (.seq (.region 0 [] [
 ⟨(some 15),.faddr 0 (.tmp 1),none,0⟩,
 ⟨(some 16),.load none (.tmp 15),none,0⟩,
 ⟨(some 17),.bin .lss (.tmp 16) (.cst (.c (.int .i64 0))),none,0⟩,
 ⟨(some 18),.mov (.tmp 17),none,0⟩,
 ⟨(some 19),.faddr 1 (.tmp 1),some (18,false),0⟩,
 ⟨(some 20),.load none (.tmp 19),some (18,false),0⟩,
 ⟨(some 21),.call 22 true [(.tmp 20),(.cst (.c (.int .i64 0))),(.cst (.c (.int .i64 20)))],some (18,false),0⟩,
 ⟨(some 22),.not (.tmp 21),some (18,false),0⟩,
 ⟨(some 23),.pick (.tmp 18) (.cst (.c (.bool true))) (.tmp 22),none,0⟩,
 ⟨(some 24),.mov (.tmp 23),none,0⟩,
 ⟨(some 25),.faddr 2 (.tmp 1),some (24,false),0⟩,
 ⟨(some 26),.load none (.tmp 25),some (24,false),0⟩,
 ⟨(some 27),.call 22 true [(.tmp 26),(.cst (.c (.int .i64 0))),(.cst (.c (.int .i64 100)))],some (24,false),0⟩,
 ⟨(some 28),.not (.tmp 27),some (24,false),0⟩,
 ⟨(some 29),.pick (.tmp 24) (.cst (.c (.bool true))) (.tmp 28),none,0⟩,
 ⟨(some 30),.mov (.tmp 29),none,0⟩,
 ⟨(some 31),.faddr 3 (.tmp 1),some (30,false),0⟩,
 ⟨(some 32),.load none (.tmp 31),some (30,false),0⟩,
 ⟨(some 33),.call 22 true [(.tmp 32),(.cst (.c (.int .i64 0))),(.cst (.c (.int .i64 500)))],some (30,false),0⟩,
 ⟨(some 34),.not (.tmp 33),some (30,false),0⟩,
 ⟨(some 35),.pick (.tmp 30) (.cst (.c (.bool true))) (.tmp 34),none,0⟩,
 ⟨(some 36),.mov (.tmp 35),none,0⟩,
 ⟨(some 37),.faddr 4 (.tmp 1),some (36,false),0⟩,
 ⟨(some 38),.load none (.tmp 37),some (36,false),0⟩,
 ⟨(some 39),.faddr 3 (.tmp 1),some (36,false),0⟩,
 ⟨(some 40),.load none (.tmp 39),some (36,false),0⟩,
 ⟨(some 41),.call 22 true [(.tmp 38),(.tmp 40),(.cst (.c (.int .i64 500)))],some (36,false),0⟩,
 ⟨(some 42),.not (.tmp 41),some (36,false),0⟩,
 ⟨(some 43),.pick (.tmp 36) (.cst (.c (.bool true))) (.tmp 42),none,0⟩,
 ⟨(some 44),.mov (.tmp 43),none,0⟩,
 ⟨(some 45),.faddr 5 (.tmp 1),some (44,false),0⟩,
 ⟨(some 46),.load (some 2) (.tmp 45),some (44,false),0⟩,
 ⟨(some 47),.call 23 true [(.tmp 46),(.cst (.c (.int .i64 0))),(.cst (.c (.int .i64 500)))],some (44,false),0⟩,
 ⟨(some 48),.not (.tmp 47),some (44,false),0⟩,
 ⟨(some 49),.pick (.tmp 44) (.cst (.c (.bool true))) (.tmp 48),none,0⟩,
 ⟨(some 50),.mov (.tmp 49),none,0⟩,
 ⟨(some 51),.faddr 7 (.tmp 1),some (50,false),0⟩,
 ⟨(some 52),.load none (.tmp 51),some (50,false),0⟩,
 ⟨(some 53),.len (.tmp 52),some (50,false),0⟩,
 ⟨(some 54),.faddr 0 (.tmp 1),some (50,false),0⟩,
 ⟨(some 55),.load none (.tmp 54),some (50,false),0⟩,
 ⟨(some 56),.bin .add (.tmp 55) (.cst (.c (.int .i64 1))),some (50,false),0⟩,
 ⟨(some 57),.bin .neq (.tmp 53) (.tmp 56),some (50,false),0⟩,
 ⟨(some 58),.pick (.tmp 50) (.cst (.c (.bool true))) (.tmp 57),none,0⟩,
 ⟨(some 59),.mov (.tmp 58),none,0⟩,
 ⟨(some 60),.load (some 10) (.tmp 1),some (59,false),0⟩,
 ⟨(some 61),.faddr 8 (.tmp 1),some (59,false),0⟩,
 ⟨(some 62),.load none (.tmp 61),some (59,false),0⟩,
 ⟨(some 63),.call 24 true [(.tmp 60),(.tmp 62)],some (59,false),0⟩,
 ⟨(some 64),.not (.tmp 63),some (59,false),0⟩,
 ⟨(some 65),.pick (.tmp 59) (.cst (.c (.bool true))) (.tmp 64),none,0⟩])
 (.cond (.tmp 65)
 (.seq (.region 0 [] [
 ⟨(some 2),.mov (.cst (.c (.int .i64 1))),none,0⟩])
 .ret)
 .skip))
 (.seq (.seq (.region 0 [] [
 ⟨(some 3),.mov (.cst (.c (.int .i64 0))),none,0⟩])
 (.block 0 (.loop ⟨[2,66,67,68,69,70,71,72,73,74,75,76,77,78,79],false,[]⟩
 (.seq (.seq (.region 0 [] [
 ⟨(some 66),.mov (.tmp 3),none,0⟩,
 ⟨(some 67),.faddr 7 (.tmp 1),none,0⟩,
 ⟨(some 68),.load none (.tmp 67),none,0⟩,
 ⟨(some 69),.len (.tmp 68),none,0⟩,
 ⟨(some 70),.bin .lss (.tmp 66) (.tmp 69),none,0⟩])
 (.cond (.tmp 70)
 .skip
 (.exit 0)))
 (.seq (.block 1 (.seq (.region 0 [] [
 ⟨(some 73),.faddr 7 (.tmp 1),none,0⟩,
 ⟨(some 74),.load none (.tmp 73),none,0⟩,
 ⟨(some 75),.mov (.tmp 3),none,0⟩,
 ⟨(some 76),.iaddr 2 (.tmp 74) (.tmp 75),none,0⟩,
 ⟨(some 77),.load (some 2) (.tmp 76),none,0⟩,
 ⟨(some 78),.call 23 true [(.tmp 77),(.cst (.c (.int .i64 0))),(.cst (.c (.int .i64 20)))],none,0⟩,
 ⟨(some 79),.not (.tmp 78),none,0⟩])
 (.cond (.tmp 79)
 (.seq (.region 0 [] [
 ⟨(some 2),.mov (.cst (.c (.int .i64 1))),none,0⟩])
 .ret)
 .skip)))
 (.region 0 [] [
 ⟨(some 71),.mov (.tmp 3),none,0⟩,
 ⟨(some 72),.bin .add (.tmp 71) (.cst (.c (.int .i64 1))),none,0⟩,
 ⟨(some 3),.mov (.tmp 72),none,0⟩]))))))
 (.seq (.seq (.region 0 [] [
 ⟨(some 4),.mov (.cst (.c (.int .i64 0))),none,0⟩])
 (.block 2 (.loop ⟨[2,5,80,81,82,83,84,85,86,87,88,89,90,91,92,93,94,95,96,97,98,99,100,101,102,103,104,105,106,107,108,109],true,[]⟩
 (.seq (.seq (.region 0 [] [
 ⟨(some 80),.mov (.tmp 4),none,0⟩,
 ⟨(some 81),.faddr 9 (.tmp 1),none,0⟩,
 ⟨(some 82),.load none (.tmp 81),none,0⟩,
 ⟨(some 83),.len (.tmp 82),none,0⟩,
 ⟨(some 84),.bin .lss (.tmp 80) (.tmp 83),none,0⟩])
 (.cond (.tmp 84)
 .skip
 (.exit 2)))
 (.seq (.block 3 (.seq (.region 1 [] [
 ⟨(some 87),.faddr 9 (.tmp 1),none,0⟩,
 ⟨(some 88),.load none (.tmp 87),none,0⟩,
 ⟨(some 89),.mov (.tmp 4),none,0⟩,
 ⟨(some 90),.iaddr 3 (.tmp 88) (.tmp 89),none,0⟩,
 ⟨(some 91),.load (some 3) (.tmp 90),none,0⟩,
 ⟨(some 5),.alloc [(.int .i64 0),(.int .i64 0),(.int .i64 0)],none,0⟩,
 ⟨none,.store (some 3) (.tmp 5) (.tmp 91),none,1⟩])
 (.seq (.region 0 [] [
 ⟨(some 92),.faddr 0 (.tmp 5),none,0⟩,
 ⟨(some 93),.load none (.tmp 92),none,0⟩,
 ⟨(some 94),.faddr 0 (.tmp 1),none,0⟩,
 ⟨(some 95),.load none (.tmp 94),none,0⟩,
 ⟨(some 96),.call 22 true [(.tmp 93),(.cst (.c (.int .i64 0))),(.tmp 95)],none,0⟩,
 ⟨(some 97),.not (.tmp 96),none,0⟩,
 ⟨(some 98),.mov (.tmp 97),none,0⟩,
 ⟨(some 99),.faddr 1 (.tmp 5),some (98,false),0⟩,
 ⟨(some 100),.load none (.tmp 99),some (98,false),0⟩,
 ⟨(some 101),.call 22 true [(.tmp 100),(.cst (.c (.int .i64 0))),(.cst (.c (.int .i64 1000)))],some (98,false),0⟩,
 ⟨(some 102),.not (.tmp 101),some (98,false),0⟩,
 ⟨(some 103),.pick (.tmp 98) (.cst (.c (.bool true))) (.tmp 102),none,0⟩,
 ⟨(some 104),.mov (.tmp 103),none,0⟩,
 ⟨(some 105),.faddr 2 (.tmp 5),some (104,false),0⟩,
 ⟨(some 106),.load none (.tmp 105),some (104,false),0⟩,
 ⟨(some 107),.call 22 true [(.tmp 106),(.cst (.c (.int .i64 0))),(.cst (.c (.int .i64 50)))],some (104,false),0⟩,
 ⟨(some 108),.not (.tmp 107),some (104,false),0⟩,
 ⟨(some 109),.pick (.tmp 104) (.cst (.c (.bool true))) (.tmp 108),none,0⟩])
 (.cond (.tmp 109)
 (.seq (.region 0 [] [
 ⟨(some 2),.mov (.cst (.c (.int .i64 1))),none,0⟩])
 .ret)
 .skip))))
 (.region 0 [] [
 ⟨(some 85),.mov (.tmp 4),none,0⟩,
 ⟨(some 86),.bin .add (.tmp 85) (.cst (.c (.int .i64 1))),none,0⟩,
 ⟨(some 4),.mov (.tmp 86),none,0⟩]))))))
 (.seq (.seq (.region 0 [] [
 ⟨(some 110),.load (some 10) (.tmp 1),none,0⟩,
 ⟨(some 111),.call 21 true [(.tmp 110)],none,0⟩,
 ⟨(some 112),.bin .gtr (.tmp 111) (.cst (.c (.int .i64 2000))),none,0⟩])
 (.cond (.tmp 112)
 (.seq (.region 0 [] [
 ⟨(some 2),.mov (.cst (.c (.int .i64 3))),none,0⟩])
 .ret)
 .skip))
 (.seq (.region 0 [] [
 ⟨(some 2),.mov (.cst (.c (.int .i64 0))),none,0⟩])
 .ret)))))))⟩
def f8 : AFunc:=⟨57,[.tmp 0],false,
 (.seq (.region 0 [] [
 ⟨(some 0),.mov (.cst (.c (.bool false))),none,0⟩])
 (.seq (.region 4 [] [
 ⟨(some 6),.build [(.int .i64 0),(.int .i64 0)] [(0,1,(.cst (.c (.int .i64 20)))),(1,1,(.cst (.c (.int .i64 20))))],none,0⟩,
 ⟨(some 7),.bslice 2 1 [(.int .i64 0),(.int .i64 0)] [(0,(.tmp 6))],none,0⟩,
 ⟨(some 8),.bslice 1 1 [(.int .i64 0)] [(0,(.cst (.c (.int .i64 0))))],none,1⟩,
 ⟨(some 9),.bslice 1 1 [(.int .i64 0)] [(0,(.cst (.c (.int .i64 9))))],none,2⟩,
 ⟨(some 10),.build [(.int .i64 0),.nils,.nils,.nils,.nils,(.int .i64 0),(.int .i64 0),(.int .i64 0),.nils] [(1,1,(.tmp 7)),(2,1,(.tmp 8)),(3,1,(.tmp 9)),(5,1,(.cst (.c (.int .i64 1))))],none,3⟩,
 ⟨(some 11),.blist 1 1 [(.int .i64 0)] [(0,(.cst (.c (.int .i64 20))))],none,3⟩,
 ⟨(some 12),.blist 1 1 [(.int .i64 0)] [(0,(.cst (.c (.int .i64 0))))],none,3⟩,
 ⟨(some 13),.build [.nils,.nils] [(0,1,(.tmp 11)),(1,1,(.tmp 12))],none,3⟩,
 ⟨(some 14),.bslice 1 1 [(.int .i64 0)] [(0,(.cst (.c (.int .i64 0))))],none,3⟩,
 ⟨(some 15),.call 13 true [(.tmp 10),(.tmp 13),(.tmp 14)],none,4⟩,
 ⟨(some 5),.mov (.tmp 15),none,4⟩,
 ⟨(some 16),.extract 0 (.tmp 5),none,4⟩,
 ⟨(some 17),.extract 1 (.tmp 5),none,4⟩,
 ⟨(some 1),.mov (.tmp 16),none,4⟩,
 ⟨(some 2),.mov (.tmp 17),none,4⟩])
 (.seq (.region 2 [] [
 ⟨(some 19),.build [(.int .i64 0),(.int .i64 0)] [(0,1,(.cst (.c (.int .i64 5)))),(1,1,(.cst (.c (.int .i64 5))))],none,0⟩,
 ⟨(some 20),.build [(.int .i64 0),(.int .i64 0)] [(0,1,(.cst (.c (.int .i64 10)))),(1,1,(.cst (.c (.int .i64 10))))],none,0⟩,
 ⟨(some 21),.bslice 2 1 [(.int .i64 0),(.int .i64 0)] [(0,(.tmp 20))],none,0⟩,
 ⟨(some 22),.build [(.int .i64 0),(.int .i64 0),(.int .i64 0),(.int .i64 0),(.int .i64 0),(.int .i64 0),(.int .i64 0),.nils,.nils,.nils] [(1,1,(.cst (.c (.int .i64 2)))),(4,1,(.cst (.c (.int .i64 99)))),(5,2,(.tmp 19)),(7,1,(.tmp 21))],none,1⟩,
 ⟨(some 23),.bslice 1 1 [(.int .i64 0)] [(0,(.cst (.c (.int .i64 10))))],none,1⟩,
 ⟨(some 24),.build [(.int .i64 0),.nils] [(0,1,(.cst (.c (.int .i64 5)))),(1,1,(.tmp 23))],none,2⟩,
 ⟨(some 25),.call 25 true [(.tmp 22),(.tmp 24),(.cst (.c .nils))],none,2⟩,
 ⟨(some 18),.mov (.tmp 25),none,2⟩,
 ⟨(some 26),.extract 0 (.tmp 18),none,2⟩,
 ⟨(some 27),.extract 1 (.tmp 18),none,2⟩,
 ⟨(some 3),.mov (.tmp 26),none,2⟩,
 ⟨(some 4),.mov (.tmp 27),none,2⟩])
 (.seq (.region 0 [] [
 ⟨(some 28),.mov (.tmp 2),none,0⟩,
 ⟨(some 29),.bin .eql (.tmp 28) (.cst (.c (.int .i64 0))),none,0⟩,
 ⟨(some 30),.mov (.tmp 29),none,0⟩,
 ⟨(some 31),.mov (.tmp 1),some (30,true),0⟩,
 ⟨(some 32),.len (.tmp 31),some (30,true),0⟩,
 ⟨(some 33),.bin .eql (.tmp 32) (.cst (.c (.int .i64 1))),some (30,true),0⟩,
 ⟨(some 34),.pick (.tmp 30) (.tmp 33) (.cst (.c (.bool false))),none,0⟩,
 ⟨(some 35),.mov (.tmp 34),none,0⟩,
 ⟨(some 36),.mov (.tmp 1),some (35,true),0⟩,
 ⟨(some 37),.iaddr 3 (.tmp 36) (.cst (.c (.int .i64 0))),some (35,true),0⟩,
 ⟨(some 38),.load (some 3) (.tmp 37),some (35,true),0⟩,
 ⟨(some 39),.build [(.int .i64 0),(.int .i64 0),(.int .i64 0)] [(0,1,(.cst (.c (.int .i64 20)))),(1,1,(.cst (.c (.int .i64 9)))),(2,1,(.cst (.c (.int .i64 180))))],some (35,true),0⟩,
 ⟨(some 40),.eqA false [(some .i64),(some .i64),(some .i64)] (.tmp 38) (.tmp 39),some (35,true),0⟩,
 ⟨(some 41),.pick (.tmp 35) (.tmp 40) (.cst (.c (.bool false))),none,0⟩,
 ⟨(some 42),.mov (.tmp 41),none,0⟩,
 ⟨(some 43),.mov (.tmp 4),some (42,true),0⟩,
 ⟨(some 44),.bin .eql (.tmp 43) (.cst (.c (.int .i64 0))),some (42,true),0⟩,
 ⟨(some 45),.pick (.tmp 42) (.tmp 44) (.cst (.c (.bool false))),none,0⟩,
 ⟨(some 46),.mov (.tmp 45),none,0⟩,
 ⟨(some 47),.mov (.tmp 3),some (46,true),0⟩,
 ⟨(some 48),.len (.tmp 47),some (46,true),0⟩,
 ⟨(some 49),.bin .eql (.tmp 48) (.cst (.c (.int .i64 1))),some (46,true),0⟩,
 ⟨(some 50),.pick (.tmp 46) (.tmp 49) (.cst (.c (.bool false))),none,0⟩,
 ⟨(some 51),.mov (.tmp 50),none,0⟩,
 ⟨(some 52),.mov (.tmp 3),some (51,true),0⟩,
 ⟨(some 53),.iaddr 1 (.tmp 52) (.cst (.c (.int .i64 0))),some (51,true),0⟩,
 ⟨(some 54),.load none (.tmp 53),some (51,true),0⟩,
 ⟨(some 55),.bin .eql (.tmp 54) (.cst (.c (.int .i64 7))),some (51,true),0⟩,
 ⟨(some 56),.pick (.tmp 51) (.tmp 55) (.cst (.c (.bool false))),none,0⟩,
 ⟨(some 0),.mov (.tmp 56),none,0⟩])
 .ret))))⟩
def f9 : AFunc:=⟨23,[.tmp 2],false,
 (.seq (.region 0 [] [
 ⟨(some 2),.mov (.cst (.c .nils)),none,0⟩])
 (.seq (.region 0 [] [
 ⟨(some 3),.mov (.cst (.c .nils)),none,0⟩])
 (.seq (.seq (.region 0 [] [
 ⟨(some 4),.mov (.cst (.c (.int .i64 0))),none,0⟩])
 (.block 0 (.loop ⟨[5,6,7,8,9,10,11,12,13,14,15,16,17,18,19,20,21],true,[(3,none,1)]⟩
 (.seq (.seq (.region 0 [] [
 ⟨(some 5),.mov (.tmp 0),none,0⟩,
 ⟨(some 6),.mov (.tmp 4),none,0⟩,
 ⟨(some 7),.conv .u64 (.tmp 6),none,0⟩,
 ⟨(some 8),.bin .shr (.tmp 5) (.tmp 7),none,0⟩,
 ⟨(some 9),.bin .gtr (.tmp 8) (.cst (.c (.int .i64 0))),none,0⟩])
 (.cond (.tmp 9)
 .skip
 (.exit 0)))
 (.seq (.block 1 (.seq (.region 0 [] [
 ⟨(some 12),.mov (.tmp 0),none,0⟩,
 ⟨(some 13),.mov (.tmp 4),none,0⟩,
 ⟨(some 14),.conv .u64 (.tmp 13),none,0⟩,
 ⟨(some 15),.bin .shr (.tmp 12) (.tmp 14),none,0⟩,
 ⟨(some 16),.bin .rem (.tmp 15) (.cst (.c (.int .i64 2))),none,0⟩,
 ⟨(some 17),.bin .eql (.tmp 16) (.cst (.c (.int .i64 1))),none,0⟩])
 (.cond (.tmp 17)
 (.region 2 [] [
 ⟨(some 18),.mov (.tmp 3),none,0⟩,
 ⟨(some 19),.mov (.tmp 4),none,0⟩,
 ⟨(some 20),.bslice 1 1 [(.int .i64 0)] [(0,(.tmp 19))],none,0⟩,
 ⟨(some 21),.append 1 8 (.tmp 18) (.tmp 20),none,1⟩,
 ⟨(some 3),.mov (.tmp 21),none,2⟩])
 .skip)))
 (.region 0 [] [
 ⟨(some 10),.mov (.tmp 4),none,0⟩,
 ⟨(some 11),.bin .add (.tmp 10) (.cst (.c (.int .i64 1))),none,0⟩,
 ⟨(some 4),.mov (.tmp 11),none,0⟩]))))))
 (.seq (.region 0 [] [
 ⟨(some 22),.mov (.tmp 3),none,0⟩,
 ⟨(some 2),.mov (.tmp 22),none,0⟩])
 .ret))))⟩
def f10 : AFunc:=⟨28,[.tmp 2],false,
 (.seq (.region 1 [] [
 ⟨(some 1),.box (.tmp 0),none,0⟩,
 ⟨(some 2),.mov (.cst (.c .nils)),none,1⟩])
 (.seq (.region 0 [] [
 ⟨(some 6),.load (some 9) (.tmp 1),none,0⟩,
 ⟨(some 7),.call 26 true [(.tmp 6)],none,0⟩,
 ⟨(some 3),.mov (.tmp 7),none,0⟩])
 (.seq (.region 0 [] [
 ⟨(some 4),.mov (.cst (.c .nils)),none,0⟩])
 (.seq (.seq (.region 0 [] [
 ⟨(some 5),.mov (.cst (.c (.int .i64 0))),none,0⟩])
 (.block 0 (.loop ⟨[8,9,10,11,12,13,14,15,16,17,18,19,20,21,22,23,24,25,26],true,[(4,none,2)]⟩
 (.seq (.seq (.region 0 [] [
 ⟨(some 8),.mov (.tmp 5),none,0⟩,
 ⟨(some 9),.mov (.tmp 3),none,0⟩,
 ⟨(some 10),.len (.tmp 9),none,0⟩,
 ⟨(some 11),.bin .lss (.tmp 8) (.tmp 10),none,0⟩])
 (.cond (.tmp 11)
 .skip
 (.exit 0)))
 (.seq (.block 1 (.seq (.region 0 [(0,1),(0,4),(1,4),(2,4),(3,4),(0,5),(1,5),(2,5),(3,5)] [
 ⟨(some 14),.mov (.tmp 3),none,0⟩,
 ⟨(some 15),.mov (.tmp 5),none,0⟩,
 ⟨(some 16),.iaddr 1 (.tmp 14) (.tmp 15),none,0⟩,
 ⟨(some 17),.load none (.tmp 16),none,0⟩,
 ⟨(some 18),.load (some 9) (.tmp 1),none,0⟩,
 ⟨(some 19),.call 27 true [(.tmp 18)],none,0⟩,
 ⟨(some 20),.bin .eql (.tmp 17) (.tmp 19),none,0⟩])
 (.cond (.tmp 20)
 (.region 2 [] [
 ⟨(some 21),.mov (.tmp 4),none,0⟩,
 ⟨(some 22),.load (some 9) (.tmp 1),none,0⟩,
 ⟨(some 23),.mov (.tmp 5),none,0⟩,
 ⟨(some 24),.call 28 true [(.tmp 22),(.tmp 23)],none,0⟩,
 ⟨(some 25),.bslice 2 1 [.nils,.nils] [(0,(.tmp 24))],none,0⟩,
 ⟨(some 26),.append 2 48 (.tmp 21) (.tmp 25),none,1⟩,
 ⟨(some 4),.mov (.tmp 26),none,2⟩])
 .skip)))
 (.region 0 [] [
 ⟨(some 12),.mov (.tmp 5),none,0⟩,
 ⟨(some 13),.bin .add (.tmp 12) (.cst (.c (.int .i64 1))),none,0⟩,
 ⟨(some 5),.mov (.tmp 13),none,0⟩]))))))
 (.seq (.region 0 [] [
 ⟨(some 27),.mov (.tmp 4),none,0⟩,
 ⟨(some 2),.mov (.tmp 27),none,0⟩])
 .ret)))))⟩
def f11 : AFunc:=⟨47,[.tmp 4,.tmp 5],false,
 (.seq (.region 1 [] [
 ⟨(some 2),.box (.tmp 0),none,0⟩,
 ⟨(some 4),.mov (.cst (.c .nils)),none,1⟩,
 ⟨(some 5),.mov (.cst (.c (.int .i64 0))),none,1⟩])
 (.seq (.region 0 [] [
 ⟨(some 11),.load (some 9) (.tmp 2),none,0⟩,
 ⟨(some 12),.mov (.tmp 1),none,0⟩,
 ⟨(some 13),.call 29 false [(.tmp 11),(.tmp 12)],none,0⟩,
 ⟨(some 10),.mov (.tmp 13),none,0⟩,
 ⟨(some 14),.extract 0 (.tmp 10),none,0⟩,
 ⟨(some 15),.extract 1 (.tmp 10),none,0⟩,
 ⟨(some 6),.mov (.tmp 14),none,0⟩,
 ⟨(some 7),.mov (.tmp 15),none,0⟩])
 (.seq (.seq (.region 0 [] [
 ⟨(some 16),.mov (.tmp 7),none,0⟩,
 ⟨(some 17),.bin .neq (.tmp 16) (.cst (.c (.int .i64 0))),none,0⟩])
 (.cond (.tmp 17)
 (.seq (.region 0 [] [
 ⟨(some 18),.mov (.tmp 7),none,0⟩,
 ⟨(some 4),.mov (.cst (.c .nils)),none,0⟩,
 ⟨(some 5),.mov (.tmp 18),none,0⟩])
 .ret)
 .skip))
 (.seq (.region 0 [] [
 ⟨(some 8),.mov (.cst (.c .nils)),none,0⟩])
 (.seq (.seq (.region 0 [] [
 ⟨(some 19),.mov (.tmp 1),none,0⟩,
 ⟨(some 20),.len (.tmp 19),none,0⟩,
 ⟨(some 21),.mov (.cst (.c (.int .i64 0))),none,0⟩])
 (.block 0 (.loop ⟨[9,22,23,24,25,26,27,28,29,30,31,32,33,34,35,36,37,38,39,40,41,42,43,44,45],false,[(8,none,5)]⟩
 (.seq (.region 0 [] [
 ⟨(some 22),.bin .lss (.tmp 21) (.tmp 20),none,0⟩])
 (.seq (.cond (.tmp 22)
 .skip
 (.exit 0))
 (.seq (.block 1 (.seq (.region 0 [] [
 ⟨(some 23),.mov (.tmp 21),none,0⟩,
 ⟨(some 9),.mov (.tmp 23),none,0⟩])
 (.region 2 [(0,1),(0,2),(1,2),(0,3),(1,3),(2,3),(0,4),(1,4),(2,4),(3,4),(0,5),(0,6),(1,6),(2,6),(3,6),(4,6),(5,6),(0,7),(1,7),(2,7),(3,7),(4,7),(5,7),(0,8),(1,8),(2,8),(3,8),(4,8),(5,8),(0,9),(1,9),(2,9),(3,9),(4,9),(5,9),(0,10),(1,10),(2,10),(3,10),(4,10),(5,10),(6,10),(7,10),(8,10),(9,10),(0,11),(1,11),(2,11),(3,11),(4,11),(5,11),(6,11),(7,11),(8,11),(9,11),(10,11),(0,12),(0,13),(1,13),(2,13),(3,13),(4,13),(5,13),(6,13),(7,13),(8,13),(9,13),(10,13),(11,13),(12,13),(0,14),(1,14),(2,14),(3,14),(4,14),(5,14),(6,14),(7,14),(8,14),(9,14),(10,14),(11,14),(12,14),(13,14),(0,15),(1,15),(2,15),(3,15),(4,15),(5,15),(6,15),(7,15),(8,15),(9,15),(10,15),(11,15),(12,15),(13,15),(14,15),(0,16),(1,16),(2,16),(3,16),(4,16),(5,16),(6,16),(7,16),(8,16),(9,16),(10,16),(11,16),(12,16),(13,16),(14,16),(15,16),(0,17),(0,18),(0,19)] [
 ⟨(some 24),.mov (.tmp 8),none,0⟩,
 ⟨(some 25),.build [.nilfn] [(0,1,(.cst (.c (.fn 30 false [] []))))],none,0⟩,
 ⟨(some 26),.mov (.tmp 6),none,0⟩,
 ⟨(some 27),.mov (.tmp 1),none,0⟩,
 ⟨(some 28),.mov (.tmp 9),none,0⟩,
 ⟨(some 29),.call 31 false [(.tmp 25),(.tmp 26),(.tmp 27),(.tmp 28)],none,0⟩,
 ⟨(some 30),.mov (.tmp 6),none,0⟩,
 ⟨(some 31),.nilchk (.tmp 30),none,0⟩,
 ⟨(some 32),.faddr 0 (.tmp 31),none,0⟩,
 ⟨(some 33),.load (some 9) (.tmp 32),none,0⟩,
 ⟨(some 34),.mov (.tmp 1),none,0⟩,
 ⟨(some 35),.mov (.tmp 9),none,0⟩,
 ⟨(some 36),.call 32 true [(.tmp 33),(.tmp 34),(.tmp 35)],none,0⟩,
 ⟨(some 37),.build [.nilfn] [(0,1,(.cst (.c (.fn 33 false [] []))))],none,0⟩,
 ⟨(some 38),.mov (.tmp 6),none,0⟩,
 ⟨(some 39),.mov (.tmp 1),none,0⟩,
 ⟨(some 40),.mov (.tmp 9),none,0⟩,
 ⟨(some 41),.call 31 false [(.tmp 37),(.tmp 38),(.tmp 39),(.tmp 40)],none,0⟩,
 ⟨(some 42),.build [(.int .i64 0),(.int .i64 0),(.int .i64 0),(.int .i64 0),(.int .i64 0)] [(0,2,(.tmp 29)),(2,1,(.tmp 36)),(3,2,(.tmp 41))],none,0⟩,
 ⟨(some 43),.bslice 5 1 [(.int .i64 0),(.int .i64 0),(.int .i64 0),(.int .i64 0),(.int .i64 0)] [(0,(.tmp 42))],none,0⟩,
 ⟨(some 44),.append 5 40 (.tmp 24) (.tmp 43),none,1⟩,
 ⟨(some 8),.mov (.tmp 44),none,2⟩])))
 (.region 0 [] [
 ⟨(some 45),.bin .add (.tmp 21) (.cst (.c (.int .i64 1))),none,0⟩,
 ⟨(some 21),.mov (.tmp 45),none,0⟩])))))))
 (.seq (.region 0 [] [
 ⟨(some 46),.mov (.tmp 8),none,0⟩,
 ⟨(some 4),.mov (.tmp 46),none,0⟩,
 ⟨(some 5),.mov (.cst (.c (.int .i64 0))),none,0⟩])
 .ret))))))⟩
def f12 : AFunc:=⟨69,[.cell 2 (some 9)],false,
 (.seq (.region 2 [] [
 ⟨(some 1),.box (.tmp 0),none,0⟩,
 ⟨(some 2),.alloc [(.int .i64 0),.nils,.nils,.nils,.nils,(.int .i64 0),(.int .i64 0),(.int .i64 0),.nils],none,1⟩])
 (.seq (.region 1 [(0,2),(1,2),(0,3),(1,3),(0,4),(1,4),(0,5),(1,5),(2,5),(3,5),(4,5),(0,6),(1,6),(2,6),(3,6),(4,6),(0,7),(1,7),(0,8),(1,8),(2,8),(3,8),(4,8),(5,8),(6,8),(7,8),(0,9),(1,9),(2,9),(3,9),(4,9),(5,9),(6,9),(7,9),(0,10),(1,10),(0,11),(1,11),(2,11),(3,11),(4,11),(5,11),(6,11),(7,11),(8,11),(9,11),(10,11),(0,12),(1,12),(2,12),(3,12),(4,12),(5,12),(6,12),(7,12),(8,12),(9,12),(10,12),(0,13),(1,13),(2,13),(3,13),(4,13),(5,13),(6,13),(7,13),(8,13),(9,13),(10,13),(11,13),(12,13),(0,14),(1,14),(2,14),(3,14),(4,14),(5,14),(6,14),(7,14),(8,14),(9,14),(10,14),(11,14),(12,14),(0,15),(1,15),(2,15),(3,15),(4,15),(5,15),(6,15),(7,15),(8,15),(9,15),(10,15),(11,15),(12,15),(13,15),(14,15),(0,16),(1,16),(2,16),(3,16),(4,16),(5,16),(6,16),(7,16),(8,16),(9,16),(10,16),(11,16),(12,16),(13,16),(14,16),(0,18),(1,18),(2,18),(3,18),(4,18),(5,18),(6,18),(7,18),(8,18),(9,18),(10,18),(11,18),(12,18),(13,18),(14,18),(15,18),(16,18),(17,18)] [
 ⟨(some 6),.faddr 0 (.tmp 1),none,0⟩,
 ⟨(some 7),.load none (.tmp 6),none,0⟩,
 ⟨(some 8),.faddr 2 (.tmp 1),none,0⟩,
 ⟨(some 9),.load none (.tmp 8),none,0⟩,
 ⟨(some 10),.call 34 true [(.tmp 9)],none,0⟩,
 ⟨(some 11),.faddr 3 (.tmp 1),none,0⟩,
 ⟨(some 12),.load none (.tmp 11),none,0⟩,
 ⟨(some 13),.call 34 true [(.tmp 12)],none,0⟩,
 ⟨(some 14),.faddr 4 (.tmp 1),none,0⟩,
 ⟨(some 15),.load none (.tmp 14),none,0⟩,
 ⟨(some 16),.call 34 true [(.tmp 15)],none,0⟩,
 ⟨(some 17),.faddr 5 (.tmp 1),none,0⟩,
 ⟨(some 18),.load none (.tmp 17),none,0⟩,
 ⟨(some 19),.faddr 6 (.tmp 1),none,0⟩,
 ⟨(some 20),.load none (.tmp 19),none,0⟩,
 ⟨(some 21),.faddr 7 (.tmp 1),none,0⟩,
 ⟨(some 22),.load none (.tmp 21),none,0⟩,
 ⟨(some 23),.build [(.int .i64 0),.nils,.nils,.nils,.nils,(.int .i64 0),(.int .i64 0),(.int .i64 0),.nils] [(0,1,(.tmp 7)),(2,1,(.tmp 10)),(3,1,(.tmp 13)),(4,1,(.tmp 16)),(5,1,(.tmp 18)),(6,1,(.tmp 20)),(7,1,(.tmp 22))],none,0⟩,
 ⟨(some 3),.alloc [(.int .i64 0),.nils,.nils,.nils,.nils,(.int .i64 0),(.int .i64 0),(.int .i64 0),.nils],none,0⟩,
 ⟨none,.store (some 9) (.tmp 3) (.tmp 23),none,1⟩])
 (.seq (.seq (.region 0 [] [
 ⟨(some 4),.mov (.cst (.c (.int .i64 0))),none,0⟩])
 (.block 0 (.loop ⟨[24,25,26,27,28,29,30,31,32,33,34,35,36,37,38,39,40,41],true,[(3,(some 1),2)]⟩
 (.seq (.seq (.region 0 [] [
 ⟨(some 24),.mov (.tmp 4),none,0⟩,
 ⟨(some 25),.faddr 1 (.tmp 1),none,0⟩,
 ⟨(some 26),.load none (.tmp 25),none,0⟩,
 ⟨(some 27),.len (.tmp 26),none,0⟩,
 ⟨(some 28),.bin .lss (.tmp 24) (.tmp 27),none,0⟩])
 (.cond (.tmp 28)
 .skip
 (.exit 0)))
 (.seq (.block 1 (.region 2 [(0,2),(1,2),(0,3),(1,3),(0,4),(1,4),(2,4),(3,4),(0,5),(1,5),(0,6),(1,6),(0,7),(1,7),(0,8),(1,8)] [
 ⟨(some 31),.faddr 1 (.tmp 3),none,0⟩,
 ⟨(some 32),.load none (.tmp 31),none,0⟩,
 ⟨(some 33),.faddr 1 (.tmp 1),none,0⟩,
 ⟨(some 34),.load none (.tmp 33),none,0⟩,
 ⟨(some 35),.mov (.tmp 4),none,0⟩,
 ⟨(some 36),.iaddr 2 (.tmp 34) (.tmp 35),none,0⟩,
 ⟨(some 37),.load (some 2) (.tmp 36),none,0⟩,
 ⟨(some 38),.call 35 true [(.tmp 37)],none,0⟩,
 ⟨(some 39),.bslice 2 1 [(.int .i64 0),(.int .i64 0)] [(0,(.tmp 38))],none,0⟩,
 ⟨(some 40),.append 2 16 (.tmp 32) (.tmp 39),none,1⟩,
 ⟨(some 41),.faddr 1 (.tmp 3),none,2⟩,
 ⟨none,.store none (.tmp 41) (.tmp 40),none,2⟩]))
 (.region 0 [] [
 ⟨(some 29),.mov (.tmp 4),none,0⟩,
 ⟨(some 30),.bin .add (.tmp 29) (.cst (.c (.int .i64 1))),none,0⟩,
 ⟨(some 4),.mov (.tmp 30),none,0⟩]))))))
 (.seq (.seq (.region 0 [] [
 ⟨(some 5),.mov (.cst (.c (.int .i64 0))),none,0⟩])
 (.block 2 (.loop ⟨[42,43,44,45,46,47,48,49,50,51,52,53,54,55,56,57,58,59,60,61,62,63,64,65,66,67],true,[(3,(some 8),3)]⟩
 (.seq (.seq (.region 0 [] [
 ⟨(some 42),.mov (.tmp 5),none,0⟩,
 ⟨(some 43),.faddr 8 (.tmp 1),none,0⟩,
 ⟨(some 44),.load none (.tmp 43),none,0⟩,
 ⟨(some 45),.len (.tmp 44),none,0⟩,
 ⟨(some 46),.bin .lss (.tmp 42) (.tmp 45),none,0⟩])
 (.cond (.tmp 46)
 .skip
 (.exit 2)))
 (.seq (.block 3 (.region 2 [(0,2),(1,2),(0,3),(1,3),(0,4),(1,4),(2,4),(3,4),(0,5),(1,5),(0,6),(1,6),(0,7),(1,7),(0,8),(1,8),(2,8),(3,8),(4,8),(5,8),(6,8),(7,8),(0,9),(1,9),(2,9),(3,9),(4,9),(5,9),(6,9),(7,9),(0,10),(1,10),(2,10),(3,10),(4,10),(5,10),(6,10),(7,10),(8,10),(9,10),(0,11),(1,11),(2,11),(3,11),(4,11),(5,11),(6,11),(7,11),(0,12),(1,12),(2,12),(3,12),(4,12),(5,12),(6,12),(7,12),(0,13),(1,13),(2,13),(3,13),(4,13),(5,13),(6,13),(7,13),(0,14),(1,14),(2,14),(3,14),(4,14),(5,14),(6,14),(7,14),(0,15),(1,15),(0,16),(1,16)] [
 ⟨(some 49),.faddr 8 (.tmp 3),none,0⟩,
 ⟨(some 50),.load none (.tmp 49),none,0⟩,
 ⟨(some 51),.faddr 8 (.tmp 1),none,0⟩,
 ⟨(some 52),.load none (.tmp 51),none,0⟩,
 ⟨(some 53),.mov (.tmp 5),none,0⟩,
 ⟨(some 54),.iaddr 3 (.tmp 52) (.tmp 53),none,0⟩,
 ⟨(some 55),.faddr 0 (.tmp 54),none,0⟩,
 ⟨(some 56),.load none (.tmp 55),none,0⟩,
 ⟨(some 57),.faddr 8 (.tmp 1),none,0⟩,
 ⟨(some 58),.load none (.tmp 57),none,0⟩,
 ⟨(some 59),.mov (.tmp 5),none,0⟩,
 ⟨(some 60),.iaddr 3 (.tmp 58) (.tmp 59),none,0⟩,
 ⟨(some 61),.faddr 1 (.tmp 60),none,0⟩,
 ⟨(some 62),.load (some 2) (.tmp 61),none,0⟩,
 ⟨(some 63),.call 35 true [(.tmp 62)],none,0⟩,
 ⟨(some 64),.build [(.int .i64 0),(.int .i64 0),(.int .i64 0)] [(0,1,(.tmp 56)),(1,2,(.tmp 63))],none,0⟩,
 ⟨(some 65),.bslice 3 1 [(.int .i64 0),(.int .i64 0),(.int .i64 0)] [(0,(.tmp 64))],none,0⟩,
 ⟨(some 66),.append 3 24 (.tmp 50) (.tmp 65),none,1⟩,
 ⟨(some 67),.faddr 8 (.tmp 3),none,2⟩,
 ⟨none,.store none (.tmp 67) (.tmp 66),none,2⟩]))
 (.region 0 [] [
 ⟨(some 47),.mov (.tmp 5),none,0⟩,
 ⟨(some 48),.bin .add (.tmp 47) (.cst (.c (.int .i64 1))),none,0⟩,
 ⟨(some 5),.mov (.tmp 48),none,0⟩]))))))
 (.seq (.region 0 [] [
 ⟨(some 68),.load (some 9) (.tmp 3),none,0⟩,
 ⟨none,.store (some 9) (.tmp 2) (.tmp 68),none,0⟩])
 .ret)))))⟩
def f13 : AFunc:=⟨29,[.tmp 6,.tmp 7],false,
 (.seq (.region 2 [] [
 ⟨(some 3),.box (.tmp 0),none,0⟩,
 ⟨(some 4),.box (.tmp 1),none,1⟩,
 ⟨(some 6),.mov (.cst (.c .nils)),none,2⟩,
 ⟨(some 7),.mov (.cst (.c (.int .i64 0))),none,2⟩])
 (.seq (.seq (.region 0 [] [
 ⟨(some 9),.load (some 9) (.tmp 3),none,0⟩,
 ⟨(some 10),.call 36 true [(.tmp 9)],none,0⟩,
 ⟨(some 8),.mov (.tmp 10),none,0⟩])
 (.seq (.region 0 [] [
 ⟨(some 11),.mov (.tmp 8),none,0⟩,
 ⟨(some 12),.bin .neq (.tmp 11) (.cst (.c (.int .i64 0))),none,0⟩])
 (.cond (.tmp 12)
 (.seq (.region 0 [] [
 ⟨(some 13),.mov (.tmp 8),none,0⟩,
 ⟨(some 6),.mov (.cst (.c .nils)),none,0⟩,
 ⟨(some 7),.mov (.tmp 13),none,0⟩])
 .ret)
 .skip)))
 (.seq (.seq (.region 0 [] [
 ⟨(some 14),.load (some 9) (.tmp 3),none,0⟩,
 ⟨(some 15),.load (some 2) (.tmp 4),none,0⟩,
 ⟨(some 16),.call 37 true [(.tmp 14),(.tmp 15)],none,0⟩,
 ⟨(some 17),.not (.tmp 16),none,0⟩,
 ⟨(some 18),.mov (.tmp 17),none,0⟩,
 ⟨(some 19),.load (some 9) (.tmp 3),some (18,false),0⟩,
 ⟨(some 20),.mov (.tmp 2),some (18,false),0⟩,
 ⟨(some 21),.call 38 true [(.tmp 19),(.tmp 20)],some (18,false),0⟩,
 ⟨(some 22),.not (.tmp 21),some (18,false),0⟩,
 ⟨(some 23),.pick (.tmp 18) (.cst (.c (.bool true))) (.tmp 22),none,0⟩])
 (.cond (.tmp 23)
 (.seq (.region 0 [] [
 ⟨(some 6),.mov (.cst (.c .nils)),none,0⟩,
 ⟨(some 7),.mov (.cst (.c (.int .i64 2))),none,0⟩])
 .ret)
 .skip))
 (.seq (.region 0 [(0,2),(1,2),(0,3),(1,3),(2,3)] [
 ⟨(some 24),.load (some 9) (.tmp 3),none,0⟩,
 ⟨(some 25),.call 39 false [(.tmp 24)],none,0⟩,
 ⟨(some 26),.load (some 2) (.tmp 4),none,0⟩,
 ⟨(some 27),.mov (.tmp 2),none,0⟩,
 ⟨(some 28),.call 40 false [(.tmp 25),(.tmp 26),(.tmp 27)],none,0⟩,
 ⟨(some 6),.mov (.tmp 28),none,0⟩,
 ⟨(some 7),.mov (.cst (.c (.int .i64 0))),none,0⟩])
 .ret))))⟩
def f14 : AFunc:=⟨10,[.cell 2 (some 2)],false,
 (.seq (.region 2 [] [
 ⟨(some 1),.box (.tmp 0),none,0⟩,
 ⟨(some 2),.alloc [.nils,.nils],none,1⟩])
 (.seq (.region 0 [(0,3),(1,3),(2,3),(0,4),(1,4),(2,4)] [
 ⟨(some 3),.faddr 0 (.tmp 1),none,0⟩,
 ⟨(some 4),.load none (.tmp 3),none,0⟩,
 ⟨(some 5),.call 34 true [(.tmp 4)],none,0⟩,
 ⟨(some 6),.faddr 1 (.tmp 1),none,0⟩,
 ⟨(some 7),.load none (.tmp 6),none,0⟩,
 ⟨(some 8),.call 34 true [(.tmp 7)],none,0⟩,
 ⟨(some 9),.build [.nils,.nils] [(0,1,(.tmp 5)),(1,1,(.tmp 8))],none,0⟩,
 ⟨none,.store (some 2) (.tmp 2) (.tmp 9),none,0⟩])
 .ret))⟩
def f15 : AFunc:=⟨49,[.tmp 8,.tmp 9],false,
 (.seq (.region 1 [] [
 ⟨(some 4),.box (.tmp 0),none,0⟩,
 ⟨(some 8),.mov (.cst (.c (.int .i64 0))),none,1⟩,
 ⟨(some 9),.mov (.cst (.c (.bool false))),none,1⟩])
 (.seq (.region 1 [] [
 ⟨(some 13),.load (some 10) (.tmp 4),none,0⟩,
 ⟨(some 10),.alloc [(.int .i64 0),(.int .i64 0),(.int .i64 0),(.int .i64 0),(.int .i64 0),(.int .i64 0),(.int .i64 0),.nils,.nils,.nils],none,0⟩,
 ⟨none,.store (some 10) (.tmp 10) (.tmp 13),none,1⟩])
 (.seq (.region 0 [] [
 ⟨(some 14),.mov (.tmp 1),none,0⟩,
 ⟨(some 15),.faddr 1 (.tmp 10),none,0⟩,
 ⟨none,.store none (.tmp 15) (.tmp 14),none,0⟩,
 ⟨(some 16),.faddr 9 (.tmp 10),none,0⟩,
 ⟨none,.store none (.tmp 16) (.cst (.c .nils)),none,0⟩])
 (.seq (.region 2 [(0,2),(1,2),(0,3),(1,3),(2,3),(0,4),(1,4),(2,4),(0,5),(1,5),(2,5),(3,5),(4,5),(2,6),(3,6),(4,6),(2,7),(0,10),(1,10),(2,10),(3,10),(4,10),(5,10),(6,10),(7,10),(8,10),(9,10),(0,11),(1,11),(2,11),(3,11),(4,11),(5,11),(6,11),(7,11),(8,11),(9,11),(10,11),(0,12),(1,12),(2,12),(3,12),(4,12),(5,12),(6,12),(7,12),(8,12),(9,12),(10,12),(16,17),(17,18)] [
 ⟨(some 18),.load (some 10) (.tmp 10),none,0⟩,
 ⟨(some 19),.call 41 true [(.tmp 18)],none,0⟩,
 ⟨(some 20),.load (some 10) (.tmp 10),none,0⟩,
 ⟨(some 21),.mov (.tmp 2),none,0⟩,
 ⟨(some 22),.conv .i64 (.tmp 21),none,0⟩,
 ⟨(some 23),.load (some 10) (.tmp 10),none,0⟩,
 ⟨(some 24),.call 21 true [(.tmp 23)],none,0⟩,
 ⟨(some 25),.bin .rem (.tmp 22) (.tmp 24),none,0⟩,
 ⟨(some 26),.call 43 true [(.tmp 20),(.tmp 25)],none,0⟩,
 ⟨(some 27),.call 42 true [(.tmp 26)],none,0⟩,
 ⟨(some 28),.bslice 1 0 [(.int .i64 0)] [],none,0⟩,
 ⟨(some 29),.faddr 8 (.tmp 4),none,1⟩,
 ⟨(some 30),.load none (.tmp 29),none,1⟩,
 ⟨(some 31),.append 1 8 (.tmp 28) (.tmp 30),none,1⟩,
 ⟨(some 32),.call 25 true [(.tmp 19),(.tmp 27),(.tmp 31)],none,2⟩,
 ⟨(some 17),.mov (.tmp 32),none,2⟩,
 ⟨(some 33),.extract 0 (.tmp 17),none,2⟩,
 ⟨(some 34),.extract 1 (.tmp 17),none,2⟩,
 ⟨(some 11),.mov (.tmp 33),none,2⟩,
 ⟨(some 12),.mov (.tmp 34),none,2⟩])
 (.seq (.seq (.region 0 [] [
 ⟨(some 35),.mov (.tmp 12),none,0⟩,
 ⟨(some 36),.bin .neq (.tmp 35) (.cst (.c (.int .i64 0))),none,0⟩,
 ⟨(some 37),.mov (.tmp 36),none,0⟩,
 ⟨(some 38),.mov (.tmp 11),some (37,false),0⟩,
 ⟨(some 39),.len (.tmp 38),some (37,false),0⟩,
 ⟨(some 40),.faddr 0 (.tmp 4),some (37,false),0⟩,
 ⟨(some 41),.load none (.tmp 40),some (37,false),0⟩,
 ⟨(some 42),.bin .add (.tmp 41) (.cst (.c (.int .i64 1))),some (37,false),0⟩,
 ⟨(some 43),.bin .neq (.tmp 39) (.tmp 42),some (37,false),0⟩,
 ⟨(some 44),.pick (.tmp 37) (.cst (.c (.bool true))) (.tmp 43),none,0⟩])
 (.cond (.tmp 44)
 (.seq (.region 0 [] [
 ⟨(some 8),.mov (.cst (.c (.int .i64 0))),none,0⟩,
 ⟨(some 9),.mov (.cst (.c (.bool false))),none,0⟩])
 .ret)
 .skip))
 (.seq (.region 0 [] [
 ⟨(some 45),.mov (.tmp 11),none,0⟩,
 ⟨(some 46),.mov (.tmp 3),none,0⟩,
 ⟨(some 47),.iaddr 1 (.tmp 45) (.tmp 46),none,0⟩,
 ⟨(some 48),.load none (.tmp 47),none,0⟩,
 ⟨(some 8),.mov (.tmp 48),none,0⟩,
 ⟨(some 9),.mov (.cst (.c (.bool true))),none,0⟩])
 .ret))))))⟩
def f16 : AFunc:=⟨7,[.tmp 2],false,
 (.seq (.region 0 [] [
 ⟨(some 2),.mov (.cst (.c (.int .i64 0))),none,0⟩])
 (.seq (.region 0 [] [
 ⟨(some 3),.mov (.tmp 0),none,0⟩,
 ⟨(some 4),.bin .quo (.tmp 3) (.cst (.c (.int .i64 10))),none,0⟩,
 ⟨(some 5),.mm false (.cst (.c (.int .i64 20))) (.tmp 4),none,0⟩,
 ⟨(some 6),.mm true (.cst (.c (.int .i64 0))) (.tmp 5),none,0⟩,
 ⟨(some 2),.mov (.tmp 6),none,0⟩])
 .ret))⟩
def f17 : AFunc:=⟨29,[.tmp 2],false,
 (.seq (.region 1 [] [
 ⟨(some 1),.box (.tmp 0),none,0⟩,
 ⟨(some 2),.mov (.cst (.c (.int .i64 0))),none,1⟩])
 (.seq (.region 0 [] [
 ⟨(some 3),.mov (.cst (.c (.int .i64 1))),none,0⟩])
 (.seq (.seq (.region 0 [] [
 ⟨(some 4),.mov (.cst (.c (.int .i64 0))),none,0⟩])
 (.block 0 (.loop ⟨[5,6,7,8,9,10,11,12,13,14,15,16,17,18,19,20,21,22,23,24,25,26,27],false,[]⟩
 (.seq (.seq (.region 0 [] [
 ⟨(some 5),.mov (.tmp 4),none,0⟩,
 ⟨(some 6),.faddr 1 (.tmp 1),none,0⟩,
 ⟨(some 7),.load none (.tmp 6),none,0⟩,
 ⟨(some 8),.len (.tmp 7),none,0⟩,
 ⟨(some 9),.bin .lss (.tmp 5) (.tmp 8),none,0⟩])
 (.cond (.tmp 9)
 .skip
 (.exit 0)))
 (.seq (.block 1 (.region 0 [(0,1),(0,2),(0,3),(1,3),(2,3),(0,4),(0,5),(0,6),(0,8),(1,8),(2,8),(3,8),(4,8),(5,8),(6,8),(7,8),(0,9),(1,9),(2,9),(3,9),(4,9),(5,9),(6,9),(7,9),(0,10),(1,10),(2,10),(3,10),(4,10),(5,10),(6,10),(7,10),(8,10),(9,10),(0,11),(1,11),(2,11),(3,11),(4,11),(5,11),(6,11),(7,11),(0,12),(1,12),(2,12),(3,12),(4,12),(5,12),(6,12),(7,12),(0,13),(7,13)] [
 ⟨(some 12),.mov (.tmp 3),none,0⟩,
 ⟨(some 13),.faddr 1 (.tmp 1),none,0⟩,
 ⟨(some 14),.load none (.tmp 13),none,0⟩,
 ⟨(some 15),.mov (.tmp 4),none,0⟩,
 ⟨(some 16),.iaddr 2 (.tmp 14) (.tmp 15),none,0⟩,
 ⟨(some 17),.load (some 2) (.tmp 16),none,0⟩,
 ⟨(some 18),.call 44 true [(.tmp 17)],none,0⟩,
 ⟨(some 19),.bin .mul (.tmp 12) (.tmp 18),none,0⟩,
 ⟨(some 20),.faddr 2 (.tmp 1),none,0⟩,
 ⟨(some 21),.load none (.tmp 20),none,0⟩,
 ⟨(some 22),.mov (.tmp 4),none,0⟩,
 ⟨(some 23),.iaddr 1 (.tmp 21) (.tmp 22),none,0⟩,
 ⟨(some 24),.load none (.tmp 23),none,0⟩,
 ⟨(some 25),.call 45 true [(.tmp 24)],none,0⟩,
 ⟨(some 26),.bin .mul (.tmp 19) (.tmp 25),none,0⟩,
 ⟨(some 27),.mm false (.cst (.c (.int .i64 3000))) (.tmp 26),none,0⟩,
 ⟨(some 3),.mov (.tmp 27),none,0⟩]))
 (.region 0 [] [
 ⟨(some 10),.mov (.tmp 4),none,0⟩,
 ⟨(some 11),.bin .add (.tmp 10) (.cst (.c (.int .i64 1))),none,0⟩,
 ⟨(some 4),.mov (.tmp 11),none,0⟩]))))))
 (.seq (.region 0 [] [
 ⟨(some 28),.mov (.tmp 3),none,0⟩,
 ⟨(some 2),.mov (.tmp 28),none,0⟩])
 .ret))))⟩
def f18 : AFunc:=⟨15,[.tmp 6],false,
 (.seq (.region 0 [] [
 ⟨(some 6),.mov (.cst (.c (.bool false))),none,0⟩])
 (.seq (.region 0 [] [
 ⟨(some 7),.mov (.tmp 0),none,0⟩,
 ⟨(some 8),.mov (.tmp 1),none,0⟩,
 ⟨(some 9),.bin .geq (.tmp 7) (.tmp 8),none,0⟩,
 ⟨(some 10),.mov (.tmp 9),none,0⟩,
 ⟨(some 11),.mov (.tmp 0),some (10,true),0⟩,
 ⟨(some 12),.mov (.tmp 2),some (10,true),0⟩,
 ⟨(some 13),.bin .leq (.tmp 11) (.tmp 12),some (10,true),0⟩,
 ⟨(some 14),.pick (.tmp 10) (.tmp 13) (.cst (.c (.bool false))),none,0⟩,
 ⟨(some 6),.mov (.tmp 14),none,0⟩])
 .ret))⟩
def f19 : AFunc:=⟨42,[.tmp 4],false,
 (.seq (.region 1 [] [
 ⟨(some 2),.box (.tmp 0),none,0⟩,
 ⟨(some 4),.mov (.cst (.c (.bool false))),none,1⟩])
 (.seq (.seq (.region 0 [] [
 ⟨(some 5),.mov (.cst (.c (.int .i64 0))),none,0⟩])
 (.block 0 (.loop ⟨[4,6,7,8,9,10,11,12,13,14,15,16,17,18,19,20,21,22,23,24,25,26,27,28,29,30,31,32,33,34,35],false,[]⟩
 (.seq (.seq (.region 0 [] [
 ⟨(some 6),.mov (.tmp 5),none,0⟩,
 ⟨(some 7),.mov (.tmp 1),none,0⟩,
 ⟨(some 8),.len (.tmp 7),none,0⟩,
 ⟨(some 9),.bin .lss (.tmp 6) (.tmp 8),none,0⟩])
 (.cond (.tmp 9)
 .skip
 (.exit 0)))
 (.seq (.block 1 (.seq (.region 0 [(0,1),(0,4),(1,4),(2,4),(3,4),(0,5),(1,5),(2,5),(3,5),(12,13),(12,16),(13,16),(14,16),(15,16),(12,17),(13,17),(14,17),(15,17),(16,17),(12,18),(13,18),(14,18),(15,18),(16,18),(12,19),(13,19),(14,19),(15,19),(12,20),(13,20),(14,20),(15,20)] [
 ⟨(some 12),.mov (.tmp 1),none,0⟩,
 ⟨(some 13),.mov (.tmp 5),none,0⟩,
 ⟨(some 14),.iaddr 1 (.tmp 12) (.tmp 13),none,0⟩,
 ⟨(some 15),.load none (.tmp 14),none,0⟩,
 ⟨(some 16),.faddr 0 (.tmp 2),none,0⟩,
 ⟨(some 17),.load none (.tmp 16),none,0⟩,
 ⟨(some 18),.call 18 true [(.tmp 15),(.cst (.c (.int .i64 0))),(.tmp 17)],none,0⟩,
 ⟨(some 19),.not (.tmp 18),none,0⟩,
 ⟨(some 20),.mov (.tmp 19),none,0⟩,
 ⟨(some 21),.mov (.tmp 5),some (20,false),0⟩,
 ⟨(some 22),.bin .gtr (.tmp 21) (.cst (.c (.int .i64 0))),some (20,false),0⟩,
 ⟨(some 23),.mov (.tmp 22),some (20,false),0⟩,
 ⟨(some 24),.mov (.tmp 1),some (23,true),0⟩,
 ⟨(some 25),.mov (.tmp 5),some (23,true),0⟩,
 ⟨(some 26),.iaddr 1 (.tmp 24) (.tmp 25),some (23,true),0⟩,
 ⟨(some 27),.load none (.tmp 26),some (23,true),0⟩,
 ⟨(some 28),.mov (.tmp 1),some (23,true),0⟩,
 ⟨(some 29),.mov (.tmp 5),some (23,true),0⟩,
 ⟨(some 30),.bin .sub (.tmp 29) (.cst (.c (.int .i64 1))),some (23,true),0⟩,
 ⟨(some 31),.iaddr 1 (.tmp 28) (.tmp 30),some (23,true),0⟩,
 ⟨(some 32),.load none (.tmp 31),some (23,true),0⟩,
 ⟨(some 33),.bin .leq (.tmp 27) (.tmp 32),some (23,true),0⟩,
 ⟨(some 34),.pick (.tmp 23) (.tmp 33) (.cst (.c (.bool false))),some (20,false),0⟩,
 ⟨(some 35),.pick (.tmp 20) (.cst (.c (.bool true))) (.tmp 34),none,0⟩])
 (.cond (.tmp 35)
 (.seq (.region 0 [] [
 ⟨(some 4),.mov (.cst (.c (.bool false))),none,0⟩])
 .ret)
 .skip)))
 (.region 0 [] [
 ⟨(some 10),.mov (.tmp 5),none,0⟩,
 ⟨(some 11),.bin .add (.tmp 10) (.cst (.c (.int .i64 1))),none,0⟩,
 ⟨(some 5),.mov (.tmp 11),none,0⟩]))))))
 (.seq (.region 0 [] [
 ⟨(some 36),.mov (.tmp 1),none,0⟩,
 ⟨(some 37),.len (.tmp 36),none,0⟩,
 ⟨(some 38),.faddr 3 (.tmp 2),none,0⟩,
 ⟨(some 39),.load none (.tmp 38),none,0⟩,
 ⟨(some 40),.len (.tmp 39),none,0⟩,
 ⟨(some 41),.bin .leq (.tmp 37) (.tmp 40),none,0⟩,
 ⟨(some 4),.mov (.tmp 41),none,0⟩])
 .ret)))⟩
def f20 : AFunc:=⟨24,[.tmp 6],false,
 (.seq (.region 1 [] [
 ⟨(some 3),.box (.tmp 0),none,0⟩,
 ⟨(some 6),.mov (.cst (.c (.bool false))),none,1⟩])
 (.seq (.region 0 [] [
 ⟨(some 7),.faddr 0 (.tmp 3),none,0⟩,
 ⟨(some 8),.load none (.tmp 7),none,0⟩,
 ⟨(some 9),.mov (.tmp 1),none,0⟩,
 ⟨(some 10),.bin .geq (.tmp 8) (.tmp 9),none,0⟩,
 ⟨(some 11),.mov (.tmp 10),none,0⟩,
 ⟨(some 12),.faddr 0 (.tmp 3),some (11,true),0⟩,
 ⟨(some 13),.load none (.tmp 12),some (11,true),0⟩,
 ⟨(some 14),.faddr 1 (.tmp 3),some (11,true),0⟩,
 ⟨(some 15),.load none (.tmp 14),some (11,true),0⟩,
 ⟨(some 16),.bin .leq (.tmp 13) (.tmp 15),some (11,true),0⟩,
 ⟨(some 17),.pick (.tmp 11) (.tmp 16) (.cst (.c (.bool false))),none,0⟩,
 ⟨(some 18),.mov (.tmp 17),none,0⟩,
 ⟨(some 19),.faddr 1 (.tmp 3),some (18,true),0⟩,
 ⟨(some 20),.load none (.tmp 19),some (18,true),0⟩,
 ⟨(some 21),.mov (.tmp 2),some (18,true),0⟩,
 ⟨(some 22),.bin .leq (.tmp 20) (.tmp 21),some (18,true),0⟩,
 ⟨(some 23),.pick (.tmp 18) (.tmp 22) (.cst (.c (.bool false))),none,0⟩,
 ⟨(some 6),.mov (.tmp 23),none,0⟩])
 .ret))⟩
def f21 : AFunc:=⟨25,[.tmp 2],false,
 (.seq (.region 1 [] [
 ⟨(some 1),.box (.tmp 0),none,0⟩,
 ⟨(some 2),.mov (.cst (.c (.int .i64 0))),none,1⟩])
 (.seq (.region 0 [] [
 ⟨(some 5),.faddr 5 (.tmp 1),none,0⟩,
 ⟨(some 6),.load (some 2) (.tmp 5),none,0⟩,
 ⟨(some 7),.call 46 true [(.tmp 6)],none,0⟩,
 ⟨(some 3),.mov (.tmp 7),none,0⟩])
 (.seq (.seq (.region 0 [] [
 ⟨(some 4),.mov (.cst (.c (.int .i64 0))),none,0⟩])
 (.block 0 (.loop ⟨[8,9,10,11,12,13,14,15,16,17,18,19,20,21,22,23],false,[]⟩
 (.seq (.seq (.region 0 [] [
 ⟨(some 8),.mov (.tmp 4),none,0⟩,
 ⟨(some 9),.faddr 7 (.tmp 1),none,0⟩,
 ⟨(some 10),.load none (.tmp 9),none,0⟩,
 ⟨(some 11),.len (.tmp 10),none,0⟩,
 ⟨(some 12),.bin .lss (.tmp 8) (.tmp 11),none,0⟩])
 (.cond (.tmp 12)
 .skip
 (.exit 0)))
 (.seq (.block 1 (.region 0 [] [
 ⟨(some 15),.mov (.tmp 3),none,0⟩,
 ⟨(some 16),.faddr 7 (.tmp 1),none,0⟩,
 ⟨(some 17),.load none (.tmp 16),none,0⟩,
 ⟨(some 18),.mov (.tmp 4),none,0⟩,
 ⟨(some 19),.iaddr 2 (.tmp 17) (.tmp 18),none,0⟩,
 ⟨(some 20),.load (some 2) (.tmp 19),none,0⟩,
 ⟨(some 21),.call 46 true [(.tmp 20)],none,0⟩,
 ⟨(some 22),.bin .mul (.tmp 15) (.tmp 21),none,0⟩,
 ⟨(some 23),.mm false (.cst (.c (.int .i64 3000))) (.tmp 22),none,0⟩,
 ⟨(some 3),.mov (.tmp 23),none,0⟩]))
 (.region 0 [] [
 ⟨(some 13),.mov (.tmp 4),none,0⟩,
 ⟨(some 14),.bin .add (.tmp 13) (.cst (.c (.int .i64 1))),none,0⟩,
 ⟨(some 4),.mov (.tmp 14),none,0⟩]))))))
 (.seq (.region 0 [] [
 ⟨(some 24),.mov (.tmp 3),none,0⟩,
 ⟨(some 2),.mov (.tmp 24),none,0⟩])
 .ret))))⟩
def f22 : AFunc:=⟨15,[.tmp 6],false,
 (.seq (.region 0 [] [
 ⟨(some 6),.mov (.cst (.c (.bool false))),none,0⟩])
 (.seq (.region 0 [] [
 ⟨(some 7),.mov (.tmp 0),none,0⟩,
 ⟨(some 8),.mov (.tmp 1),none,0⟩,
 ⟨(some 9),.bin .geq (.tmp 7) (.tmp 8),none,0⟩,
 ⟨(some 10),.mov (.tmp 9),none,0⟩,
 ⟨(some 11),.mov (.tmp 0),some (10,true),0⟩,
 ⟨(some 12),.mov (.tmp 2),some (10,true),0⟩,
 ⟨(some 13),.bin .leq (.tmp 11) (.tmp 12),some (10,true),0⟩,
 ⟨(some 14),.pick (.tmp 10) (.tmp 13) (.cst (.c (.bool false))),none,0⟩,
 ⟨(some 6),.mov (.tmp 14),none,0⟩])
 .ret))⟩
def f23 : AFunc:=⟨24,[.tmp 6],false,
 (.seq (.region 1 [] [
 ⟨(some 3),.box (.tmp 0),none,0⟩,
 ⟨(some 6),.mov (.cst (.c (.bool false))),none,1⟩])
 (.seq (.region 0 [] [
 ⟨(some 7),.faddr 0 (.tmp 3),none,0⟩,
 ⟨(some 8),.load none (.tmp 7),none,0⟩,
 ⟨(some 9),.mov (.tmp 1),none,0⟩,
 ⟨(some 10),.bin .geq (.tmp 8) (.tmp 9),none,0⟩,
 ⟨(some 11),.mov (.tmp 10),none,0⟩,
 ⟨(some 12),.faddr 0 (.tmp 3),some (11,true),0⟩,
 ⟨(some 13),.load none (.tmp 12),some (11,true),0⟩,
 ⟨(some 14),.faddr 1 (.tmp 3),some (11,true),0⟩,
 ⟨(some 15),.load none (.tmp 14),some (11,true),0⟩,
 ⟨(some 16),.bin .leq (.tmp 13) (.tmp 15),some (11,true),0⟩,
 ⟨(some 17),.pick (.tmp 11) (.tmp 16) (.cst (.c (.bool false))),none,0⟩,
 ⟨(some 18),.mov (.tmp 17),none,0⟩,
 ⟨(some 19),.faddr 1 (.tmp 3),some (18,true),0⟩,
 ⟨(some 20),.load none (.tmp 19),some (18,true),0⟩,
 ⟨(some 21),.mov (.tmp 2),some (18,true),0⟩,
 ⟨(some 22),.bin .leq (.tmp 20) (.tmp 21),some (18,true),0⟩,
 ⟨(some 23),.pick (.tmp 18) (.tmp 22) (.cst (.c (.bool false))),none,0⟩,
 ⟨(some 6),.mov (.tmp 23),none,0⟩])
 .ret))⟩
def f24 : AFunc:=⟨36,[.tmp 4],false,
 (.seq (.region 1 [] [
 ⟨(some 2),.box (.tmp 0),none,0⟩,
 ⟨(some 4),.mov (.cst (.c (.bool false))),none,1⟩])
 (.seq (.seq (.region 0 [] [
 ⟨(some 5),.mov (.cst (.c (.int .i64 0))),none,0⟩])
 (.block 0 (.loop ⟨[4,6,7,8,9,10,11,12,13,14,15,16,17,18,19,20,21,22,23,24,25,26,27,28,29,30,31,32,33,34,35],false,[]⟩
 (.seq (.seq (.region 0 [] [
 ⟨(some 6),.mov (.tmp 5),none,0⟩,
 ⟨(some 7),.mov (.tmp 1),none,0⟩,
 ⟨(some 8),.len (.tmp 7),none,0⟩,
 ⟨(some 9),.bin .lss (.tmp 6) (.tmp 8),none,0⟩])
 (.cond (.tmp 9)
 .skip
 (.exit 0)))
 (.seq (.block 1 (.seq (.region 0 [(0,1),(0,4),(1,4),(2,4),(3,4),(0,5),(1,5),(2,5),(3,5),(12,13),(12,16),(13,16),(14,16),(15,16),(12,17),(13,17),(14,17),(15,17),(16,17),(12,18),(13,18),(14,18),(15,18),(16,18),(12,19),(13,19),(14,19),(15,19),(12,20),(13,20),(14,20),(15,20)] [
 ⟨(some 12),.mov (.tmp 1),none,0⟩,
 ⟨(some 13),.mov (.tmp 5),none,0⟩,
 ⟨(some 14),.iaddr 1 (.tmp 12) (.tmp 13),none,0⟩,
 ⟨(some 15),.load none (.tmp 14),none,0⟩,
 ⟨(some 16),.faddr 0 (.tmp 2),none,0⟩,
 ⟨(some 17),.load none (.tmp 16),none,0⟩,
 ⟨(some 18),.call 22 true [(.tmp 15),(.cst (.c (.int .i64 0))),(.tmp 17)],none,0⟩,
 ⟨(some 19),.not (.tmp 18),none,0⟩,
 ⟨(some 20),.mov (.tmp 19),none,0⟩,
 ⟨(some 21),.mov (.tmp 5),some (20,false),0⟩,
 ⟨(some 22),.bin .gtr (.tmp 21) (.cst (.c (.int .i64 0))),some (20,false),0⟩,
 ⟨(some 23),.mov (.tmp 22),some (20,false),0⟩,
 ⟨(some 24),.mov (.tmp 1),some (23,true),0⟩,
 ⟨(some 25),.mov (.tmp 5),some (23,true),0⟩,
 ⟨(some 26),.iaddr 1 (.tmp 24) (.tmp 25),some (23,true),0⟩,
 ⟨(some 27),.load none (.tmp 26),some (23,true),0⟩,
 ⟨(some 28),.mov (.tmp 1),some (23,true),0⟩,
 ⟨(some 29),.mov (.tmp 5),some (23,true),0⟩,
 ⟨(some 30),.bin .sub (.tmp 29) (.cst (.c (.int .i64 1))),some (23,true),0⟩,
 ⟨(some 31),.iaddr 1 (.tmp 28) (.tmp 30),some (23,true),0⟩,
 ⟨(some 32),.load none (.tmp 31),some (23,true),0⟩,
 ⟨(some 33),.bin .leq (.tmp 27) (.tmp 32),some (23,true),0⟩,
 ⟨(some 34),.pick (.tmp 23) (.tmp 33) (.cst (.c (.bool false))),some (20,false),0⟩,
 ⟨(some 35),.pick (.tmp 20) (.cst (.c (.bool true))) (.tmp 34),none,0⟩])
 (.cond (.tmp 35)
 (.seq (.region 0 [] [
 ⟨(some 4),.mov (.cst (.c (.bool false))),none,0⟩])
 .ret)
 .skip)))
 (.region 0 [] [
 ⟨(some 10),.mov (.tmp 5),none,0⟩,
 ⟨(some 11),.bin .add (.tmp 10) (.cst (.c (.int .i64 1))),none,0⟩,
 ⟨(some 5),.mov (.tmp 11),none,0⟩]))))))
 (.seq (.region 0 [] [
 ⟨(some 4),.mov (.cst (.c (.bool true))),none,0⟩])
 .ret)))⟩
def f25 : AFunc:=⟨34,[.tmp 6,.tmp 7],false,
 (.seq (.region 2 [] [
 ⟨(some 3),.box (.tmp 0),none,0⟩,
 ⟨(some 4),.box (.tmp 1),none,1⟩,
 ⟨(some 6),.mov (.cst (.c .nils)),none,2⟩,
 ⟨(some 7),.mov (.cst (.c (.int .i64 0))),none,2⟩])
 (.seq (.seq (.region 0 [] [
 ⟨(some 10),.load (some 10) (.tmp 3),none,0⟩,
 ⟨(some 11),.call 47 true [(.tmp 10)],none,0⟩,
 ⟨(some 8),.mov (.tmp 11),none,0⟩])
 (.seq (.region 0 [] [
 ⟨(some 12),.mov (.tmp 8),none,0⟩,
 ⟨(some 13),.bin .neq (.tmp 12) (.cst (.c (.int .i64 0))),none,0⟩])
 (.cond (.tmp 13)
 (.seq (.region 0 [] [
 ⟨(some 14),.mov (.tmp 8),none,0⟩,
 ⟨(some 6),.mov (.cst (.c .nils)),none,0⟩,
 ⟨(some 7),.mov (.tmp 14),none,0⟩])
 .ret)
 .skip)))
 (.seq (.seq (.region 0 [] [
 ⟨(some 15),.load (some 10) (.tmp 3),none,0⟩,
 ⟨(some 16),.load (some 2) (.tmp 4),none,0⟩,
 ⟨(some 17),.call 48 true [(.tmp 15),(.tmp 16)],none,0⟩,
 ⟨(some 18),.not (.tmp 17),none,0⟩,
 ⟨(some 19),.mov (.tmp 18),none,0⟩,
 ⟨(some 20),.load (some 10) (.tmp 3),some (19,false),0⟩,
 ⟨(some 21),.mov (.tmp 2),some (19,false),0⟩,
 ⟨(some 22),.call 49 true [(.tmp 20),(.tmp 21)],some (19,false),0⟩,
 ⟨(some 23),.not (.tmp 22),some (19,false),0⟩,
 ⟨(some 24),.pick (.tmp 19) (.cst (.c (.bool true))) (.tmp 23),none,0⟩])
 (.cond (.tmp 24)
 (.seq (.region 0 [] [
 ⟨(some 6),.mov (.cst (.c .nils)),none,0⟩,
 ⟨(some 7),.mov (.cst (.c (.int .i64 2))),none,0⟩])
 .ret)
 .skip))
 (.seq (.region 1 [(0,2),(1,2),(0,3),(1,3),(2,3),(0,5),(2,5),(3,5)] [
 ⟨(some 25),.load (some 10) (.tmp 3),none,0⟩,
 ⟨(some 26),.call 50 false [(.tmp 25)],none,0⟩,
 ⟨(some 27),.load (some 2) (.tmp 4),none,0⟩,
 ⟨(some 28),.mov (.tmp 2),none,0⟩,
 ⟨(some 29),.call 51 false [(.tmp 26),(.tmp 27),(.tmp 28)],none,0⟩,
 ⟨(some 9),.alloc [(.int .i64 0),(.int .i64 0),(.int .i64 0),(.int .i64 0),(.int .i64 0),(.int .i64 0),(.int .i64 0),(.int .i64 0),(.int .i64 0),(.int .i64 0)],none,0⟩,
 ⟨none,.store (some 10) (.tmp 9) (.tmp 29),none,1⟩])
 (.seq (.region 1 [] [
 ⟨(some 30),.load (some 10) (.tmp 3),none,0⟩,
 ⟨(some 31),.call 53 true [(.tmp 30)],none,0⟩,
 ⟨(some 32),.pslice 10 (.tmp 9) none (some (.tmp 31)),none,0⟩,
 ⟨(some 33),.clone 52 1 8 (.tmp 32),none,0⟩,
 ⟨(some 6),.mov (.tmp 33),none,1⟩,
 ⟨(some 7),.mov (.cst (.c (.int .i64 0))),none,1⟩])
 .ret)))))⟩
def f26 : AFunc:=⟨40,[.tmp 2],false,
 (.seq (.region 1 [] [
 ⟨(some 1),.box (.tmp 0),none,0⟩,
 ⟨(some 2),.mov (.cst (.c .nils)),none,1⟩])
 (.seq (.region 0 [] [
 ⟨(some 3),.mov (.cst (.c .nils)),none,0⟩])
 (.seq (.seq (.region 0 [] [
 ⟨(some 4),.mov (.cst (.c (.int .i64 0))),none,0⟩])
 (.block 0 (.loop ⟨[5,6,7,8,9,10,11,12,13,14,15,16,17,18,19,20,21,22,23,24,25,26,27,28,29,30,31,32,33,34,35,36,37,38],true,[(3,none,1)]⟩
 (.seq (.seq (.region 0 [] [
 ⟨(some 7),.mov (.tmp 4),none,0⟩,
 ⟨(some 8),.load (some 9) (.tmp 1),none,0⟩,
 ⟨(some 9),.call 17 true [(.tmp 8)],none,0⟩,
 ⟨(some 10),.bin .lss (.tmp 7) (.tmp 9),none,0⟩])
 (.cond (.tmp 10)
 .skip
 (.exit 0)))
 (.seq (.block 1 (.seq (.region 0 [] [
 ⟨(some 5),.mov (.cst (.c (.int .i64 0))),none,0⟩])
 (.seq (.seq (.region 0 [] [
 ⟨(some 6),.mov (.cst (.c (.int .i64 0))),none,0⟩])
 (.block 2 (.loop ⟨[13,14,15,16,17,18,19,20,21,22,23,24,25,26,27,28,29,30,31,32,33,34],false,[]⟩
 (.seq (.seq (.region 0 [] [
 ⟨(some 13),.mov (.tmp 6),none,0⟩,
 ⟨(some 14),.faddr 8 (.tmp 1),none,0⟩,
 ⟨(some 15),.load none (.tmp 14),none,0⟩,
 ⟨(some 16),.len (.tmp 15),none,0⟩,
 ⟨(some 17),.bin .lss (.tmp 13) (.tmp 16),none,0⟩])
 (.cond (.tmp 17)
 .skip
 (.exit 2)))
 (.seq (.block 3 (.seq (.region 0 [(0,1),(0,2),(1,2),(0,3),(0,4),(1,4),(2,4),(3,4),(0,5),(1,5),(2,5),(3,5),(0,6),(1,6),(2,6),(3,6),(4,6),(5,6),(0,7),(1,7),(2,7),(3,7),(0,8),(1,8),(2,8),(3,8)] [
 ⟨(some 20),.load (some 9) (.tmp 1),none,0⟩,
 ⟨(some 21),.load (some 9) (.tmp 1),none,0⟩,
 ⟨(some 22),.mov (.tmp 4),none,0⟩,
 ⟨(some 23),.call 28 true [(.tmp 21),(.tmp 22)],none,0⟩,
 ⟨(some 24),.faddr 8 (.tmp 1),none,0⟩,
 ⟨(some 25),.load none (.tmp 24),none,0⟩,
 ⟨(some 26),.mov (.tmp 6),none,0⟩,
 ⟨(some 27),.iaddr 3 (.tmp 25) (.tmp 26),none,0⟩,
 ⟨(some 28),.load (some 3) (.tmp 27),none,0⟩,
 ⟨(some 29),.call 54 true [(.tmp 20),(.tmp 23),(.tmp 28)],none,0⟩])
 (.cond (.tmp 29)
 (.region 0 [] [
 ⟨(some 30),.mov (.tmp 5),none,0⟩,
 ⟨(some 31),.mov (.tmp 6),none,0⟩,
 ⟨(some 32),.conv .u64 (.tmp 31),none,0⟩,
 ⟨(some 33),.bin .shl (.cst (.c (.int .i64 1))) (.tmp 32),none,0⟩,
 ⟨(some 34),.bin .or (.tmp 30) (.tmp 33),none,0⟩,
 ⟨(some 5),.mov (.tmp 34),none,0⟩])
 .skip)))
 (.region 0 [] [
 ⟨(some 18),.mov (.tmp 6),none,0⟩,
 ⟨(some 19),.bin .add (.tmp 18) (.cst (.c (.int .i64 1))),none,0⟩,
 ⟨(some 6),.mov (.tmp 19),none,0⟩]))))))
 (.region 2 [] [
 ⟨(some 35),.mov (.tmp 3),none,0⟩,
 ⟨(some 36),.mov (.tmp 5),none,0⟩,
 ⟨(some 37),.bslice 1 1 [(.int .i64 0)] [(0,(.tmp 36))],none,0⟩,
 ⟨(some 38),.append 1 8 (.tmp 35) (.tmp 37),none,1⟩,
 ⟨(some 3),.mov (.tmp 38),none,2⟩]))))
 (.region 0 [] [
 ⟨(some 11),.mov (.tmp 4),none,0⟩,
 ⟨(some 12),.bin .add (.tmp 11) (.cst (.c (.int .i64 1))),none,0⟩,
 ⟨(some 4),.mov (.tmp 12),none,0⟩]))))))
 (.seq (.region 0 [] [
 ⟨(some 39),.mov (.tmp 3),none,0⟩,
 ⟨(some 2),.mov (.tmp 39),none,0⟩])
 .ret))))⟩
def f27 : AFunc:=⟨9,[.tmp 2],false,
 (.seq (.region 1 [] [
 ⟨(some 1),.box (.tmp 0),none,0⟩,
 ⟨(some 2),.mov (.cst (.c (.int .i64 0))),none,1⟩])
 (.seq (.region 0 [] [
 ⟨(some 3),.faddr 8 (.tmp 1),none,0⟩,
 ⟨(some 4),.load none (.tmp 3),none,0⟩,
 ⟨(some 5),.len (.tmp 4),none,0⟩,
 ⟨(some 6),.conv .u64 (.tmp 5),none,0⟩,
 ⟨(some 7),.bin .shl (.cst (.c (.int .i64 1))) (.tmp 6),none,0⟩,
 ⟨(some 8),.bin .sub (.tmp 7) (.cst (.c (.int .i64 1))),none,0⟩,
 ⟨(some 2),.mov (.tmp 8),none,0⟩])
 .ret))⟩
def f28 : AFunc:=⟨55,[.cell 4 (some 2)],false,
 (.seq (.region 2 [] [
 ⟨(some 2),.box (.tmp 0),none,0⟩,
 ⟨(some 4),.alloc [.nils,.nils],none,1⟩])
 (.seq (.region 1 [] [
 ⟨(some 5),.alloc [.nils,.nils],none,0⟩])
 (.seq (.seq (.region 0 [] [
 ⟨(some 6),.mov (.cst (.c (.int .i64 0))),none,0⟩])
 (.block 0 (.loop ⟨[7,8,9,10,11,12,13,14,15,16,17,18,19,20,21,22,23,24,25,26,27,28,29,30,31,32,33,34,35,36,37,38,39,40,41,42,43,44,45,46,47,48,49,50,51,52,53],true,[(5,(some 0),1),(5,(some 1),1)]⟩
 (.seq (.seq (.region 0 [] [
 ⟨(some 9),.mov (.tmp 6),none,0⟩,
 ⟨(some 10),.faddr 1 (.tmp 2),none,0⟩,
 ⟨(some 11),.load none (.tmp 10),none,0⟩,
 ⟨(some 12),.len (.tmp 11),none,0⟩,
 ⟨(some 13),.bin .lss (.tmp 9) (.tmp 12),none,0⟩])
 (.cond (.tmp 13)
 .skip
 (.exit 0)))
 (.seq (.block 1 (.seq (.region 1 [] [
 ⟨(some 16),.faddr 1 (.tmp 2),none,0⟩,
 ⟨(some 17),.load none (.tmp 16),none,0⟩,
 ⟨(some 18),.mov (.tmp 6),none,0⟩,
 ⟨(some 19),.iaddr 2 (.tmp 17) (.tmp 18),none,0⟩,
 ⟨(some 20),.load (some 2) (.tmp 19),none,0⟩,
 ⟨(some 7),.alloc [(.int .i64 0),(.int .i64 0)],none,0⟩,
 ⟨none,.store (some 2) (.tmp 7) (.tmp 20),none,1⟩])
 (.seq (.region 2 [(0,2),(1,2),(0,3),(1,3),(0,4),(1,4),(2,4),(3,4),(0,5),(1,5),(2,5),(3,5),(4,5),(0,6),(1,6),(2,6),(3,6),(4,6),(0,7),(1,7),(2,7),(3,7),(0,8),(1,8),(0,9),(1,9),(0,11),(1,11),(2,11),(3,11),(4,11),(5,11),(6,11),(7,11),(8,11),(9,11),(10,11),(0,12),(1,12),(2,12),(3,12),(4,12),(5,12),(6,12),(7,12),(8,12),(9,12),(10,12),(11,12),(11,13),(11,15),(12,15),(13,15),(14,15),(11,16),(14,16)] [
 ⟨(some 21),.faddr 0 (.tmp 5),none,0⟩,
 ⟨(some 22),.load none (.tmp 21),none,0⟩,
 ⟨(some 23),.faddr 0 (.tmp 7),none,0⟩,
 ⟨(some 24),.load none (.tmp 23),none,0⟩,
 ⟨(some 25),.mov (.tmp 1),none,0⟩,
 ⟨(some 26),.load (some 2) (.tmp 7),none,0⟩,
 ⟨(some 27),.call 44 true [(.tmp 26)],none,0⟩,
 ⟨(some 28),.bin .rem (.tmp 25) (.tmp 27),none,0⟩,
 ⟨(some 29),.bin .add (.tmp 24) (.tmp 28),none,0⟩,
 ⟨(some 30),.bslice 1 1 [(.int .i64 0)] [(0,(.tmp 29))],none,0⟩,
 ⟨(some 31),.append 1 8 (.tmp 22) (.tmp 30),none,1⟩,
 ⟨(some 32),.mov (.tmp 1),none,2⟩,
 ⟨(some 33),.load (some 2) (.tmp 7),none,2⟩,
 ⟨(some 34),.call 44 true [(.tmp 33)],none,2⟩,
 ⟨(some 35),.bin .quo (.tmp 32) (.tmp 34),none,2⟩,
 ⟨(some 36),.faddr 0 (.tmp 5),none,2⟩,
 ⟨none,.store none (.tmp 36) (.tmp 31),none,2⟩,
 ⟨(some 1),.mov (.tmp 35),none,2⟩])
 (.seq (.region 0 [] [
 ⟨(some 37),.faddr 2 (.tmp 2),none,0⟩,
 ⟨(some 38),.load none (.tmp 37),none,0⟩,
 ⟨(some 39),.mov (.tmp 6),none,0⟩,
 ⟨(some 40),.iaddr 1 (.tmp 38) (.tmp 39),none,0⟩,
 ⟨(some 41),.load none (.tmp 40),none,0⟩,
 ⟨(some 8),.mov (.tmp 41),none,0⟩])
 (.seq (.seq (.region 0 [] [
 ⟨(some 42),.mov (.tmp 8),none,0⟩,
 ⟨(some 43),.bin .eql (.tmp 42) (.cst (.c (.int .i64 2))),none,0⟩])
 (.cond (.tmp 43)
 (.region 0 [] [
 ⟨(some 44),.mov (.tmp 1),none,0⟩,
 ⟨(some 45),.bin .rem (.tmp 44) (.cst (.c (.int .i64 2))),none,0⟩,
 ⟨(some 46),.mov (.tmp 1),none,0⟩,
 ⟨(some 47),.bin .quo (.tmp 46) (.cst (.c (.int .i64 2))),none,0⟩,
 ⟨(some 8),.mov (.tmp 45),none,0⟩,
 ⟨(some 1),.mov (.tmp 47),none,0⟩])
 .skip))
 (.region 2 [] [
 ⟨(some 48),.faddr 1 (.tmp 5),none,0⟩,
 ⟨(some 49),.load none (.tmp 48),none,0⟩,
 ⟨(some 50),.mov (.tmp 8),none,0⟩,
 ⟨(some 51),.bslice 1 1 [(.int .i64 0)] [(0,(.tmp 50))],none,0⟩,
 ⟨(some 52),.append 1 8 (.tmp 49) (.tmp 51),none,1⟩,
 ⟨(some 53),.faddr 1 (.tmp 5),none,2⟩,
 ⟨none,.store none (.tmp 53) (.tmp 52),none,2⟩]))))))
 (.region 0 [] [
 ⟨(some 14),.mov (.tmp 6),none,0⟩,
 ⟨(some 15),.bin .add (.tmp 14) (.cst (.c (.int .i64 1))),none,0⟩,
 ⟨(some 6),.mov (.tmp 15),none,0⟩]))))))
 (.seq (.region 0 [] [
 ⟨(some 54),.load (some 2) (.tmp 5),none,0⟩,
 ⟨none,.store (some 2) (.tmp 4) (.tmp 54),none,0⟩])
 .ret))))⟩
def f29 : AFunc:=⟨11,[.tmp 4,.tmp 5],false,
 (.seq (.region 2 [] [
 ⟨(some 2),.box (.tmp 0),none,0⟩,
 ⟨(some 3),.box (.tmp 1),none,1⟩,
 ⟨(some 4),.mov (.cst (.c .nilp)),none,2⟩,
 ⟨(some 5),.mov (.cst (.c (.int .i64 0))),none,2⟩])
 (.seq (.region 0 [] [
 ⟨(some 6),.load (some 9) (.tmp 2),none,0⟩,
 ⟨(some 7),.mkfn 56 none [(.tmp 3)],none,0⟩,
 ⟨(some 8),.call 55 false [(.tmp 6),(.tmp 7)],none,0⟩,
 ⟨(some 9),.extract 0 (.tmp 8),none,0⟩,
 ⟨(some 10),.extract 1 (.tmp 8),none,0⟩,
 ⟨(some 4),.mov (.tmp 9),none,0⟩,
 ⟨(some 5),.mov (.tmp 10),none,0⟩])
 .ret))⟩
def f30 : AFunc:=⟨5,[.tmp 2],false,
 (.seq (.region 1 [] [
 ⟨(some 1),.box (.tmp 0),none,0⟩,
 ⟨(some 2),.mov (.cst (.c (.int .i64 0))),none,1⟩])
 (.seq (.region 0 [] [
 ⟨(some 3),.faddr 0 (.tmp 1),none,0⟩,
 ⟨(some 4),.load none (.tmp 3),none,0⟩,
 ⟨(some 2),.mov (.tmp 4),none,0⟩])
 .ret))⟩
def f31 : AFunc:=⟨12,[.cell 8 (some 2)],false,
 (.seq (.region 5 [] [
 ⟨(some 4),.box (.tmp 0),none,0⟩,
 ⟨(some 5),.box (.tmp 1),none,1⟩,
 ⟨(some 6),.box (.tmp 2),none,2⟩,
 ⟨(some 7),.box (.tmp 3),none,3⟩,
 ⟨(some 8),.alloc [(.int .i64 0),(.int .i64 0)],none,4⟩])
 (.seq (.region 0 [] [
 ⟨(some 9),.load none (.tmp 5),none,0⟩,
 ⟨(some 10),.mkfn 58 none [(.tmp 4),(.tmp 5),(.tmp 6),(.tmp 7)],none,0⟩,
 ⟨(some 11),.call 57 false [(.tmp 9),(.tmp 10)],none,0⟩,
 ⟨none,.store (some 2) (.tmp 8) (.tmp 11),none,0⟩])
 .ret))⟩
def f32 : AFunc:=⟨35,[.tmp 6],false,
 (.seq (.region 1 [] [
 ⟨(some 3),.box (.tmp 0),none,0⟩,
 ⟨(some 6),.mov (.cst (.c (.int .i64 0))),none,1⟩])
 (.seq (.region 0 [] [
 ⟨(some 7),.mov (.cst (.c (.int .i64 (-1)))),none,0⟩])
 (.seq (.seq (.region 0 [] [
 ⟨(some 8),.mov (.tmp 2),none,0⟩,
 ⟨(some 9),.bin .gtr (.tmp 8) (.cst (.c (.int .i64 0))),none,0⟩])
 (.cond (.tmp 9)
 (.region 0 [] [
 ⟨(some 10),.mov (.tmp 1),none,0⟩,
 ⟨(some 11),.mov (.tmp 2),none,0⟩,
 ⟨(some 12),.bin .sub (.tmp 11) (.cst (.c (.int .i64 1))),none,0⟩,
 ⟨(some 13),.iaddr 1 (.tmp 10) (.tmp 12),none,0⟩,
 ⟨(some 14),.load none (.tmp 13),none,0⟩,
 ⟨(some 7),.mov (.tmp 14),none,0⟩])
 .skip))
 (.seq (.region 0 [(0,2),(1,2),(0,5),(1,5),(2,5),(3,5),(4,5),(0,6),(1,6),(2,6),(3,6),(4,6),(0,7),(1,7),(2,7),(3,7),(4,7),(5,7),(6,7),(0,8),(1,8),(2,8),(3,8),(4,8),(5,8),(6,8),(7,8),(0,9),(1,9),(2,9),(3,9),(4,9),(5,9),(6,9),(0,10),(1,10),(2,10),(3,10),(4,10),(5,10),(6,10),(0,11),(1,11),(2,11),(3,11),(4,11),(5,11),(6,11),(7,11),(8,11),(9,11),(10,11),(0,12),(1,12),(2,12),(3,12),(4,12),(5,12),(6,12),(0,13),(1,13),(2,13),(3,13),(4,13),(5,13),(6,13),(7,13),(8,13),(9,13),(10,13),(11,13),(12,13),(0,14),(1,14),(2,14),(3,14),(4,14),(5,14),(6,14),(7,14),(8,14),(9,14),(10,14),(11,14),(12,14),(0,15),(1,15),(2,15),(3,15),(4,15),(5,15),(6,15),(0,16),(1,16),(2,16),(3,16),(4,16),(5,16),(6,16),(0,17),(1,17),(2,17),(3,17),(4,17)] [
 ⟨(some 15),.faddr 3 (.tmp 3),none,0⟩,
 ⟨(some 16),.load none (.tmp 15),none,0⟩,
 ⟨(some 17),.mov (.tmp 2),none,0⟩,
 ⟨(some 18),.iaddr 1 (.tmp 16) (.tmp 17),none,0⟩,
 ⟨(some 19),.load none (.tmp 18),none,0⟩,
 ⟨(some 20),.faddr 6 (.tmp 3),none,0⟩,
 ⟨(some 21),.load none (.tmp 20),none,0⟩,
 ⟨(some 22),.mov (.tmp 1),none,0⟩,
 ⟨(some 23),.mov (.tmp 2),none,0⟩,
 ⟨(some 24),.iaddr 1 (.tmp 22) (.tmp 23),none,0⟩,
 ⟨(some 25),.load none (.tmp 24),none,0⟩,
 ⟨(some 26),.mov (.tmp 7),none,0⟩,
 ⟨(some 27),.bin .sub (.tmp 25) (.tmp 26),none,0⟩,
 ⟨(some 28),.faddr 5 (.tmp 3),none,0⟩,
 ⟨(some 29),.load none (.tmp 28),none,0⟩,
 ⟨(some 30),.bin .sub (.tmp 27) (.tmp 29),none,0⟩,
 ⟨(some 31),.mm true (.cst (.c (.int .i64 0))) (.tmp 30),none,0⟩,
 ⟨(some 32),.bin .mul (.tmp 21) (.tmp 31),none,0⟩,
 ⟨(some 33),.bin .sub (.tmp 19) (.tmp 32),none,0⟩,
 ⟨(some 34),.mm true (.cst (.c (.int .i64 0))) (.tmp 33),none,0⟩,
 ⟨(some 6),.mov (.tmp 34),none,0⟩])
 .ret))))⟩
def f33 : AFunc:=⟨5,[.tmp 2],false,
 (.seq (.region 1 [] [
 ⟨(some 1),.box (.tmp 0),none,0⟩,
 ⟨(some 2),.mov (.cst (.c (.int .i64 0))),none,1⟩])
 (.seq (.region 0 [] [
 ⟨(some 3),.faddr 2 (.tmp 1),none,0⟩,
 ⟨(some 4),.load none (.tmp 3),none,0⟩,
 ⟨(some 2),.mov (.tmp 4),none,0⟩])
 .ret))⟩
def f34 : AFunc:=⟨5,[.tmp 2],false,
 (.seq (.region 0 [] [
 ⟨(some 2),.mov (.cst (.c .nils)),none,0⟩])
 (.seq (.region 1 [] [
 ⟨(some 3),.mov (.tmp 0),none,0⟩,
 ⟨(some 4),.append 1 8 (.cst (.c .nils)) (.tmp 3),none,0⟩,
 ⟨(some 2),.mov (.tmp 4),none,1⟩])
 .ret))⟩
def f35 : AFunc:=⟨8,[.cell 2 (some 2)],false,
 (.seq (.region 2 [] [
 ⟨(some 1),.box (.tmp 0),none,0⟩,
 ⟨(some 2),.alloc [(.int .i64 0),(.int .i64 0)],none,1⟩])
 (.seq (.region 0 [] [
 ⟨(some 3),.faddr 0 (.tmp 1),none,0⟩,
 ⟨(some 4),.load none (.tmp 3),none,0⟩,
 ⟨(some 5),.faddr 1 (.tmp 1),none,0⟩,
 ⟨(some 6),.load none (.tmp 5),none,0⟩,
 ⟨(some 7),.build [(.int .i64 0),(.int .i64 0)] [(0,1,(.tmp 4)),(1,1,(.tmp 6))],none,0⟩,
 ⟨none,.store (some 2) (.tmp 2) (.tmp 7),none,0⟩])
 .ret))⟩
def f36 : AFunc:=⟨92,[.tmp 2],false,
 (.seq (.region 1 [] [
 ⟨(some 1),.box (.tmp 0),none,0⟩,
 ⟨(some 2),.mov (.cst (.c (.int .i64 0))),none,1⟩])
 (.seq (.region 0 [] [
 ⟨(some 7),.load (some 9) (.tmp 1),none,0⟩,
 ⟨(some 8),.mkfn 59 (some (.tmp 7)) [],none,0⟩,
 ⟨(some 3),.mov (.tmp 8),none,0⟩])
 (.seq (.block 0 (.seq (.region 0 [] [
 ⟨(some 10),.faddr 0 (.tmp 1),none,0⟩,
 ⟨(some 11),.load none (.tmp 10),none,0⟩,
 ⟨(some 12),.bin .gtr (.tmp 11) (.cst (.c (.int .i64 9))),none,0⟩,
 ⟨(some 13),.mov (.tmp 12),none,0⟩,
 ⟨(some 14),.faddr 3 (.tmp 1),some (13,false),0⟩,
 ⟨(some 15),.load none (.tmp 14),some (13,false),0⟩,
 ⟨(some 16),.len (.tmp 15),some (13,false),0⟩,
 ⟨(some 17),.bin .gtr (.tmp 16) (.cst (.c (.int .i64 3))),some (13,false),0⟩,
 ⟨(some 18),.pick (.tmp 13) (.cst (.c (.bool true))) (.tmp 17),none,0⟩,
 ⟨(some 19),.mov (.tmp 18),none,0⟩,
 ⟨(some 20),.faddr 8 (.tmp 1),some (19,false),0⟩,
 ⟨(some 21),.load none (.tmp 20),some (19,false),0⟩,
 ⟨(some 22),.len (.tmp 21),some (19,false),0⟩,
 ⟨(some 23),.bin .gtr (.tmp 22) (.cst (.c (.int .i64 5))),some (19,false),0⟩,
 ⟨(some 24),.pick (.tmp 19) (.cst (.c (.bool true))) (.tmp 23),none,0⟩,
 ⟨(some 9),.mov (.tmp 24),none,0⟩])
 (.cond (.tmp 9)
 (.seq (.region 0 [] [
 ⟨(some 2),.mov (.cst (.c (.int .i64 3))),none,0⟩])
 .ret)
 (.seq (.region 0 [(4,7),(5,7),(6,7),(4,8),(5,8),(6,8),(12,15),(13,15),(14,15),(12,16),(13,16),(14,16),(25,26),(25,27),(44,46),(45,46)] [
 ⟨(some 26),.load (some 9) (.tmp 1),none,0⟩,
 ⟨(some 27),.call 60 true [(.tmp 26)],none,0⟩,
 ⟨(some 28),.not (.tmp 27),none,0⟩,
 ⟨(some 29),.mov (.tmp 28),none,0⟩,
 ⟨(some 30),.faddr 1 (.tmp 1),some (29,false),0⟩,
 ⟨(some 31),.load none (.tmp 30),some (29,false),0⟩,
 ⟨(some 32),.len (.tmp 31),some (29,false),0⟩,
 ⟨(some 33),.load (some 9) (.tmp 1),some (29,false),0⟩,
 ⟨(some 34),.call 61 true [(.tmp 33)],some (29,false),0⟩,
 ⟨(some 35),.bin .neq (.tmp 32) (.tmp 34),some (29,false),0⟩,
 ⟨(some 36),.pick (.tmp 29) (.cst (.c (.bool true))) (.tmp 35),none,0⟩,
 ⟨(some 37),.mov (.tmp 36),none,0⟩,
 ⟨(some 38),.faddr 2 (.tmp 1),some (37,false),0⟩,
 ⟨(some 39),.load none (.tmp 38),some (37,false),0⟩,
 ⟨(some 40),.len (.tmp 39),some (37,false),0⟩,
 ⟨(some 41),.load (some 9) (.tmp 1),some (37,false),0⟩,
 ⟨(some 42),.call 61 true [(.tmp 41)],some (37,false),0⟩,
 ⟨(some 43),.bin .neq (.tmp 40) (.tmp 42),some (37,false),0⟩,
 ⟨(some 44),.pick (.tmp 37) (.cst (.c (.bool true))) (.tmp 43),none,0⟩,
 ⟨(some 45),.mov (.tmp 44),none,0⟩,
 ⟨(some 46),.load (some 9) (.tmp 1),some (45,false),0⟩,
 ⟨(some 47),.call 62 true [(.tmp 46)],some (45,false),0⟩,
 ⟨(some 48),.not (.tmp 47),some (45,false),0⟩,
 ⟨(some 49),.pick (.tmp 45) (.cst (.c (.bool true))) (.tmp 48),none,0⟩,
 ⟨(some 50),.mov (.tmp 49),none,0⟩,
 ⟨(some 51),.load (some 9) (.tmp 1),some (50,false),0⟩,
 ⟨(some 52),.faddr 4 (.tmp 1),some (50,false),0⟩,
 ⟨(some 53),.load none (.tmp 52),some (50,false),0⟩,
 ⟨(some 54),.call 38 true [(.tmp 51),(.tmp 53)],some (50,false),0⟩,
 ⟨(some 55),.not (.tmp 54),some (50,false),0⟩,
 ⟨(some 56),.pick (.tmp 50) (.cst (.c (.bool true))) (.tmp 55),none,0⟩,
 ⟨(some 57),.mov (.tmp 56),none,0⟩,
 ⟨(some 58),.faddr 1 (.tmp 1),some (57,false),0⟩,
 ⟨(some 59),.load none (.tmp 58),some (57,false),0⟩,
 ⟨(some 60),.call 63 false [(.tmp 59),(.cst (.c (.fn 64 false [] [])))],some (57,false),0⟩,
 ⟨(some 61),.not (.tmp 60),some (57,false),0⟩,
 ⟨(some 62),.pick (.tmp 57) (.cst (.c (.bool true))) (.tmp 61),none,0⟩,
 ⟨(some 63),.mov (.tmp 62),none,0⟩,
 ⟨(some 64),.faddr 2 (.tmp 1),some (63,false),0⟩,
 ⟨(some 65),.load none (.tmp 64),some (63,false),0⟩,
 ⟨(some 66),.call 65 false [(.tmp 65),(.cst (.c (.fn 66 false [] [])))],some (63,false),0⟩,
 ⟨(some 67),.not (.tmp 66),some (63,false),0⟩,
 ⟨(some 68),.pick (.tmp 63) (.cst (.c (.bool true))) (.tmp 67),none,0⟩,
 ⟨(some 69),.mov (.tmp 68),none,0⟩,
 ⟨(some 70),.faddr 8 (.tmp 1),some (69,false),0⟩,
 ⟨(some 71),.load none (.tmp 70),some (69,false),0⟩,
 ⟨(some 72),.mov (.tmp 3),some (69,false),0⟩,
 ⟨(some 73),.call 67 false [(.tmp 71),(.tmp 72)],some (69,false),0⟩,
 ⟨(some 74),.not (.tmp 73),some (69,false),0⟩,
 ⟨(some 75),.pick (.tmp 69) (.cst (.c (.bool true))) (.tmp 74),none,0⟩,
 ⟨(some 25),.mov (.tmp 75),none,0⟩])
 (.cond (.tmp 25)
 (.seq (.region 0 [] [
 ⟨(some 2),.mov (.cst (.c (.int .i64 1))),none,0⟩])
 .ret)
 .skip)))))
 (.seq (.region 0 [] [
 ⟨(some 4),.mov (.cst (.c (.int .i64 1))),none,0⟩])
 (.seq (.seq (.region 0 [] [
 ⟨(some 76),.load (some 9) (.tmp 1),none,0⟩,
 ⟨(some 77),.call 68 true [(.tmp 76)],none,0⟩,
 ⟨(some 78),.len (.tmp 77),none,0⟩,
 ⟨(some 79),.mov (.cst (.c (.int .i64 0))),none,0⟩])
 (.block 1 (.loop ⟨[6,80,81,82,83,84,85,86,87,88,89],true,[]⟩
 (.seq (.region 0 [] [
 ⟨(some 80),.bin .lss (.tmp 79) (.tmp 78),none,0⟩])
 (.seq (.cond (.tmp 80)
 .skip
 (.exit 1))
 (.seq (.block 2 (.seq (.region 1 [] [
 ⟨(some 81),.iaddr 2 (.tmp 77) (.tmp 79),none,0⟩,
 ⟨(some 82),.load (some 2) (.tmp 81),none,0⟩,
 ⟨(some 6),.alloc [(.int .i64 0),(.int .i64 0)],none,0⟩,
 ⟨none,.store (some 2) (.tmp 6) (.tmp 82),none,1⟩])
 (.region 1 [] [
 ⟨(some 83),.mov (.tmp 4),none,0⟩,
 ⟨(some 84),.load (some 2) (.tmp 6),none,0⟩,
 ⟨(some 85),.call 70 true [(.tmp 84)],none,0⟩,
 ⟨(some 86),.bin .mul (.tmp 83) (.tmp 85),none,0⟩,
 ⟨(some 87),.bslice 1 2 [(.int .i64 0)] [(0,(.tmp 86)),(1,(.cst (.c (.int .i64 2001))))],none,0⟩,
 ⟨(some 88),.call 69 true [(.tmp 87)],none,1⟩,
 ⟨(some 4),.mov (.tmp 88),none,1⟩])))
 (.region 0 [] [
 ⟨(some 89),.bin .add (.tmp 79) (.cst (.c (.int .i64 1))),none,0⟩,
 ⟨(some 79),.mov (.tmp 89),none,0⟩])))))))
 (.seq (.seq (.region 0 [] [
 ⟨(some 90),.mov (.tmp 4),none,0⟩,
 ⟨(some 91),.bin .gtr (.tmp 90) (.cst (.c (.int .i64 2000))),none,0⟩])
 (.cond (.tmp 91)
 (.seq (.region 0 [] [
 ⟨(some 2),.mov (.cst (.c (.int .i64 3))),none,0⟩])
 .ret)
 .skip))
 (.seq (.region 0 [] [
 ⟨(some 2),.mov (.cst (.c (.int .i64 0))),none,0⟩])
 .ret)))))))⟩
def f37 : AFunc:=⟨44,[.tmp 4],false,
 (.seq (.region 2 [] [
 ⟨(some 2),.box (.tmp 0),none,0⟩,
 ⟨(some 3),.box (.tmp 1),none,1⟩,
 ⟨(some 4),.mov (.cst (.c (.bool false))),none,2⟩])
 (.seq (.seq (.region 0 [(0,3),(1,3),(2,3),(0,4),(1,4),(2,4),(7,10),(8,10),(9,10),(7,11),(8,11),(9,11)] [
 ⟨(some 8),.faddr 0 (.tmp 3),none,0⟩,
 ⟨(some 9),.load none (.tmp 8),none,0⟩,
 ⟨(some 10),.len (.tmp 9),none,0⟩,
 ⟨(some 11),.load (some 9) (.tmp 2),none,0⟩,
 ⟨(some 12),.call 61 true [(.tmp 11)],none,0⟩,
 ⟨(some 13),.bin .neq (.tmp 10) (.tmp 12),none,0⟩,
 ⟨(some 14),.mov (.tmp 13),none,0⟩,
 ⟨(some 15),.faddr 1 (.tmp 3),some (14,false),0⟩,
 ⟨(some 16),.load none (.tmp 15),some (14,false),0⟩,
 ⟨(some 17),.len (.tmp 16),some (14,false),0⟩,
 ⟨(some 18),.load (some 9) (.tmp 2),some (14,false),0⟩,
 ⟨(some 19),.call 61 true [(.tmp 18)],some (14,false),0⟩,
 ⟨(some 20),.bin .neq (.tmp 17) (.tmp 19),some (14,false),0⟩,
 ⟨(some 21),.pick (.tmp 14) (.cst (.c (.bool true))) (.tmp 20),none,0⟩])
 (.cond (.tmp 21)
 (.seq (.region 0 [] [
 ⟨(some 4),.mov (.cst (.c (.bool false))),none,0⟩])
 .ret)
 .skip))
 (.seq (.region 1 [] [
 ⟨(some 22),.faddr 0 (.tmp 3),none,0⟩,
 ⟨(some 23),.load none (.tmp 22),none,0⟩,
 ⟨(some 24),.faddr 1 (.tmp 3),none,0⟩,
 ⟨(some 25),.load none (.tmp 24),none,0⟩,
 ⟨(some 26),.bslice 1 2 [.nils] [(0,(.tmp 23)),(1,(.tmp 25))],none,0⟩,
 ⟨(some 27),.call 71 true [(.tmp 26)],none,1⟩,
 ⟨(some 5),.mov (.tmp 27),none,1⟩])
 (.seq (.seq (.region 0 [] [
 ⟨(some 28),.load (some 9) (.tmp 2),none,0⟩,
 ⟨(some 29),.call 68 true [(.tmp 28)],none,0⟩,
 ⟨(some 30),.len (.tmp 29),none,0⟩,
 ⟨(some 31),.mov (.cst (.c (.int .i64 0))),none,0⟩])
 (.block 0 (.loop ⟨[4,6,7,32,33,34,35,36,37,38,39,40,41,42,43],true,[]⟩
 (.seq (.region 0 [] [
 ⟨(some 32),.bin .lss (.tmp 31) (.tmp 30),none,0⟩])
 (.seq (.cond (.tmp 32)
 .skip
 (.exit 0))
 (.seq (.block 1 (.seq (.region 1 [] [
 ⟨(some 33),.mov (.tmp 31),none,0⟩,
 ⟨(some 34),.iaddr 2 (.tmp 29) (.tmp 31),none,0⟩,
 ⟨(some 35),.load (some 2) (.tmp 34),none,0⟩,
 ⟨(some 7),.alloc [(.int .i64 0),(.int .i64 0)],none,0⟩,
 ⟨(some 6),.mov (.tmp 33),none,1⟩,
 ⟨none,.store (some 2) (.tmp 7) (.tmp 35),none,1⟩])
 (.seq (.region 0 [(0,1),(0,2),(1,2),(0,3),(0,4)] [
 ⟨(some 36),.load (some 2) (.tmp 7),none,0⟩,
 ⟨(some 37),.mov (.tmp 5),none,0⟩,
 ⟨(some 38),.mov (.tmp 6),none,0⟩,
 ⟨(some 39),.iaddr 1 (.tmp 37) (.tmp 38),none,0⟩,
 ⟨(some 40),.load none (.tmp 39),none,0⟩,
 ⟨(some 41),.call 72 true [(.tmp 36),(.tmp 40)],none,0⟩,
 ⟨(some 42),.not (.tmp 41),none,0⟩])
 (.cond (.tmp 42)
 (.seq (.region 0 [] [
 ⟨(some 4),.mov (.cst (.c (.bool false))),none,0⟩])
 .ret)
 .skip))))
 (.region 0 [] [
 ⟨(some 43),.bin .add (.tmp 31) (.cst (.c (.int .i64 1))),none,0⟩,
 ⟨(some 31),.mov (.tmp 43),none,0⟩])))))))
 (.seq (.region 0 [] [
 ⟨(some 4),.mov (.cst (.c (.bool true))),none,0⟩])
 .ret)))))⟩
def f38 : AFunc:=⟨17,[.tmp 4],false,
 (.seq (.region 1 [] [
 ⟨(some 2),.box (.tmp 0),none,0⟩,
 ⟨(some 4),.mov (.cst (.c (.bool false))),none,1⟩])
 (.seq (.region 1 [] [
 ⟨(some 5),.alloc [(.int .i64 0)],none,0⟩,
 ⟨none,.store none (.tmp 5) (.cst (.c (.int .i64 (-1)))),none,1⟩])
 (.seq (.region 0 [] [
 ⟨(some 6),.mov (.tmp 1),none,0⟩,
 ⟨(some 7),.len (.tmp 6),none,0⟩,
 ⟨(some 8),.faddr 3 (.tmp 2),none,0⟩,
 ⟨(some 9),.load none (.tmp 8),none,0⟩,
 ⟨(some 10),.len (.tmp 9),none,0⟩,
 ⟨(some 11),.bin .leq (.tmp 7) (.tmp 10),none,0⟩,
 ⟨(some 12),.mov (.tmp 11),none,0⟩,
 ⟨(some 13),.mov (.tmp 1),some (12,true),0⟩,
 ⟨(some 14),.mkfn 73 none [(.tmp 5),(.tmp 2)],some (12,true),0⟩,
 ⟨(some 15),.call 65 false [(.tmp 13),(.tmp 14)],some (12,true),0⟩,
 ⟨(some 16),.pick (.tmp 12) (.tmp 15) (.cst (.c (.bool false))),none,0⟩,
 ⟨(some 4),.mov (.tmp 16),none,0⟩])
 .ret)))⟩
def f39 : AFunc:=⟨7,[.tmp 2],false,
 (.seq (.region 1 [] [
 ⟨(some 1),.box (.tmp 0),none,0⟩,
 ⟨(some 2),.mov (.cst (.c .nilp)),none,1⟩])
 (.seq (.region 2 [] [
 ⟨(some 3),.load (some 9) (.tmp 1),none,0⟩,
 ⟨(some 4),.mkmap true false [(some .i64),none],none,0⟩,
 ⟨(some 5),.build [(.int .i64 0),.nils,.nils,.nils,.nils,(.int .i64 0),(.int .i64 0),(.int .i64 0),.nils,.any] [(0,9,(.tmp 3)),(9,1,(.tmp 4))],none,1⟩,
 ⟨(some 6),.box (.tmp 5),none,1⟩,
 ⟨(some 2),.mov (.tmp 6),none,2⟩])
 .ret))⟩
def f40 : AFunc:=⟨53,[.tmp 6],false,
 (.seq (.region 1 [] [
 ⟨(some 4),.box (.tmp 1),none,0⟩,
 ⟨(some 6),.mov (.cst (.c .nils)),none,1⟩])
 (.seq (.region 1 [] [
 ⟨(some 12),.mov (.tmp 0),none,0⟩,
 ⟨(some 13),.load (some 2) (.tmp 4),none,0⟩,
 ⟨(some 14),.mov (.tmp 2),none,0⟩,
 ⟨(some 15),.call 75 true [(.tmp 12),(.tmp 13),(.tmp 14)],none,0⟩,
 ⟨(some 7),.alloc [(.int .i64 0),(.int .i64 0),(.int .i64 0),(.int .i64 0),(.int .i64 0),(.int .i64 0),(.int .i64 0),(.int .i64 0),(.int .i64 0),(.int .i64 0)],none,0⟩,
 ⟨none,.store (some 10) (.tmp 7) (.tmp 15),none,1⟩])
 (.seq (.seq (.region 0 [] [
 ⟨(some 16),.mov (.tmp 2),none,0⟩,
 ⟨(some 17),.len (.tmp 16),none,0⟩,
 ⟨(some 18),.mov (.cst (.c (.int .i64 0))),none,0⟩])
 (.block 0 (.loop ⟨[8,9,10,11,19,20,21,22,23,24,25,26,27,28,29,30,31,32,33,34,35,36,37,38,39,40,41,42,43,44,45,46,47,48,49,50,51],false,[(6,none,3)]⟩
 (.seq (.region 0 [] [
 ⟨(some 19),.bin .lss (.tmp 18) (.tmp 17),none,0⟩])
 (.seq (.cond (.tmp 19)
 .skip
 (.exit 0))
 (.seq (.block 1 (.seq (.region 0 [] [
 ⟨(some 20),.mov (.tmp 18),none,0⟩,
 ⟨(some 21),.iaddr 1 (.tmp 16) (.tmp 18),none,0⟩,
 ⟨(some 22),.load none (.tmp 21),none,0⟩,
 ⟨(some 8),.mov (.tmp 20),none,0⟩,
 ⟨(some 9),.mov (.tmp 22),none,0⟩])
 (.seq (.region 0 [(0,1),(0,2),(0,3),(0,4),(1,4),(2,4),(3,4),(0,5),(1,5),(2,5),(3,5),(0,6),(1,6),(2,6),(3,6),(4,6),(5,6),(0,7),(1,7),(2,7),(3,7),(0,8),(1,8),(2,8),(3,8),(0,9),(1,9),(2,9),(3,9),(0,10),(0,12),(1,12),(2,12),(3,12),(4,12),(5,12),(6,12),(7,12),(8,12),(9,12),(10,12),(11,12),(0,13),(1,13),(2,13),(3,13),(4,13),(5,13),(6,13),(7,13),(8,13),(9,13),(10,13),(11,13),(0,14),(1,14),(2,14),(3,14),(4,14),(5,14),(6,14),(7,14),(8,14),(9,14),(10,14),(11,14),(0,15),(1,15),(2,15),(3,15),(4,15),(5,15),(6,15),(7,15),(8,15),(9,15),(10,15),(11,15),(0,16),(1,16),(2,16),(3,16),(4,16),(5,16),(6,16),(7,16),(8,16),(9,16),(10,16),(11,16),(12,16),(13,16),(14,16),(15,16),(0,17),(1,17),(2,17),(3,17),(4,17),(5,17),(6,17),(7,17),(8,17),(9,17),(10,17),(11,17),(12,17),(13,17),(14,17),(15,17),(16,17)] [
 ⟨(some 23),.mov (.tmp 0),none,0⟩,
 ⟨(some 24),.mov (.tmp 9),none,0⟩,
 ⟨(some 25),.iaddrA 10 1 (.tmp 7) (.tmp 24),none,0⟩,
 ⟨(some 26),.load none (.tmp 25),none,0⟩,
 ⟨(some 27),.faddr 1 (.tmp 4),none,0⟩,
 ⟨(some 28),.load none (.tmp 27),none,0⟩,
 ⟨(some 29),.mov (.tmp 9),none,0⟩,
 ⟨(some 30),.iaddr 1 (.tmp 28) (.tmp 29),none,0⟩,
 ⟨(some 31),.load none (.tmp 30),none,0⟩,
 ⟨(some 32),.bin .gtr (.tmp 31) (.cst (.c (.int .i64 0))),none,0⟩,
 ⟨(some 33),.build [(.int .i64 0),(.bool false)] [(0,1,(.tmp 26)),(1,1,(.tmp 32))],none,0⟩,
 ⟨(some 34),.call 76 false [(.tmp 23),(.tmp 33)],none,0⟩,
 ⟨(some 35),.mov (.tmp 0),none,0⟩,
 ⟨(some 36),.nilchk (.tmp 35),none,0⟩,
 ⟨(some 37),.faddr 0 (.tmp 36),none,0⟩,
 ⟨(some 38),.load (some 9) (.tmp 37),none,0⟩,
 ⟨(some 39),.mov (.tmp 2),none,0⟩,
 ⟨(some 40),.mov (.tmp 8),none,0⟩,
 ⟨(some 41),.call 32 true [(.tmp 38),(.tmp 39),(.tmp 40)],none,0⟩,
 ⟨(some 10),.mov (.tmp 34),none,0⟩,
 ⟨(some 11),.mov (.tmp 41),none,0⟩])
 (.region 2 [] [
 ⟨(some 42),.mov (.tmp 6),none,0⟩,
 ⟨(some 43),.mov (.tmp 10),none,0⟩,
 ⟨(some 44),.mov (.tmp 11),none,0⟩,
 ⟨(some 45),.mov (.tmp 10),none,0⟩,
 ⟨(some 46),.mov (.tmp 11),none,0⟩,
 ⟨(some 47),.bin .mul (.tmp 45) (.tmp 46),none,0⟩,
 ⟨(some 48),.build [(.int .i64 0),(.int .i64 0),(.int .i64 0)] [(0,1,(.tmp 43)),(1,1,(.tmp 44)),(2,1,(.tmp 47))],none,0⟩,
 ⟨(some 49),.bslice 3 1 [(.int .i64 0),(.int .i64 0),(.int .i64 0)] [(0,(.tmp 48))],none,0⟩,
 ⟨(some 50),.append 3 24 (.tmp 42) (.tmp 49),none,1⟩,
 ⟨(some 6),.mov (.tmp 50),none,2⟩]))))
 (.region 0 [] [
 ⟨(some 51),.bin .add (.tmp 18) (.cst (.c (.int .i64 1))),none,0⟩,
 ⟨(some 18),.mov (.tmp 51),none,0⟩])))))))
 (.seq (.region 0 [] [
 ⟨(some 52),.mov (.tmp 6),none,0⟩,
 ⟨(some 6),.mov (.tmp 52),none,0⟩])
 .ret))))⟩
end Am.Tm
