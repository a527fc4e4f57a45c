/-
  A part of the proof: the texts VtTabA of this seat, joined.
-/
import Derived.Test.YtnknceencnjnkaaGreatAmA
namespace Am.Vt
open Go Am
set_option maxRecDepth 100000
def f3 : AFunc:=⟨382,[.tmp 14],false,
 (.seq (.region 2 [] [
 ⟨(some 7),.box (.tmp 0),none,0⟩,
 ⟨(some 8),.box (.tmp 1),none,1⟩,
 ⟨(some 14),.mov (.cst (.c (.bool false))),none,2⟩])
 (.seq (.seq (.region 0 [] [
 ⟨(some 41),.load (some 3) (.tmp 7),none,0⟩,
 ⟨(some 42),.call 4 true [(.tmp 41)],none,0⟩,
 ⟨(some 43),.not (.tmp 42),none,0⟩,
 ⟨(some 44),.mov (.tmp 43),none,0⟩,
 ⟨(some 45),.load (some 3) (.tmp 7),some (44,false),0⟩,
 ⟨(some 46),.call 5 true [(.tmp 45)],some (44,false),0⟩,
 ⟨(some 47),.bin .neq (.tmp 46) (.cst (.c (.int .i64 0))),some (44,false),0⟩,
 ⟨(some 48),.pick (.tmp 44) (.cst (.c (.bool true))) (.tmp 47),none,0⟩,
 ⟨(some 49),.mov (.tmp 48),none,0⟩,
 ⟨(some 50),.faddr 1 (.tmp 7),some (49,false),0⟩,
 ⟨(some 51),.load none (.tmp 50),some (49,false),0⟩,
 ⟨(some 52),.len (.tmp 51),some (49,false),0⟩,
 ⟨(some 53),.bin .eql (.tmp 52) (.cst (.c (.int .i64 0))),some (49,false),0⟩,
 ⟨(some 54),.pick (.tmp 49) (.cst (.c (.bool true))) (.tmp 53),none,0⟩,
 ⟨(some 55),.mov (.tmp 54),none,0⟩,
 ⟨(some 56),.load (some 12) (.tmp 8),some (55,false),0⟩,
 ⟨(some 57),.call 6 true [(.tmp 56)],some (55,false),0⟩,
 ⟨(some 58),.not (.tmp 57),some (55,false),0⟩,
 ⟨(some 59),.pick (.tmp 55) (.cst (.c (.bool true))) (.tmp 58),none,0⟩,
 ⟨(some 60),.mov (.tmp 59),none,0⟩,
 ⟨(some 61),.load (some 12) (.tmp 8),some (60,false),0⟩,
 ⟨(some 62),.call 7 true [(.tmp 61)],some (60,false),0⟩,
 ⟨(some 63),.bin .neq (.tmp 62) (.cst (.c (.int .i64 0))),some (60,false),0⟩,
 ⟨(some 64),.pick (.tmp 60) (.cst (.c (.bool true))) (.tmp 63),none,0⟩])
 (.cond (.tmp 64)
 (.seq (.region 0 [] [
 ⟨(some 65),.call 8 true [],none,0⟩,
 ⟨(some 14),.mov (.tmp 65),none,0⟩])
 .ret)
 .skip))
 (.seq (.region 0 [] [
 ⟨(some 66),.load (some 3) (.tmp 7),none,0⟩,
 ⟨(some 67),.call 9 true [(.tmp 66)],none,0⟩,
 ⟨(some 15),.mov (.tmp 67),none,0⟩])
 (.seq (.region 0 [] [
 ⟨(some 69),.load (some 3) (.tmp 7),none,0⟩,
 ⟨(some 70),.call 11 true [(.tmp 69)],none,0⟩,
 ⟨(some 71),.call 10 true [(.tmp 70)],none,0⟩,
 ⟨(some 68),.mov (.tmp 71),none,0⟩,
 ⟨(some 72),.extract 0 (.tmp 68),none,0⟩,
 ⟨(some 73),.extract 1 (.tmp 68),none,0⟩,
 ⟨(some 74),.extract 2 (.tmp 68),none,0⟩,
 ⟨(some 16),.mov (.tmp 72),none,0⟩,
 ⟨(some 17),.mov (.tmp 73),none,0⟩,
 ⟨(some 18),.mov (.tmp 74),none,0⟩])
 (.seq (.seq (.region 0 [] [
 ⟨(some 75),.mov (.tmp 18),none,0⟩,
 ⟨(some 76),.bin .neq (.tmp 75) (.cst (.c (.int .i64 0))),none,0⟩])
 (.cond (.tmp 76)
 (.seq (.region 0 [] [
 ⟨(some 77),.mov (.tmp 18),none,0⟩,
 ⟨(some 78),.bin .eql (.tmp 77) (.cst (.c (.int .i64 11))),none,0⟩,
 ⟨(some 79),.mov (.tmp 78),none,0⟩,
 ⟨(some 80),.mov (.tmp 15),some (79,true),0⟩,
 ⟨(some 81),.len (.tmp 80),some (79,true),0⟩,
 ⟨(some 82),.bin .eql (.tmp 81) (.cst (.c (.int .i64 0))),some (79,true),0⟩,
 ⟨(some 83),.pick (.tmp 79) (.tmp 82) (.cst (.c (.bool false))),none,0⟩,
 ⟨(some 84),.mov (.tmp 83),none,0⟩,
 ⟨(some 85),.call 8 true [],some (84,true),0⟩,
 ⟨(some 86),.pick (.tmp 84) (.tmp 85) (.cst (.c (.bool false))),none,0⟩,
 ⟨(some 14),.mov (.tmp 86),none,0⟩])
 .ret)
 .skip))
 (.seq (.seq (.region 0 [] [
 ⟨(some 87),.mov (.tmp 15),none,0⟩,
 ⟨(some 88),.len (.tmp 87),none,0⟩,
 ⟨(some 89),.bin .eql (.tmp 88) (.cst (.c (.int .i64 0))),none,0⟩,
 ⟨(some 90),.mov (.tmp 89),none,0⟩,
 ⟨(some 91),.mov (.tmp 17),some (90,false),0⟩,
 ⟨(some 92),.len (.tmp 91),some (90,false),0⟩,
 ⟨(some 93),.faddr 1 (.tmp 7),some (90,false),0⟩,
 ⟨(some 94),.load none (.tmp 93),some (90,false),0⟩,
 ⟨(some 95),.len (.tmp 94),some (90,false),0⟩,
 ⟨(some 96),.bin .neq (.tmp 92) (.tmp 95),some (90,false),0⟩,
 ⟨(some 97),.pick (.tmp 90) (.cst (.c (.bool true))) (.tmp 96),none,0⟩])
 (.cond (.tmp 97)
 (.seq (.region 0 [] [
 ⟨(some 14),.mov (.cst (.c (.bool false))),none,0⟩])
 .ret)
 .skip))
 (.seq (.region 0 [] [
 ⟨(some 98),.mov (.tmp 4),none,0⟩,
 ⟨(some 99),.conv .i64 (.tmp 98),none,0⟩,
 ⟨(some 100),.mov (.tmp 17),none,0⟩,
 ⟨(some 101),.len (.tmp 100),none,0⟩,
 ⟨(some 102),.bin .rem (.tmp 99) (.tmp 101),none,0⟩,
 ⟨(some 19),.mov (.tmp 102),none,0⟩])
 (.seq (.seq (.region 0 [(0,1),(7,8),(7,12),(8,12),(9,12),(10,12),(11,12),(7,13),(8,13),(9,13),(10,13),(11,13),(12,13),(7,14),(8,14),(9,14),(10,14),(11,14),(7,15),(8,15),(9,15),(10,15),(11,15),(7,16),(8,16),(9,16),(10,16),(11,16),(20,21)] [
 ⟨(some 103),.mov (.tmp 17),none,0⟩,
 ⟨(some 104),.mov (.tmp 19),none,0⟩,
 ⟨(some 105),.iaddr 2 (.tmp 103) (.tmp 104),none,0⟩,
 ⟨(some 106),.faddr 0 (.tmp 105),none,0⟩,
 ⟨(some 107),.load none (.tmp 106),none,0⟩,
 ⟨(some 108),.bin .lss (.tmp 107) (.cst (.c (.int .i64 0))),none,0⟩,
 ⟨(some 109),.mov (.tmp 108),none,0⟩,
 ⟨(some 110),.mov (.tmp 17),some (109,false),0⟩,
 ⟨(some 111),.mov (.tmp 19),some (109,false),0⟩,
 ⟨(some 112),.iaddr 2 (.tmp 110) (.tmp 111),some (109,false),0⟩,
 ⟨(some 113),.faddr 0 (.tmp 112),some (109,false),0⟩,
 ⟨(some 114),.load none (.tmp 113),some (109,false),0⟩,
 ⟨(some 115),.mov (.tmp 17),some (109,false),0⟩,
 ⟨(some 116),.mov (.tmp 19),some (109,false),0⟩,
 ⟨(some 117),.iaddr 2 (.tmp 115) (.tmp 116),some (109,false),0⟩,
 ⟨(some 118),.faddr 1 (.tmp 117),some (109,false),0⟩,
 ⟨(some 119),.load none (.tmp 118),some (109,false),0⟩,
 ⟨(some 120),.bin .gtr (.tmp 114) (.tmp 119),some (109,false),0⟩,
 ⟨(some 121),.pick (.tmp 109) (.cst (.c (.bool true))) (.tmp 120),none,0⟩,
 ⟨(some 122),.mov (.tmp 121),none,0⟩,
 ⟨(some 123),.mov (.tmp 17),some (122,false),0⟩,
 ⟨(some 124),.mov (.tmp 19),some (122,false),0⟩,
 ⟨(some 125),.iaddr 2 (.tmp 123) (.tmp 124),some (122,false),0⟩,
 ⟨(some 126),.faddr 1 (.tmp 125),some (122,false),0⟩,
 ⟨(some 127),.load none (.tmp 126),some (122,false),0⟩,
 ⟨(some 128),.bin .gtr (.tmp 127) (.cst (.c (.int .i64 100))),some (122,false),0⟩,
 ⟨(some 129),.pick (.tmp 122) (.cst (.c (.bool true))) (.tmp 128),none,0⟩])
 (.cond (.tmp 129)
 (.seq (.region 0 [] [
 ⟨(some 14),.mov (.cst (.c (.bool false))),none,0⟩])
 .ret)
 .skip))
 (.seq (.region 2 [(0,2),(1,2),(0,3),(1,3),(2,3),(0,4),(1,4),(2,4),(3,4),(0,5),(1,5),(2,5),(3,5),(0,6),(1,6),(2,6),(3,6),(4,6),(5,6),(0,7),(1,7),(2,7),(3,7),(4,7),(5,7),(0,8),(1,8),(2,8),(3,8),(0,9),(1,9),(2,9),(0,10),(1,10),(2,10),(14,15),(15,16)] [
 ⟨(some 131),.load (some 3) (.tmp 7),none,0⟩,
 ⟨(some 132),.call 11 true [(.tmp 131)],none,0⟩,
 ⟨(some 133),.bslice 1 0 [(.int .i64 0)] [],none,0⟩,
 ⟨(some 134),.mov (.tmp 15),none,1⟩,
 ⟨(some 135),.mov (.tmp 2),none,1⟩,
 ⟨(some 136),.conv .i64 (.tmp 135),none,1⟩,
 ⟨(some 137),.mov (.tmp 15),none,1⟩,
 ⟨(some 138),.len (.tmp 137),none,1⟩,
 ⟨(some 139),.bin .rem (.tmp 136) (.tmp 138),none,1⟩,
 ⟨(some 140),.iaddr 1 (.tmp 134) (.tmp 139),none,1⟩,
 ⟨(some 141),.load none (.tmp 140),none,1⟩,
 ⟨(some 142),.append 1 8 (.tmp 133) (.tmp 141),none,1⟩,
 ⟨(some 143),.call 12 true [(.tmp 132),(.tmp 142)],none,2⟩,
 ⟨(some 130),.mov (.tmp 143),none,2⟩,
 ⟨(some 144),.extract 0 (.tmp 130),none,2⟩,
 ⟨(some 145),.extract 1 (.tmp 130),none,2⟩,
 ⟨(some 20),.mov (.tmp 144),none,2⟩,
 ⟨(some 21),.mov (.tmp 145),none,2⟩])
 (.seq (.seq (.region 0 [] [
 ⟨(some 146),.mov (.tmp 21),none,0⟩,
 ⟨(some 147),.bin .neq (.tmp 146) (.cst (.c (.int .i64 0))),none,0⟩,
 ⟨(some 148),.mov (.tmp 147),none,0⟩,
 ⟨(some 149),.mov (.tmp 20),some (148,false),0⟩,
 ⟨(some 150),.len (.tmp 149),some (148,false),0⟩,
 ⟨(some 151),.mov (.tmp 17),some (148,false),0⟩,
 ⟨(some 152),.len (.tmp 151),some (148,false),0⟩,
 ⟨(some 153),.bin .neq (.tmp 150) (.tmp 152),some (148,false),0⟩,
 ⟨(some 154),.pick (.tmp 148) (.cst (.c (.bool true))) (.tmp 153),none,0⟩])
 (.cond (.tmp 154)
 (.seq (.region 0 [] [
 ⟨(some 14),.mov (.cst (.c (.bool false))),none,0⟩])
 .ret)
 .skip))
 (.seq (.region 3 [(0,1),(0,2),(1,2),(0,3),(1,3),(2,3),(0,4),(1,4),(2,4),(3,4),(0,5),(1,5),(2,5),(3,5),(4,5),(1,6),(2,6),(2,7)] [
 ⟨(some 155),.load (some 12) (.tmp 8),none,0⟩,
 ⟨(some 156),.load (some 12) (.tmp 8),none,0⟩,
 ⟨(some 157),.load (some 12) (.tmp 8),none,0⟩,
 ⟨(some 22),.alloc [(.int .i64 0),(.int .i64 0),(.int .i64 0),(.int .i64 0),(.int .i64 0),(.int .i64 0),(.int .i64 0),(.int .i64 0),.nils,.nils,.nils,.nils],none,0⟩,
 ⟨(some 23),.alloc [(.int .i64 0),(.int .i64 0),(.int .i64 0),(.int .i64 0),(.int .i64 0),(.int .i64 0),(.int .i64 0),(.int .i64 0),.nils,.nils,.nils,.nils],none,1⟩,
 ⟨(some 24),.alloc [(.int .i64 0),(.int .i64 0),(.int .i64 0),(.int .i64 0),(.int .i64 0),(.int .i64 0),(.int .i64 0),(.int .i64 0),.nils,.nils,.nils,.nils],none,2⟩,
 ⟨none,.store (some 12) (.tmp 22) (.tmp 155),none,3⟩,
 ⟨none,.store (some 12) (.tmp 23) (.tmp 156),none,3⟩,
 ⟨none,.store (some 12) (.tmp 24) (.tmp 157),none,3⟩])
 (.seq (.region 0 [(0,1),(0,6),(1,6),(2,6),(3,6),(4,6),(5,6),(0,7),(1,7),(2,7),(3,7),(4,7),(5,7),(6,7),(0,8),(1,8),(2,8),(3,8),(4,8),(5,8),(0,9),(1,9),(2,9),(3,9),(4,9),(5,9),(0,10),(1,10),(2,10),(3,10),(4,10),(5,10),(0,11),(1,11),(2,11),(3,11),(4,11),(5,11),(0,13),(1,13),(2,13),(3,13),(4,13),(5,13),(6,13),(7,13),(8,13),(9,13),(10,13),(11,13),(12,13),(0,14),(1,14),(2,14),(3,14),(4,14),(5,14),(6,14),(7,14),(8,14),(9,14),(10,14),(11,14),(12,14)] [
 ⟨(some 158),.mov (.tmp 17),none,0⟩,
 ⟨(some 159),.mov (.tmp 19),none,0⟩,
 ⟨(some 160),.iaddr 2 (.tmp 158) (.tmp 159),none,0⟩,
 ⟨(some 161),.faddr 0 (.tmp 160),none,0⟩,
 ⟨(some 162),.load none (.tmp 161),none,0⟩,
 ⟨(some 163),.bin .mul (.cst (.c (.int .i64 3))) (.tmp 162),none,0⟩,
 ⟨(some 164),.mov (.tmp 17),none,0⟩,
 ⟨(some 165),.mov (.tmp 19),none,0⟩,
 ⟨(some 166),.iaddr 2 (.tmp 164) (.tmp 165),none,0⟩,
 ⟨(some 167),.faddr 1 (.tmp 166),none,0⟩,
 ⟨(some 168),.load none (.tmp 167),none,0⟩,
 ⟨(some 169),.bin .mul (.cst (.c (.int .i64 3))) (.tmp 168),none,0⟩,
 ⟨(some 170),.build [(.int .i64 0),(.int .i64 0)] [(0,1,(.tmp 163)),(1,1,(.tmp 169))],none,0⟩,
 ⟨(some 171),.faddr 11 (.tmp 22),none,0⟩,
 ⟨none,.store none (.tmp 171) (.cst (.c .nils)),none,0⟩,
 ⟨(some 172),.faddr 4 (.tmp 22),none,0⟩,
 ⟨none,.store (some 2) (.tmp 172) (.tmp 170),none,0⟩])
 (.seq (.region 0 [(0,1),(0,6),(1,6),(2,6),(3,6),(4,6),(5,6),(0,7),(1,7),(2,7),(3,7),(4,7),(5,7),(6,7),(0,8),(1,8),(2,8),(3,8),(4,8),(5,8),(0,9),(1,9),(2,9),(3,9),(4,9),(5,9),(0,10),(1,10),(2,10),(3,10),(4,10),(5,10),(0,11),(1,11),(2,11),(3,11),(4,11),(5,11),(0,13),(1,13),(2,13),(3,13),(4,13),(5,13),(6,13),(7,13),(8,13),(9,13),(10,13),(11,13),(12,13),(0,14),(1,14),(2,14),(3,14),(4,14),(5,14),(6,14),(7,14),(8,14),(9,14),(10,14),(11,14),(12,14)] [
 ⟨(some 173),.mov (.tmp 17),none,0⟩,
 ⟨(some 174),.mov (.tmp 19),none,0⟩,
 ⟨(some 175),.iaddr 2 (.tmp 173) (.tmp 174),none,0⟩,
 ⟨(some 176),.faddr 0 (.tmp 175),none,0⟩,
 ⟨(some 177),.load none (.tmp 176),none,0⟩,
 ⟨(some 178),.bin .mul (.cst (.c (.int .i64 3))) (.tmp 177),none,0⟩,
 ⟨(some 179),.mov (.tmp 17),none,0⟩,
 ⟨(some 180),.mov (.tmp 19),none,0⟩,
 ⟨(some 181),.iaddr 2 (.tmp 179) (.tmp 180),none,0⟩,
 ⟨(some 182),.faddr 0 (.tmp 181),none,0⟩,
 ⟨(some 183),.load none (.tmp 182),none,0⟩,
 ⟨(some 184),.bin .mul (.cst (.c (.int .i64 3))) (.tmp 183),none,0⟩,
 ⟨(some 185),.build [(.int .i64 0),(.int .i64 0)] [(0,1,(.tmp 178)),(1,1,(.tmp 184))],none,0⟩,
 ⟨(some 186),.faddr 11 (.tmp 23),none,0⟩,
 ⟨none,.store none (.tmp 186) (.cst (.c .nils)),none,0⟩,
 ⟨(some 187),.faddr 4 (.tmp 23),none,0⟩,
 ⟨none,.store (some 2) (.tmp 187) (.tmp 185),none,0⟩])
 (.seq (.region 0 [(0,1),(0,6),(1,6),(2,6),(3,6),(4,6),(5,6),(0,7),(1,7),(2,7),(3,7),(4,7),(5,7),(6,7),(0,8),(1,8),(2,8),(3,8),(4,8),(5,8),(0,9),(1,9),(2,9),(3,9),(4,9),(5,9),(0,10),(1,10),(2,10),(3,10),(4,10),(5,10),(0,11),(1,11),(2,11),(3,11),(4,11),(5,11),(0,13),(1,13),(2,13),(3,13),(4,13),(5,13),(6,13),(7,13),(8,13),(9,13),(10,13),(11,13),(12,13),(0,14),(1,14),(2,14),(3,14),(4,14),(5,14),(6,14),(7,14),(8,14),(9,14),(10,14),(11,14),(12,14)] [
 ⟨(some 188),.mov (.tmp 17),none,0⟩,
 ⟨(some 189),.mov (.tmp 19),none,0⟩,
 ⟨(some 190),.iaddr 2 (.tmp 188) (.tmp 189),none,0⟩,
 ⟨(some 191),.faddr 1 (.tmp 190),none,0⟩,
 ⟨(some 192),.load none (.tmp 191),none,0⟩,
 ⟨(some 193),.bin .mul (.cst (.c (.int .i64 3))) (.tmp 192),none,0⟩,
 ⟨(some 194),.mov (.tmp 17),none,0⟩,
 ⟨(some 195),.mov (.tmp 19),none,0⟩,
 ⟨(some 196),.iaddr 2 (.tmp 194) (.tmp 195),none,0⟩,
 ⟨(some 197),.faddr 1 (.tmp 196),none,0⟩,
 ⟨(some 198),.load none (.tmp 197),none,0⟩,
 ⟨(some 199),.bin .mul (.cst (.c (.int .i64 3))) (.tmp 198),none,0⟩,
 ⟨(some 200),.build [(.int .i64 0),(.int .i64 0)] [(0,1,(.tmp 193)),(1,1,(.tmp 199))],none,0⟩,
 ⟨(some 201),.faddr 11 (.tmp 24),none,0⟩,
 ⟨none,.store none (.tmp 201) (.cst (.c .nils)),none,0⟩,
 ⟨(some 202),.faddr 4 (.tmp 24),none,0⟩,
 ⟨none,.store (some 2) (.tmp 202) (.tmp 200),none,0⟩])
 (.seq (.seq (.region 0 [] [
 ⟨(some 203),.load (some 12) (.tmp 22),none,0⟩,
 ⟨(some 204),.call 6 true [(.tmp 203)],none,0⟩,
 ⟨(some 205),.not (.tmp 204),none,0⟩,
 ⟨(some 206),.mov (.tmp 205),none,0⟩,
 ⟨(some 207),.load (some 12) (.tmp 22),some (206,false),0⟩,
 ⟨(some 208),.call 7 true [(.tmp 207)],some (206,false),0⟩,
 ⟨(some 209),.bin .neq (.tmp 208) (.cst (.c (.int .i64 0))),some (206,false),0⟩,
 ⟨(some 210),.pick (.tmp 206) (.cst (.c (.bool true))) (.tmp 209),none,0⟩])
 (.cond (.tmp 210)
 (.seq (.region 0 [] [
 ⟨(some 211),.call 8 true [],none,0⟩,
 ⟨(some 14),.mov (.tmp 211),none,0⟩])
 .ret)
 .skip))
 (.seq (.region 1 [(0,1),(0,2),(0,3),(1,3),(2,3),(0,4),(1,4),(2,4),(0,5),(0,7),(1,7),(2,7),(3,7),(4,7),(5,7),(6,7)] [
 ⟨(some 212),.load (some 12) (.tmp 23),none,0⟩,
 ⟨(some 213),.mov (.tmp 3),none,0⟩,
 ⟨(some 214),.conv .i64 (.tmp 213),none,0⟩,
 ⟨(some 215),.load (some 12) (.tmp 23),none,0⟩,
 ⟨(some 216),.call 14 true [(.tmp 215)],none,0⟩,
 ⟨(some 217),.bin .rem (.tmp 214) (.tmp 216),none,0⟩,
 ⟨(some 218),.call 13 true [(.tmp 212),(.tmp 217)],none,0⟩,
 ⟨(some 25),.alloc [(.int .i64 0),(.int .i64 0),.nils],none,0⟩,
 ⟨none,.store (some 3) (.tmp 25) (.tmp 218),none,1⟩])
 (.seq (.region 0 [] [
 ⟨(some 219),.mov (.tmp 20),none,0⟩,
 ⟨(some 220),.mov (.tmp 19),none,0⟩,
 ⟨(some 221),.iaddr 1 (.tmp 219) (.tmp 220),none,0⟩,
 ⟨(some 222),.load none (.tmp 221),none,0⟩,
 ⟨(some 223),.bin .mul (.cst (.c (.int .i64 3))) (.tmp 222),none,0⟩,
 ⟨(some 224),.faddr 1 (.tmp 25),none,0⟩,
 ⟨none,.store none (.tmp 224) (.tmp 223),none,0⟩])
 (.seq (.region 0 [] [
 ⟨(some 225),.mov (.tmp 5),none,0⟩,
 ⟨(some 226),.conv .i64 (.tmp 225),none,0⟩,
 ⟨(some 227),.faddr 0 (.tmp 8),none,0⟩,
 ⟨(some 228),.load none (.tmp 227),none,0⟩,
 ⟨(some 229),.bin .add (.tmp 228) (.cst (.c (.int .i64 1))),none,0⟩,
 ⟨(some 230),.bin .rem (.tmp 226) (.tmp 229),none,0⟩,
 ⟨(some 231),.mov (.tmp 6),none,0⟩,
 ⟨(some 232),.conv .i64 (.tmp 231),none,0⟩,
 ⟨(some 233),.bin .rem (.tmp 232) (.cst (.c (.int .i64 21))),none,0⟩,
 ⟨(some 26),.mov (.tmp 230),none,0⟩,
 ⟨(some 27),.mov (.tmp 233),none,0⟩])
 (.seq (.region 0 [(0,2),(1,2),(6,7),(7,8)] [
 ⟨(some 235),.load (some 12) (.tmp 22),none,0⟩,
 ⟨(some 236),.call 16 true [(.tmp 235)],none,0⟩,
 ⟨(some 237),.load (some 3) (.tmp 25),none,0⟩,
 ⟨(some 238),.call 17 true [(.tmp 237)],none,0⟩,
 ⟨(some 239),.call 15 true [(.tmp 236),(.tmp 238)],none,0⟩,
 ⟨(some 234),.mov (.tmp 239),none,0⟩,
 ⟨(some 240),.extract 0 (.tmp 234),none,0⟩,
 ⟨(some 241),.extract 1 (.tmp 234),none,0⟩,
 ⟨(some 28),.mov (.tmp 240),none,0⟩,
 ⟨(some 29),.mov (.tmp 241),none,0⟩])
 (.seq (.region 0 [(0,2),(1,2),(0,4),(1,4),(2,4),(3,4),(0,5),(1,5),(2,5),(3,5),(4,5),(8,9),(9,10)] [
 ⟨(some 243),.load (some 12) (.tmp 22),none,0⟩,
 ⟨(some 244),.call 16 true [(.tmp 243)],none,0⟩,
 ⟨(some 245),.load (some 3) (.tmp 25),none,0⟩,
 ⟨(some 246),.call 17 true [(.tmp 245)],none,0⟩,
 ⟨(some 247),.mov (.tmp 26),none,0⟩,
 ⟨(some 248),.mov (.tmp 27),none,0⟩,
 ⟨(some 249),.call 18 true [(.tmp 244),(.tmp 246),(.tmp 247),(.tmp 248)],none,0⟩,
 ⟨(some 242),.mov (.tmp 249),none,0⟩,
 ⟨(some 250),.extract 0 (.tmp 242),none,0⟩,
 ⟨(some 251),.extract 1 (.tmp 242),none,0⟩,
 ⟨(some 30),.mov (.tmp 250),none,0⟩,
 ⟨(some 31),.mov (.tmp 251),none,0⟩])
 (.seq (.region 0 [] [
 ⟨(some 253),.load (some 12) (.tmp 22),none,0⟩,
 ⟨(some 254),.call 16 true [(.tmp 253)],none,0⟩,
 ⟨(some 255),.call 19 true [(.tmp 254)],none,0⟩,
 ⟨(some 252),.mov (.tmp 255),none,0⟩,
 ⟨(some 256),.extract 0 (.tmp 252),none,0⟩,
 ⟨(some 257),.extract 1 (.tmp 252),none,0⟩,
 ⟨(some 32),.mov (.tmp 256),none,0⟩,
 ⟨(some 33),.mov (.tmp 257),none,0⟩])
 (.seq (.region 1 [] [
 ⟨(some 259),.load (some 12) (.tmp 22),none,0⟩,
 ⟨(some 260),.call 16 true [(.tmp 259)],none,0⟩,
 ⟨(some 261),.mov (.tmp 26),none,0⟩,
 ⟨(some 262),.mov (.tmp 27),none,0⟩,
 ⟨(some 263),.call 20 true [(.tmp 260),(.tmp 261),(.tmp 262)],none,0⟩,
 ⟨(some 258),.mov (.tmp 263),none,0⟩,
 ⟨(some 264),.extract 0 (.tmp 258),none,0⟩,
 ⟨(some 265),.extract 1 (.tmp 258),none,0⟩,
 ⟨(some 34),.alloc [(.int .i64 0),(.int .i64 0)],none,0⟩,
 ⟨none,.store (some 2) (.tmp 34) (.tmp 264),none,1⟩,
 ⟨(some 35),.mov (.tmp 265),none,1⟩])
 (.seq (.region 1 [] [
 ⟨(some 267),.load (some 12) (.tmp 23),none,0⟩,
 ⟨(some 268),.call 16 true [(.tmp 267)],none,0⟩,
 ⟨(some 269),.mov (.tmp 26),none,0⟩,
 ⟨(some 270),.mov (.tmp 27),none,0⟩,
 ⟨(some 271),.call 20 true [(.tmp 268),(.tmp 269),(.tmp 270)],none,0⟩,
 ⟨(some 266),.mov (.tmp 271),none,0⟩,
 ⟨(some 272),.extract 0 (.tmp 266),none,0⟩,
 ⟨(some 273),.extract 1 (.tmp 266),none,0⟩,
 ⟨(some 36),.alloc [(.int .i64 0),(.int .i64 0)],none,0⟩,
 ⟨none,.store (some 2) (.tmp 36) (.tmp 272),none,1⟩,
 ⟨(some 37),.mov (.tmp 273),none,1⟩])
 (.seq (.region 1 [] [
 ⟨(some 275),.load (some 12) (.tmp 24),none,0⟩,
 ⟨(some 276),.call 16 true [(.tmp 275)],none,0⟩,
 ⟨(some 277),.mov (.tmp 26),none,0⟩,
 ⟨(some 278),.mov (.tmp 27),none,0⟩,
 ⟨(some 279),.call 20 true [(.tmp 276),(.tmp 277),(.tmp 278)],none,0⟩,
 ⟨(some 274),.mov (.tmp 279),none,0⟩,
 ⟨(some 280),.extract 0 (.tmp 274),none,0⟩,
 ⟨(some 281),.extract 1 (.tmp 274),none,0⟩,
 ⟨(some 38),.alloc [(.int .i64 0),(.int .i64 0)],none,0⟩,
 ⟨none,.store (some 2) (.tmp 38) (.tmp 280),none,1⟩,
 ⟨(some 39),.mov (.tmp 281),none,1⟩])
 (.seq (.seq (.region 0 [] [
 ⟨(some 282),.mov (.tmp 29),none,0⟩,
 ⟨(some 283),.bin .neq (.tmp 282) (.cst (.c (.int .i64 0))),none,0⟩,
 ⟨(some 284),.mov (.tmp 283),none,0⟩,
 ⟨(some 285),.mov (.tmp 31),some (284,false),0⟩,
 ⟨(some 286),.bin .neq (.tmp 285) (.cst (.c (.int .i64 0))),some (284,false),0⟩,
 ⟨(some 287),.pick (.tmp 284) (.cst (.c (.bool true))) (.tmp 286),none,0⟩,
 ⟨(some 288),.mov (.tmp 287),none,0⟩,
 ⟨(some 289),.mov (.tmp 33),some (288,false),0⟩,
 ⟨(some 290),.bin .neq (.tmp 289) (.cst (.c (.int .i64 0))),some (288,false),0⟩,
 ⟨(some 291),.pick (.tmp 288) (.cst (.c (.bool true))) (.tmp 290),none,0⟩,
 ⟨(some 292),.mov (.tmp 291),none,0⟩,
 ⟨(some 293),.mov (.tmp 35),some (292,false),0⟩,
 ⟨(some 294),.bin .neq (.tmp 293) (.cst (.c (.int .i64 0))),some (292,false),0⟩,
 ⟨(some 295),.pick (.tmp 292) (.cst (.c (.bool true))) (.tmp 294),none,0⟩,
 ⟨(some 296),.mov (.tmp 295),none,0⟩,
 ⟨(some 297),.mov (.tmp 37),some (296,false),0⟩,
 ⟨(some 298),.bin .neq (.tmp 297) (.cst (.c (.int .i64 0))),some (296,false),0⟩,
 ⟨(some 299),.pick (.tmp 296) (.cst (.c (.bool true))) (.tmp 298),none,0⟩,
 ⟨(some 300),.mov (.tmp 299),none,0⟩,
 ⟨(some 301),.mov (.tmp 39),some (300,false),0⟩,
 ⟨(some 302),.bin .neq (.tmp 301) (.cst (.c (.int .i64 0))),some (300,false),0⟩,
 ⟨(some 303),.pick (.tmp 300) (.cst (.c (.bool true))) (.tmp 302),none,0⟩,
 ⟨(some 304),.mov (.tmp 303),none,0⟩,
 ⟨(some 305),.mov (.tmp 28),some (304,false),0⟩,
 ⟨(some 306),.len (.tmp 305),some (304,false),0⟩,
 ⟨(some 307),.faddr 0 (.tmp 8),some (304,false),0⟩,
 ⟨(some 308),.load none (.tmp 307),some (304,false),0⟩,
 ⟨(some 309),.bin .add (.tmp 308) (.cst (.c (.int .i64 1))),some (304,false),0⟩,
 ⟨(some 310),.bin .neq (.tmp 306) (.tmp 309),some (304,false),0⟩,
 ⟨(some 311),.pick (.tmp 304) (.cst (.c (.bool true))) (.tmp 310),none,0⟩,
 ⟨(some 312),.mov (.tmp 311),none,0⟩,
 ⟨(some 313),.mov (.tmp 32),some (312,false),0⟩,
 ⟨(some 314),.len (.tmp 313),some (312,false),0⟩,
 ⟨(some 315),.mov (.tmp 28),some (312,false),0⟩,
 ⟨(some 316),.len (.tmp 315),some (312,false),0⟩,
 ⟨(some 317),.bin .neq (.tmp 314) (.tmp 316),some (312,false),0⟩,
 ⟨(some 318),.pick (.tmp 312) (.cst (.c (.bool true))) (.tmp 317),none,0⟩,
 ⟨(some 319),.mov (.tmp 318),none,0⟩,
 ⟨(some 320),.mov (.tmp 30),some (319,false),0⟩,
 ⟨(some 321),.len (.tmp 320),some (319,false),0⟩,
 ⟨(some 322),.mov (.tmp 27),some (319,false),0⟩,
 ⟨(some 323),.bin .neq (.tmp 321) (.tmp 322),some (319,false),0⟩,
 ⟨(some 324),.pick (.tmp 319) (.cst (.c (.bool true))) (.tmp 323),none,0⟩])
 (.cond (.tmp 324)
 (.seq (.region 0 [] [
 ⟨(some 14),.mov (.cst (.c (.bool false))),none,0⟩])
 .ret)
 .skip))
 (.seq (.region 0 [] [
 ⟨(some 325),.mov (.tmp 30),none,0⟩,
 ⟨(some 326),.call 21 true [(.tmp 325)],none,0⟩,
 ⟨(some 40),.mov (.tmp 326),none,0⟩])
 (.seq (.region 0 [(0,1),(0,5),(1,5),(2,5),(3,5),(4,5),(0,6),(1,6),(2,6),(3,6),(4,6),(5,6),(0,7),(1,7),(2,7),(3,7),(4,7),(0,8),(1,8),(2,8),(3,8),(4,8),(0,9),(1,9),(2,9),(3,9),(4,9),(0,10),(1,10),(2,10),(3,10),(4,10),(13,14),(13,18),(14,18),(15,18),(16,18),(17,18),(13,19),(14,19),(15,19),(16,19),(17,19),(18,19),(13,20),(14,20),(15,20),(16,20),(17,20),(13,21),(14,21),(15,21),(16,21),(17,21),(13,22),(14,22),(15,22),(16,22),(17,22),(13,23),(14,23),(15,23),(16,23),(17,23),(27,28),(27,29),(33,34),(33,35),(39,41),(40,41),(39,42),(40,42),(46,48),(47,48),(46,49),(47,49)] [
 ⟨(some 327),.mov (.tmp 28),none,0⟩,
 ⟨(some 328),.mov (.tmp 26),none,0⟩,
 ⟨(some 329),.iaddr 2 (.tmp 327) (.tmp 328),none,0⟩,
 ⟨(some 330),.faddr 1 (.tmp 329),none,0⟩,
 ⟨(some 331),.load none (.tmp 330),none,0⟩,
 ⟨(some 332),.mov (.tmp 32),none,0⟩,
 ⟨(some 333),.mov (.tmp 26),none,0⟩,
 ⟨(some 334),.iaddr 4 (.tmp 332) (.tmp 333),none,0⟩,
 ⟨(some 335),.faddr 2 (.tmp 334),none,0⟩,
 ⟨(some 336),.faddr 0 (.tmp 335),none,0⟩,
 ⟨(some 337),.load none (.tmp 336),none,0⟩,
 ⟨(some 338),.bin .geq (.tmp 331) (.tmp 337),none,0⟩,
 ⟨(some 339),.mov (.tmp 338),none,0⟩,
 ⟨(some 340),.mov (.tmp 28),some (339,true),0⟩,
 ⟨(some 341),.mov (.tmp 26),some (339,true),0⟩,
 ⟨(some 342),.iaddr 2 (.tmp 340) (.tmp 341),some (339,true),0⟩,
 ⟨(some 343),.faddr 1 (.tmp 342),some (339,true),0⟩,
 ⟨(some 344),.load none (.tmp 343),some (339,true),0⟩,
 ⟨(some 345),.mov (.tmp 32),some (339,true),0⟩,
 ⟨(some 346),.mov (.tmp 26),some (339,true),0⟩,
 ⟨(some 347),.iaddr 4 (.tmp 345) (.tmp 346),some (339,true),0⟩,
 ⟨(some 348),.faddr 2 (.tmp 347),some (339,true),0⟩,
 ⟨(some 349),.faddr 1 (.tmp 348),some (339,true),0⟩,
 ⟨(some 350),.load none (.tmp 349),some (339,true),0⟩,
 ⟨(some 351),.bin .leq (.tmp 344) (.tmp 350),some (339,true),0⟩,
 ⟨(some 352),.pick (.tmp 339) (.tmp 351) (.cst (.c (.bool false))),none,0⟩,
 ⟨(some 353),.mov (.tmp 352),none,0⟩,
 ⟨(some 354),.mov (.tmp 40),some (353,true),0⟩,
 ⟨(some 355),.faddr 0 (.tmp 34),some (353,true),0⟩,
 ⟨(some 356),.load none (.tmp 355),some (353,true),0⟩,
 ⟨(some 357),.bin .geq (.tmp 354) (.tmp 356),some (353,true),0⟩,
 ⟨(some 358),.pick (.tmp 353) (.tmp 357) (.cst (.c (.bool false))),none,0⟩,
 ⟨(some 359),.mov (.tmp 358),none,0⟩,
 ⟨(some 360),.mov (.tmp 40),some (359,true),0⟩,
 ⟨(some 361),.faddr 1 (.tmp 34),some (359,true),0⟩,
 ⟨(some 362),.load none (.tmp 361),some (359,true),0⟩,
 ⟨(some 363),.bin .leq (.tmp 360) (.tmp 362),some (359,true),0⟩,
 ⟨(some 364),.pick (.tmp 359) (.tmp 363) (.cst (.c (.bool false))),none,0⟩,
 ⟨(some 365),.mov (.tmp 364),none,0⟩,
 ⟨(some 366),.faddr 0 (.tmp 34),some (365,true),0⟩,
 ⟨(some 367),.load none (.tmp 366),some (365,true),0⟩,
 ⟨(some 368),.faddr 0 (.tmp 36),some (365,true),0⟩,
 ⟨(some 369),.load none (.tmp 368),some (365,true),0⟩,
 ⟨(some 370),.bin .eql (.tmp 367) (.tmp 369),some (365,true),0⟩,
 ⟨(some 371),.pick (.tmp 365) (.tmp 370) (.cst (.c (.bool false))),none,0⟩,
 ⟨(some 372),.mov (.tmp 371),none,0⟩,
 ⟨(some 373),.faddr 1 (.tmp 34),some (372,true),0⟩,
 ⟨(some 374),.load none (.tmp 373),some (372,true),0⟩,
 ⟨(some 375),.faddr 1 (.tmp 38),some (372,true),0⟩,
 ⟨(some 376),.load none (.tmp 375),some (372,true),0⟩,
 ⟨(some 377),.bin .eql (.tmp 374) (.tmp 376),some (372,true),0⟩,
 ⟨(some 378),.pick (.tmp 372) (.tmp 377) (.cst (.c (.bool false))),none,0⟩,
 ⟨(some 379),.mov (.tmp 378),none,0⟩,
 ⟨(some 380),.call 8 true [],some (379,true),0⟩,
 ⟨(some 381),.pick (.tmp 379) (.tmp 380) (.cst (.c (.bool false))),none,0⟩,
 ⟨(some 14),.mov (.tmp 381),none,0⟩])
 .ret)))))))))))))))))))))))))))⟩
def f4 : AFunc:=⟨42,[.tmp 2],false,
 (.seq (.region 1 [] [
 ⟨(some 1),.box (.tmp 0),none,0⟩,
 ⟨(some 2),.mov (.cst (.c (.bool false))),none,1⟩])
 (.seq (.seq (.region 0 [] [
 ⟨(some 4),.faddr 0 (.tmp 1),none,0⟩,
 ⟨(some 5),.load none (.tmp 4),none,0⟩,
 ⟨(some 6),.len (.tmp 5),none,0⟩,
 ⟨(some 7),.bin .gtr (.tmp 6) (.cst (.c (.int .i64 5))),none,0⟩,
 ⟨(some 8),.mov (.tmp 7),none,0⟩,
 ⟨(some 9),.faddr 1 (.tmp 1),some (8,false),0⟩,
 ⟨(some 10),.load none (.tmp 9),some (8,false),0⟩,
 ⟨(some 11),.len (.tmp 10),some (8,false),0⟩,
 ⟨(some 12),.bin .gtr (.tmp 11) (.cst (.c (.int .i64 5))),some (8,false),0⟩,
 ⟨(some 13),.pick (.tmp 8) (.cst (.c (.bool true))) (.tmp 12),none,0⟩,
 ⟨(some 14),.mov (.tmp 13),none,0⟩,
 ⟨(some 15),.faddr 2 (.tmp 1),some (14,false),0⟩,
 ⟨(some 16),.load none (.tmp 15),some (14,false),0⟩,
 ⟨(some 17),.len (.tmp 16),some (14,false),0⟩,
 ⟨(some 18),.bin .gtr (.tmp 17) (.cst (.c (.int .i64 7))),some (14,false),0⟩,
 ⟨(some 19),.pick (.tmp 14) (.cst (.c (.bool true))) (.tmp 18),none,0⟩])
 (.cond (.tmp 19)
 (.seq (.region 0 [] [
 ⟨(some 2),.mov (.cst (.c (.bool false))),none,0⟩])
 .ret)
 .skip))
 (.seq (.seq (.region 0 [] [
 ⟨(some 3),.mov (.cst (.c (.int .i64 0))),none,0⟩])
 (.block 0 (.loop ⟨[2,20,21,22,23,24,25,26,27,28,29,30,31,32,33],false,[]⟩
 (.seq (.seq (.region 0 [] [
 ⟨(some 20),.mov (.tmp 3),none,0⟩,
 ⟨(some 21),.faddr 1 (.tmp 1),none,0⟩,
 ⟨(some 22),.load none (.tmp 21),none,0⟩,
 ⟨(some 23),.len (.tmp 22),none,0⟩,
 ⟨(some 24),.bin .lss (.tmp 20) (.tmp 23),none,0⟩])
 (.cond (.tmp 24)
 .skip
 (.exit 0)))
 (.seq (.block 1 (.seq (.region 0 [] [
 ⟨(some 27),.faddr 1 (.tmp 1),none,0⟩,
 ⟨(some 28),.load none (.tmp 27),none,0⟩,
 ⟨(some 29),.mov (.tmp 3),none,0⟩,
 ⟨(some 30),.iaddr 1 (.tmp 28) (.tmp 29),none,0⟩,
 ⟨(some 31),.load none (.tmp 30),none,0⟩,
 ⟨(some 32),.len (.tmp 31),none,0⟩,
 ⟨(some 33),.bin .gtr (.tmp 32) (.cst (.c (.int .i64 6))),none,0⟩])
 (.cond (.tmp 33)
 (.seq (.region 0 [] [
 ⟨(some 2),.mov (.cst (.c (.bool false))),none,0⟩])
 .ret)
 .skip)))
 (.region 0 [] [
 ⟨(some 25),.mov (.tmp 3),none,0⟩,
 ⟨(some 26),.bin .add (.tmp 25) (.cst (.c (.int .i64 1))),none,0⟩,
 ⟨(some 3),.mov (.tmp 26),none,0⟩]))))))
 (.seq (.region 0 [] [
 ⟨(some 34),.load (some 3) (.tmp 1),none,0⟩,
 ⟨(some 35),.call 5 true [(.tmp 34)],none,0⟩,
 ⟨(some 36),.bin .neq (.tmp 35) (.cst (.c (.int .i64 0))),none,0⟩,
 ⟨(some 37),.mov (.tmp 36),none,0⟩,
 ⟨(some 38),.load (some 3) (.tmp 1),some (37,false),0⟩,
 ⟨(some 39),.call 22 true [(.tmp 38)],some (37,false),0⟩,
 ⟨(some 40),.bin .leq (.tmp 39) (.cst (.c (.int .i64 150))),some (37,false),0⟩,
 ⟨(some 41),.pick (.tmp 37) (.cst (.c (.bool true))) (.tmp 40),none,0⟩,
 ⟨(some 2),.mov (.tmp 41),none,0⟩])
 .ret))))⟩
def f5 : AFunc:=⟨101,[.tmp 2],false,
 (.seq (.region 1 [] [
 ⟨(some 1),.box (.tmp 0),none,0⟩,
 ⟨(some 2),.mov (.cst (.c (.int .i64 0))),none,1⟩])
 (.seq (.seq (.region 0 [] [
 ⟨(some 8),.faddr 0 (.tmp 1),none,0⟩,
 ⟨(some 9),.load none (.tmp 8),none,0⟩,
 ⟨(some 10),.len (.tmp 9),none,0⟩,
 ⟨(some 11),.bin .gtr (.tmp 10) (.cst (.c (.int .i64 3))),none,0⟩,
 ⟨(some 12),.mov (.tmp 11),none,0⟩,
 ⟨(some 13),.faddr 1 (.tmp 1),some (12,false),0⟩,
 ⟨(some 14),.load none (.tmp 13),some (12,false),0⟩,
 ⟨(some 15),.len (.tmp 14),some (12,false),0⟩,
 ⟨(some 16),.bin .gtr (.tmp 15) (.cst (.c (.int .i64 3))),some (12,false),0⟩,
 ⟨(some 17),.pick (.tmp 12) (.cst (.c (.bool true))) (.tmp 16),none,0⟩,
 ⟨(some 18),.mov (.tmp 17),none,0⟩,
 ⟨(some 19),.faddr 2 (.tmp 1),some (18,false),0⟩,
 ⟨(some 20),.load none (.tmp 19),some (18,false),0⟩,
 ⟨(some 21),.len (.tmp 20),some (18,false),0⟩,
 ⟨(some 22),.bin .gtr (.tmp 21) (.cst (.c (.int .i64 5))),some (18,false),0⟩,
 ⟨(some 23),.pick (.tmp 18) (.cst (.c (.bool true))) (.tmp 22),none,0⟩])
 (.cond (.tmp 23)
 (.seq (.region 0 [] [
 ⟨(some 2),.mov (.cst (.c (.int .i64 3))),none,0⟩])
 .ret)
 .skip))
 (.seq (.seq (.region 0 [] [
 ⟨(some 24),.faddr 0 (.tmp 1),none,0⟩,
 ⟨(some 25),.load none (.tmp 24),none,0⟩,
 ⟨(some 26),.len (.tmp 25),none,0⟩,
 ⟨(some 27),.bin .eql (.tmp 26) (.cst (.c (.int .i64 0))),none,0⟩])
 (.cond (.tmp 27)
 (.seq (.region 0 [] [
 ⟨(some 2),.mov (.cst (.c (.int .i64 1))),none,0⟩])
 .ret)
 .skip))
 (.seq (.seq (.region 0 [] [
 ⟨(some 3),.mov (.cst (.c (.int .i64 0))),none,0⟩])
 (.block 0 (.loop ⟨[2,28,29,30,31,32,33,34,35,36,37,38,39,40,41],false,[]⟩
 (.seq (.seq (.region 0 [] [
 ⟨(some 28),.mov (.tmp 3),none,0⟩,
 ⟨(some 29),.faddr 0 (.tmp 1),none,0⟩,
 ⟨(some 30),.load none (.tmp 29),none,0⟩,
 ⟨(some 31),.len (.tmp 30),none,0⟩,
 ⟨(some 32),.bin .lss (.tmp 28) (.tmp 31),none,0⟩])
 (.cond (.tmp 32)
 .skip
 (.exit 0)))
 (.seq (.block 1 (.seq (.region 0 [] [
 ⟨(some 35),.faddr 0 (.tmp 1),none,0⟩,
 ⟨(some 36),.load none (.tmp 35),none,0⟩,
 ⟨(some 37),.mov (.tmp 3),none,0⟩,
 ⟨(some 38),.iaddr 2 (.tmp 36) (.tmp 37),none,0⟩,
 ⟨(some 39),.load (some 2) (.tmp 38),none,0⟩,
 ⟨(some 40),.call 23 true [(.tmp 39),(.cst (.c (.int .i64 0))),(.cst (.c (.int .i64 100)))],none,0⟩,
 ⟨(some 41),.not (.tmp 40),none,0⟩])
 (.cond (.tmp 41)
 (.seq (.region 0 [] [
 ⟨(some 2),.mov (.cst (.c (.int .i64 1))),none,0⟩])
 .ret)
 .skip)))
 (.region 0 [] [
 ⟨(some 33),.mov (.tmp 3),none,0⟩,
 ⟨(some 34),.bin .add (.tmp 33) (.cst (.c (.int .i64 1))),none,0⟩,
 ⟨(some 3),.mov (.tmp 34),none,0⟩]))))))
 (.seq (.seq (.region 0 [] [
 ⟨(some 4),.mov (.cst (.c (.int .i64 0))),none,0⟩])
 (.block 2 (.loop ⟨[2,42,43,44,45,46,47,48,49,50,51,52,53,54,55,56,57,58,59,60,61,62,63,64,65],false,[]⟩
 (.seq (.seq (.region 0 [] [
 ⟨(some 42),.mov (.tmp 4),none,0⟩,
 ⟨(some 43),.faddr 1 (.tmp 1),none,0⟩,
 ⟨(some 44),.load none (.tmp 43),none,0⟩,
 ⟨(some 45),.len (.tmp 44),none,0⟩,
 ⟨(some 46),.bin .lss (.tmp 42) (.tmp 45),none,0⟩])
 (.cond (.tmp 46)
 .skip
 (.exit 2)))
 (.seq (.block 3 (.seq (.region 0 [(0,1),(0,2),(0,3),(1,3),(2,3),(0,4),(0,5),(9,11),(10,11)] [
 ⟨(some 49),.load (some 3) (.tmp 1),none,0⟩,
 ⟨(some 50),.faddr 1 (.tmp 1),none,0⟩,
 ⟨(some 51),.load none (.tmp 50),none,0⟩,
 ⟨(some 52),.mov (.tmp 4),none,0⟩,
 ⟨(some 53),.iaddr 1 (.tmp 51) (.tmp 52),none,0⟩,
 ⟨(some 54),.load none (.tmp 53),none,0⟩,
 ⟨(some 55),.call 24 true [(.tmp 49),(.tmp 54)],none,0⟩,
 ⟨(some 56),.not (.tmp 55),none,0⟩,
 ⟨(some 57),.mov (.tmp 56),none,0⟩,
 ⟨(some 58),.faddr 1 (.tmp 1),some (57,false),0⟩,
 ⟨(some 59),.load none (.tmp 58),some (57,false),0⟩,
 ⟨(some 60),.mov (.tmp 4),some (57,false),0⟩,
 ⟨(some 61),.iaddr 1 (.tmp 59) (.tmp 60),some (57,false),0⟩,
 ⟨(some 62),.load none (.tmp 61),some (57,false),0⟩,
 ⟨(some 63),.call 25 true [(.tmp 62)],some (57,false),0⟩,
 ⟨(some 64),.bin .eql (.tmp 63) (.cst (.c (.int .i64 0))),some (57,false),0⟩,
 ⟨(some 65),.pick (.tmp 57) (.cst (.c (.bool true))) (.tmp 64),none,0⟩])
 (.cond (.tmp 65)
 (.seq (.region 0 [] [
 ⟨(some 2),.mov (.cst (.c (.int .i64 1))),none,0⟩])
 .ret)
 .skip)))
 (.region 0 [] [
 ⟨(some 47),.mov (.tmp 4),none,0⟩,
 ⟨(some 48),.bin .add (.tmp 47) (.cst (.c (.int .i64 1))),none,0⟩,
 ⟨(some 4),.mov (.tmp 48),none,0⟩]))))))
 (.seq (.seq (.region 0 [] [
 ⟨(some 5),.mov (.cst (.c (.int .i64 0))),none,0⟩])
 (.block 4 (.loop ⟨[2,6,7,66,67,68,69,70,71,72,73,74,75,76,77,78,79,80,81,82,83,84,85,86,87,88,89,90,91,92,93,94,95,96,97],true,[]⟩
 (.seq (.seq (.region 0 [] [
 ⟨(some 66),.mov (.tmp 5),none,0⟩,
 ⟨(some 67),.faddr 2 (.tmp 1),none,0⟩,
 ⟨(some 68),.load none (.tmp 67),none,0⟩,
 ⟨(some 69),.len (.tmp 68),none,0⟩,
 ⟨(some 70),.bin .lss (.tmp 66) (.tmp 69),none,0⟩])
 (.cond (.tmp 70)
 .skip
 (.exit 4)))
 (.seq (.block 5 (.seq (.region 1 [] [
 ⟨(some 73),.faddr 2 (.tmp 1),none,0⟩,
 ⟨(some 74),.load none (.tmp 73),none,0⟩,
 ⟨(some 75),.mov (.tmp 5),none,0⟩,
 ⟨(some 76),.iaddr 4 (.tmp 74) (.tmp 75),none,0⟩,
 ⟨(some 77),.load (some 4) (.tmp 76),none,0⟩,
 ⟨(some 6),.alloc [(.bool false),(.int .i64 0),(.int .i64 0),(.int .i64 0)],none,0⟩,
 ⟨none,.store (some 4) (.tmp 6) (.tmp 77),none,1⟩])
 (.seq (.region 0 [] [
 ⟨(some 78),.faddr 0 (.tmp 1),none,0⟩,
 ⟨(some 79),.load none (.tmp 78),none,0⟩,
 ⟨(some 80),.len (.tmp 79),none,0⟩,
 ⟨(some 7),.mov (.tmp 80),none,0⟩])
 (.seq (.seq (.region 0 [] [
 ⟨(some 81),.faddr 0 (.tmp 6),none,0⟩,
 ⟨(some 82),.load none (.tmp 81),none,0⟩])
 (.cond (.tmp 82)
 (.region 0 [] [
 ⟨(some 83),.faddr 1 (.tmp 1),none,0⟩,
 ⟨(some 84),.load none (.tmp 83),none,0⟩,
 ⟨(some 85),.len (.tmp 84),none,0⟩,
 ⟨(some 7),.mov (.tmp 85),none,0⟩])
 .skip))
 (.seq (.region 0 [] [
 ⟨(some 86),.faddr 1 (.tmp 6),none,0⟩,
 ⟨(some 87),.load none (.tmp 86),none,0⟩,
 ⟨(some 88),.mov (.tmp 7),none,0⟩,
 ⟨(some 89),.bin .sub (.tmp 88) (.cst (.c (.int .i64 1))),none,0⟩,
 ⟨(some 90),.call 26 true [(.tmp 87),(.cst (.c (.int .i64 0))),(.tmp 89)],none,0⟩,
 ⟨(some 91),.not (.tmp 90),none,0⟩,
 ⟨(some 92),.mov (.tmp 91),none,0⟩,
 ⟨(some 93),.faddr 2 (.tmp 6),some (92,false),0⟩,
 ⟨(some 94),.load (some 2) (.tmp 93),some (92,false),0⟩,
 ⟨(some 95),.call 23 true [(.tmp 94),(.cst (.c (.int .i64 0))),(.cst (.c (.int .i64 100)))],some (92,false),0⟩,
 ⟨(some 96),.not (.tmp 95),some (92,false),0⟩,
 ⟨(some 97),.pick (.tmp 92) (.cst (.c (.bool true))) (.tmp 96),none,0⟩])
 (.cond (.tmp 97)
 (.seq (.region 0 [] [
 ⟨(some 2),.mov (.cst (.c (.int .i64 1))),none,0⟩])
 .ret)
 .skip))))))
 (.region 0 [] [
 ⟨(some 71),.mov (.tmp 5),none,0⟩,
 ⟨(some 72),.bin .add (.tmp 71) (.cst (.c (.int .i64 1))),none,0⟩,
 ⟨(some 5),.mov (.tmp 72),none,0⟩]))))))
 (.seq (.seq (.region 0 [] [
 ⟨(some 98),.load (some 3) (.tmp 1),none,0⟩,
 ⟨(some 99),.call 22 true [(.tmp 98)],none,0⟩,
 ⟨(some 100),.bin .gtr (.tmp 99) (.cst (.c (.int .i64 2000))),none,0⟩])
 (.cond (.tmp 100)
 (.seq (.region 0 [] [
 ⟨(some 2),.mov (.cst (.c (.int .i64 3))),none,0⟩])
 .ret)
 .skip))
 (.seq (.region 0 [] [
 ⟨(some 2),.mov (.cst (.c (.int .i64 0))),none,0⟩])
 .ret))))))))⟩
def f6 : AFunc:=⟨35,[.tmp 2],false,
 (.seq (.region 1 [] [
 ⟨(some 1),.box (.tmp 0),none,0⟩,
 ⟨(some 2),.mov (.cst (.c (.bool false))),none,1⟩])
 (.seq (.region 0 [] [
 ⟨(some 3),.faddr 8 (.tmp 1),none,0⟩,
 ⟨(some 4),.load none (.tmp 3),none,0⟩,
 ⟨(some 5),.len (.tmp 4),none,0⟩,
 ⟨(some 6),.bin .leq (.tmp 5) (.cst (.c (.int .i64 10))),none,0⟩,
 ⟨(some 7),.mov (.tmp 6),none,0⟩,
 ⟨(some 8),.faddr 9 (.tmp 1),some (7,true),0⟩,
 ⟨(some 9),.load none (.tmp 8),some (7,true),0⟩,
 ⟨(some 10),.len (.tmp 9),some (7,true),0⟩,
 ⟨(some 11),.bin .leq (.tmp 10) (.cst (.c (.int .i64 10))),some (7,true),0⟩,
 ⟨(some 12),.pick (.tmp 7) (.tmp 11) (.cst (.c (.bool false))),none,0⟩,
 ⟨(some 13),.mov (.tmp 12),none,0⟩,
 ⟨(some 14),.faddr 10 (.tmp 1),some (13,true),0⟩,
 ⟨(some 15),.load none (.tmp 14),some (13,true),0⟩,
 ⟨(some 16),.len (.tmp 15),some (13,true),0⟩,
 ⟨(some 17),.bin .leq (.tmp 16) (.cst (.c (.int .i64 10))),some (13,true),0⟩,
 ⟨(some 18),.pick (.tmp 13) (.tmp 17) (.cst (.c (.bool false))),none,0⟩,
 ⟨(some 19),.mov (.tmp 18),none,0⟩,
 ⟨(some 20),.faddr 11 (.tmp 1),some (19,true),0⟩,
 ⟨(some 21),.load none (.tmp 20),some (19,true),0⟩,
 ⟨(some 22),.len (.tmp 21),some (19,true),0⟩,
 ⟨(some 23),.bin .leq (.tmp 22) (.cst (.c (.int .i64 7))),some (19,true),0⟩,
 ⟨(some 24),.pick (.tmp 19) (.tmp 23) (.cst (.c (.bool false))),none,0⟩,
 ⟨(some 25),.mov (.tmp 24),none,0⟩,
 ⟨(some 26),.load (some 12) (.tmp 1),some (25,true),0⟩,
 ⟨(some 27),.call 7 true [(.tmp 26)],some (25,true),0⟩,
 ⟨(some 28),.bin .neq (.tmp 27) (.cst (.c (.int .i64 0))),some (25,true),0⟩,
 ⟨(some 29),.mov (.tmp 28),some (25,true),0⟩,
 ⟨(some 30),.load (some 12) (.tmp 1),some (29,false),0⟩,
 ⟨(some 31),.call 14 true [(.tmp 30)],some (29,false),0⟩,
 ⟨(some 32),.bin .leq (.tmp 31) (.cst (.c (.int .i64 150))),some (29,false),0⟩,
 ⟨(some 33),.pick (.tmp 29) (.cst (.c (.bool true))) (.tmp 32),some (25,true),0⟩,
 ⟨(some 34),.pick (.tmp 25) (.tmp 33) (.cst (.c (.bool false))),none,0⟩,
 ⟨(some 2),.mov (.tmp 34),none,0⟩])
 .ret))⟩
def f7 : AFunc:=⟨147,[.tmp 2],false,
 (.seq (.region 1 [] [
 ⟨(some 1),.box (.tmp 0),none,0⟩,
 ⟨(some 2),.mov (.cst (.c (.int .i64 0))),none,1⟩])
 (.seq (.seq (.region 0 [] [
 ⟨(some 7),.faddr 0 (.tmp 1),none,0⟩,
 ⟨(some 8),.load none (.tmp 7),none,0⟩,
 ⟨(some 9),.bin .gtr (.tmp 8) (.cst (.c (.int .i64 7))),none,0⟩,
 ⟨(some 10),.mov (.tmp 9),none,0⟩,
 ⟨(some 11),.faddr 11 (.tmp 1),some (10,false),0⟩,
 ⟨(some 12),.load none (.tmp 11),some (10,false),0⟩,
 ⟨(some 13),.len (.tmp 12),some (10,false),0⟩,
 ⟨(some 14),.bin .gtr (.tmp 13) (.cst (.c (.int .i64 5))),some (10,false),0⟩,
 ⟨(some 15),.pick (.tmp 10) (.cst (.c (.bool true))) (.tmp 14),none,0⟩])
 (.cond (.tmp 15)
 (.seq (.region 0 [] [
 ⟨(some 2),.mov (.cst (.c (.int .i64 3))),none,0⟩])
 .ret)
 .skip))
 (.seq (.region 0 [] [
 ⟨(some 16),.faddr 0 (.tmp 1),none,0⟩,
 ⟨(some 17),.load none (.tmp 16),none,0⟩,
 ⟨(some 18),.bin .add (.tmp 17) (.cst (.c (.int .i64 1))),none,0⟩,
 ⟨(some 3),.mov (.tmp 18),none,0⟩])
 (.seq (.seq (.region 0 [] [
 ⟨(some 19),.faddr 0 (.tmp 1),none,0⟩,
 ⟨(some 20),.load none (.tmp 19),none,0⟩,
 ⟨(some 21),.bin .lss (.tmp 20) (.cst (.c (.int .i64 0))),none,0⟩,
 ⟨(some 22),.mov (.tmp 21),none,0⟩,
 ⟨(some 23),.faddr 1 (.tmp 1),some (22,false),0⟩,
 ⟨(some 24),.load none (.tmp 23),some (22,false),0⟩,
 ⟨(some 25),.call 27 true [(.tmp 24),(.cst (.c (.int .i64 0))),(.cst (.c (.int .i64 20)))],some (22,false),0⟩,
 ⟨(some 26),.not (.tmp 25),some (22,false),0⟩,
 ⟨(some 27),.pick (.tmp 22) (.cst (.c (.bool true))) (.tmp 26),none,0⟩,
 ⟨(some 28),.mov (.tmp 27),none,0⟩,
 ⟨(some 29),.faddr 2 (.tmp 1),some (28,false),0⟩,
 ⟨(some 30),.load (some 2) (.tmp 29),some (28,false),0⟩,
 ⟨(some 31),.call 28 true [(.tmp 30),(.cst (.c (.int .i64 (-50)))),(.cst (.c (.int .i64 50)))],some (28,false),0⟩,
 ⟨(some 32),.not (.tmp 31),some (28,false),0⟩,
 ⟨(some 33),.pick (.tmp 28) (.cst (.c (.bool true))) (.tmp 32),none,0⟩,
 ⟨(some 34),.mov (.tmp 33),none,0⟩,
 ⟨(some 35),.faddr 4 (.tmp 1),some (34,false),0⟩,
 ⟨(some 36),.load (some 2) (.tmp 35),some (34,false),0⟩,
 ⟨(some 37),.call 28 true [(.tmp 36),(.cst (.c (.int .i64 0))),(.cst (.c (.int .i64 999)))],some (34,false),0⟩,
 ⟨(some 38),.not (.tmp 37),some (34,false),0⟩,
 ⟨(some 39),.pick (.tmp 34) (.cst (.c (.bool true))) (.tmp 38),none,0⟩,
 ⟨(some 40),.mov (.tmp 39),none,0⟩,
 ⟨(some 41),.faddr 6 (.tmp 1),some (40,false),0⟩,
 ⟨(some 42),.load none (.tmp 41),some (40,false),0⟩,
 ⟨(some 43),.call 27 true [(.tmp 42),(.cst (.c (.int .i64 0))),(.cst (.c (.int .i64 50)))],some (40,false),0⟩,
 ⟨(some 44),.not (.tmp 43),some (40,false),0⟩,
 ⟨(some 45),.pick (.tmp 40) (.cst (.c (.bool true))) (.tmp 44),none,0⟩,
 ⟨(some 46),.mov (.tmp 45),none,0⟩,
 ⟨(some 47),.faddr 7 (.tmp 1),some (46,false),0⟩,
 ⟨(some 48),.load none (.tmp 47),some (46,false),0⟩,
 ⟨(some 49),.call 27 true [(.tmp 48),(.cst (.c (.int .i64 0))),(.cst (.c (.int .i64 50)))],some (46,false),0⟩,
 ⟨(some 50),.not (.tmp 49),some (46,false),0⟩,
 ⟨(some 51),.pick (.tmp 46) (.cst (.c (.bool true))) (.tmp 50),none,0⟩,
 ⟨(some 52),.mov (.tmp 51),none,0⟩,
 ⟨(some 53),.faddr 8 (.tmp 1),some (52,false),0⟩,
 ⟨(some 54),.load none (.tmp 53),some (52,false),0⟩,
 ⟨(some 55),.len (.tmp 54),some (52,false),0⟩,
 ⟨(some 56),.mov (.tmp 3),some (52,false),0⟩,
 ⟨(some 57),.bin .neq (.tmp 55) (.tmp 56),some (52,false),0⟩,
 ⟨(some 58),.pick (.tmp 52) (.cst (.c (.bool true))) (.tmp 57),none,0⟩,
 ⟨(some 59),.mov (.tmp 58),none,0⟩,
 ⟨(some 60),.faddr 9 (.tmp 1),some (59,false),0⟩,
 ⟨(some 61),.load none (.tmp 60),some (59,false),0⟩,
 ⟨(some 62),.len (.tmp 61),some (59,false),0⟩,
 ⟨(some 63),.mov (.tmp 3),some (59,false),0⟩,
 ⟨(some 64),.bin .neq (.tmp 62) (.tmp 63),some (59,false),0⟩,
 ⟨(some 65),.pick (.tmp 59) (.cst (.c (.bool true))) (.tmp 64),none,0⟩,
 ⟨(some 66),.mov (.tmp 65),none,0⟩,
 ⟨(some 67),.faddr 10 (.tmp 1),some (66,false),0⟩,
 ⟨(some 68),.load none (.tmp 67),some (66,false),0⟩,
 ⟨(some 69),.len (.tmp 68),some (66,false),0⟩,
 ⟨(some 70),.mov (.tmp 3),some (66,false),0⟩,
 ⟨(some 71),.bin .neq (.tmp 69) (.tmp 70),some (66,false),0⟩,
 ⟨(some 72),.pick (.tmp 66) (.cst (.c (.bool true))) (.tmp 71),none,0⟩])
 (.cond (.tmp 72)
 (.seq (.region 0 [] [
 ⟨(some 2),.mov (.cst (.c (.int .i64 1))),none,0⟩])
 .ret)
 .skip))
 (.seq (.seq (.region 0 [] [
 ⟨(some 4),.mov (.cst (.c (.int .i64 0))),none,0⟩])
 (.block 0 (.loop ⟨[2,5,73,74,75,76,77,78,79,80,81,82,83,84,85,86,87,88,89,90,91,92,93,94,95,96,97,98,99,100,101,102,103,104,105,106,107,108,109,110,111,112,113,114,115,116],true,[]⟩
 (.seq (.seq (.region 0 [] [
 ⟨(some 73),.mov (.tmp 4),none,0⟩,
 ⟨(some 74),.mov (.tmp 3),none,0⟩,
 ⟨(some 75),.bin .lss (.tmp 73) (.tmp 74),none,0⟩])
 (.cond (.tmp 75)
 .skip
 (.exit 0)))
 (.seq (.block 1 (.seq (.region 1 [] [
 ⟨(some 78),.faddr 9 (.tmp 1),none,0⟩,
 ⟨(some 79),.load none (.tmp 78),none,0⟩,
 ⟨(some 80),.mov (.tmp 4),none,0⟩,
 ⟨(some 81),.iaddr 3 (.tmp 79) (.tmp 80),none,0⟩,
 ⟨(some 82),.load (some 3) (.tmp 81),none,0⟩,
 ⟨(some 5),.alloc [(.int .i64 0),(.int .i64 0),(.int .i64 0)],none,0⟩,
 ⟨none,.store (some 3) (.tmp 5) (.tmp 82),none,1⟩])
 (.seq (.region 0 [] [
 ⟨(some 83),.faddr 8 (.tmp 1),none,0⟩,
 ⟨(some 84),.load none (.tmp 83),none,0⟩,
 ⟨(some 85),.mov (.tmp 4),none,0⟩,
 ⟨(some 86),.iaddr 2 (.tmp 84) (.tmp 85),none,0⟩,
 ⟨(some 87),.load (some 2) (.tmp 86),none,0⟩,
 ⟨(some 88),.call 28 true [(.tmp 87),(.cst (.c (.int .i64 (-9)))),(.cst (.c (.int .i64 9)))],none,0⟩,
 ⟨(some 89),.not (.tmp 88),none,0⟩,
 ⟨(some 90),.mov (.tmp 89),none,0⟩,
 ⟨(some 91),.faddr 0 (.tmp 5),some (90,false),0⟩,
 ⟨(some 92),.load none (.tmp 91),some (90,false),0⟩,
 ⟨(some 93),.call 27 true [(.tmp 92),(.cst (.c (.int .i64 0))),(.cst (.c (.int .i64 9)))],some (90,false),0⟩,
 ⟨(some 94),.not (.tmp 93),some (90,false),0⟩,
 ⟨(some 95),.pick (.tmp 90) (.cst (.c (.bool true))) (.tmp 94),none,0⟩,
 ⟨(some 96),.mov (.tmp 95),none,0⟩,
 ⟨(some 97),.faddr 1 (.tmp 5),some (96,false),0⟩,
 ⟨(some 98),.load none (.tmp 97),some (96,false),0⟩,
 ⟨(some 99),.call 27 true [(.tmp 98),(.cst (.c (.int .i64 0))),(.cst (.c (.int .i64 9)))],some (96,false),0⟩,
 ⟨(some 100),.not (.tmp 99),some (96,false),0⟩,
 ⟨(some 101),.pick (.tmp 96) (.cst (.c (.bool true))) (.tmp 100),none,0⟩,
 ⟨(some 102),.mov (.tmp 101),none,0⟩,
 ⟨(some 103),.faddr 2 (.tmp 5),some (102,false),0⟩,
 ⟨(some 104),.load none (.tmp 103),some (102,false),0⟩,
 ⟨(some 105),.call 27 true [(.tmp 104),(.cst (.c (.int .i64 0))),(.cst (.c (.int .i64 9)))],some (102,false),0⟩,
 ⟨(some 106),.not (.tmp 105),some (102,false),0⟩,
 ⟨(some 107),.pick (.tmp 102) (.cst (.c (.bool true))) (.tmp 106),none,0⟩,
 ⟨(some 108),.mov (.tmp 107),none,0⟩,
 ⟨(some 109),.faddr 10 (.tmp 1),some (108,false),0⟩,
 ⟨(some 110),.load none (.tmp 109),some (108,false),0⟩,
 ⟨(some 111),.mov (.tmp 4),some (108,false),0⟩,
 ⟨(some 112),.iaddr 1 (.tmp 110) (.tmp 111),some (108,false),0⟩,
 ⟨(some 113),.load none (.tmp 112),some (108,false),0⟩,
 ⟨(some 114),.call 27 true [(.tmp 113),(.cst (.c (.int .i64 0))),(.cst (.c (.int .i64 20)))],some (108,false),0⟩,
 ⟨(some 115),.not (.tmp 114),some (108,false),0⟩,
 ⟨(some 116),.pick (.tmp 108) (.cst (.c (.bool true))) (.tmp 115),none,0⟩])
 (.cond (.tmp 116)
 (.seq (.region 0 [] [
 ⟨(some 2),.mov (.cst (.c (.int .i64 1))),none,0⟩])
 .ret)
 .skip))))
 (.region 0 [] [
 ⟨(some 76),.mov (.tmp 4),none,0⟩,
 ⟨(some 77),.bin .add (.tmp 76) (.cst (.c (.int .i64 1))),none,0⟩,
 ⟨(some 4),.mov (.tmp 77),none,0⟩]))))))
 (.seq (.seq (.region 0 [] [
 ⟨(some 6),.mov (.cst (.c (.int .i64 0))),none,0⟩])
 (.block 2 (.loop ⟨[2,117,118,119,120,121,122,123,124,125,126,127,128,129,130,131,132,133,134,135,136,137,138,139,140,141,142,143],false,[]⟩
 (.seq (.seq (.region 0 [] [
 ⟨(some 117),.mov (.tmp 6),none,0⟩,
 ⟨(some 118),.faddr 11 (.tmp 1),none,0⟩,
 ⟨(some 119),.load none (.tmp 118),none,0⟩,
 ⟨(some 120),.len (.tmp 119),none,0⟩,
 ⟨(some 121),.bin .lss (.tmp 117) (.tmp 120),none,0⟩])
 (.cond (.tmp 121)
 .skip
 (.exit 2)))
 (.seq (.block 3 (.seq (.region 0 [(0,2),(1,2),(0,6),(1,6),(2,6),(3,6),(4,6),(5,6),(0,7),(1,7),(2,7),(3,7),(4,7),(5,7),(11,13),(12,13)] [
 ⟨(some 124),.faddr 11 (.tmp 1),none,0⟩,
 ⟨(some 125),.load none (.tmp 124),none,0⟩,
 ⟨(some 126),.mov (.tmp 6),none,0⟩,
 ⟨(some 127),.iaddr 4 (.tmp 125) (.tmp 126),none,0⟩,
 ⟨(some 128),.faddr 0 (.tmp 127),none,0⟩,
 ⟨(some 129),.load none (.tmp 128),none,0⟩,
 ⟨(some 130),.faddr 0 (.tmp 1),none,0⟩,
 ⟨(some 131),.load none (.tmp 130),none,0⟩,
 ⟨(some 132),.call 27 true [(.tmp 129),(.cst (.c (.int .i64 0))),(.tmp 131)],none,0⟩,
 ⟨(some 133),.not (.tmp 132),none,0⟩,
 ⟨(some 134),.mov (.tmp 133),none,0⟩,
 ⟨(some 135),.faddr 11 (.tmp 1),some (134,false),0⟩,
 ⟨(some 136),.load none (.tmp 135),some (134,false),0⟩,
 ⟨(some 137),.mov (.tmp 6),some (134,false),0⟩,
 ⟨(some 138),.iaddr 4 (.tmp 136) (.tmp 137),some (134,false),0⟩,
 ⟨(some 139),.faddr 2 (.tmp 138),some (134,false),0⟩,
 ⟨(some 140),.load (some 2) (.tmp 139),some (134,false),0⟩,
 ⟨(some 141),.call 28 true [(.tmp 140),(.cst (.c (.int .i64 (-5000)))),(.cst (.c (.int .i64 5000)))],some (134,false),0⟩,
 ⟨(some 142),.not (.tmp 141),some (134,false),0⟩,
 ⟨(some 143),.pick (.tmp 134) (.cst (.c (.bool true))) (.tmp 142),none,0⟩])
 (.cond (.tmp 143)
 (.seq (.region 0 [] [
 ⟨(some 2),.mov (.cst (.c (.int .i64 1))),none,0⟩])
 .ret)
 .skip)))
 (.region 0 [] [
 ⟨(some 122),.mov (.tmp 6),none,0⟩,
 ⟨(some 123),.bin .add (.tmp 122) (.cst (.c (.int .i64 1))),none,0⟩,
 ⟨(some 6),.mov (.tmp 123),none,0⟩]))))))
 (.seq (.seq (.region 0 [] [
 ⟨(some 144),.load (some 12) (.tmp 1),none,0⟩,
 ⟨(some 145),.call 14 true [(.tmp 144)],none,0⟩,
 ⟨(some 146),.bin .gtr (.tmp 145) (.cst (.c (.int .i64 2000))),none,0⟩])
 (.cond (.tmp 146)
 (.seq (.region 0 [] [
 ⟨(some 2),.mov (.cst (.c (.int .i64 3))),none,0⟩])
 .ret)
 .skip))
 (.seq (.region 0 [] [
 ⟨(some 2),.mov (.cst (.c (.int .i64 0))),none,0⟩])
 .ret))))))))⟩
def f8 : AFunc:=⟨51,[.tmp 0],false,
 (.seq (.region 0 [] [
 ⟨(some 0),.mov (.cst (.c (.bool false))),none,0⟩])
 (.seq (.region 4 [] [
 ⟨(some 7),.build [(.int .i64 0),(.int .i64 0)] [(0,1,(.cst (.c (.int .i64 40)))),(1,1,(.cst (.c (.int .i64 40))))],none,0⟩,
 ⟨(some 8),.build [(.int .i64 0),(.int .i64 0)] [(0,1,(.cst (.c (.int .i64 60)))),(1,1,(.cst (.c (.int .i64 60))))],none,0⟩,
 ⟨(some 9),.bslice 2 2 [(.int .i64 0),(.int .i64 0)] [(0,(.tmp 7)),(1,(.tmp 8))],none,0⟩,
 ⟨(some 10),.bslice 1 2 [(.int .i64 0)] [(0,(.cst (.c (.int .i64 10)))),(1,(.cst (.c (.int .i64 10))))],none,1⟩,
 ⟨(some 11),.bslice 1 1 [.nils] [(0,(.tmp 10))],none,2⟩,
 ⟨(some 12),.build [.nils,.nils,.nils] [(0,1,(.tmp 9)),(1,1,(.tmp 11))],none,3⟩,
 ⟨(some 13),.bslice 1 2 [(.int .i64 0)] [(0,(.cst (.c (.int .i64 40)))),(1,(.cst (.c (.int .i64 60))))],none,3⟩,
 ⟨(some 14),.call 12 true [(.tmp 12),(.tmp 13)],none,4⟩,
 ⟨(some 6),.mov (.tmp 14),none,4⟩,
 ⟨(some 15),.extract 0 (.tmp 6),none,4⟩,
 ⟨(some 16),.extract 1 (.tmp 6),none,4⟩,
 ⟨(some 1),.mov (.tmp 15),none,4⟩,
 ⟨(some 2),.mov (.tmp 16),none,4⟩])
 (.seq (.region 4 [] [
 ⟨(some 17),.build [(.int .i64 0),(.int .i64 0)] [(0,1,(.cst (.c (.int .i64 150)))),(1,1,(.cst (.c (.int .i64 150))))],none,0⟩,
 ⟨(some 18),.build [(.int .i64 0),(.int .i64 0)] [],none,0⟩,
 ⟨(some 19),.bslice 2 1 [(.int .i64 0),(.int .i64 0)] [(0,(.tmp 18))],none,0⟩,
 ⟨(some 20),.build [(.int .i64 0),(.int .i64 0),(.int .i64 0)] [],none,1⟩,
 ⟨(some 21),.bslice 3 1 [(.int .i64 0),(.int .i64 0),(.int .i64 0)] [(0,(.tmp 20))],none,1⟩,
 ⟨(some 22),.bslice 1 1 [(.int .i64 0)] [(0,(.cst (.c (.int .i64 0))))],none,2⟩,
 ⟨(some 23),.build [(.int .i64 0),(.int .i64 0),(.int .i64 0),(.int .i64 0),(.int .i64 0),(.int .i64 0),(.int .i64 0),(.int .i64 0),.nils,.nils,.nils,.nils] [(1,1,(.cst (.c (.int .i64 5)))),(4,2,(.tmp 17)),(8,1,(.tmp 19)),(9,1,(.tmp 21)),(10,1,(.tmp 22))],none,3⟩,
 ⟨(some 3),.alloc [(.int .i64 0),(.int .i64 0),(.int .i64 0),(.int .i64 0),(.int .i64 0),(.int .i64 0),(.int .i64 0),(.int .i64 0),.nils,.nils,.nils,.nils],none,3⟩,
 ⟨none,.store (some 12) (.tmp 3) (.tmp 23),none,4⟩])
 (.seq (.region 1 [] [
 ⟨(some 25),.load (some 12) (.tmp 3),none,0⟩,
 ⟨(some 26),.call 20 true [(.tmp 25),(.cst (.c (.int .i64 0))),(.cst (.c (.int .i64 1)))],none,0⟩,
 ⟨(some 24),.mov (.tmp 26),none,0⟩,
 ⟨(some 27),.extract 0 (.tmp 24),none,0⟩,
 ⟨(some 28),.extract 1 (.tmp 24),none,0⟩,
 ⟨(some 4),.alloc [(.int .i64 0),(.int .i64 0)],none,0⟩,
 ⟨none,.store (some 2) (.tmp 4) (.tmp 27),none,1⟩,
 ⟨(some 5),.mov (.tmp 28),none,1⟩])
 (.seq (.region 0 [] [
 ⟨(some 29),.mov (.tmp 2),none,0⟩,
 ⟨(some 30),.bin .eql (.tmp 29) (.cst (.c (.int .i64 0))),none,0⟩,
 ⟨(some 31),.mov (.tmp 30),none,0⟩,
 ⟨(some 32),.mov (.tmp 1),some (31,true),0⟩,
 ⟨(some 33),.len (.tmp 32),some (31,true),0⟩,
 ⟨(some 34),.bin .eql (.tmp 33) (.cst (.c (.int .i64 1))),some (31,true),0⟩,
 ⟨(some 35),.pick (.tmp 31) (.tmp 34) (.cst (.c (.bool false))),none,0⟩,
 ⟨(some 36),.mov (.tmp 35),none,0⟩,
 ⟨(some 37),.mov (.tmp 1),some (36,true),0⟩,
 ⟨(some 38),.iaddr 1 (.tmp 37) (.cst (.c (.int .i64 0))),some (36,true),0⟩,
 ⟨(some 39),.load none (.tmp 38),some (36,true),0⟩,
 ⟨(some 40),.bin .eql (.tmp 39) (.cst (.c (.int .i64 50))),some (36,true),0⟩,
 ⟨(some 41),.pick (.tmp 36) (.tmp 40) (.cst (.c (.bool false))),none,0⟩,
 ⟨(some 42),.mov (.tmp 41),none,0⟩,
 ⟨(some 43),.mov (.tmp 5),some (42,true),0⟩,
 ⟨(some 44),.bin .eql (.tmp 43) (.cst (.c (.int .i64 0))),some (42,true),0⟩,
 ⟨(some 45),.pick (.tmp 42) (.tmp 44) (.cst (.c (.bool false))),none,0⟩,
 ⟨(some 46),.mov (.tmp 45),none,0⟩,
 ⟨(some 47),.load (some 2) (.tmp 4),some (46,true),0⟩,
 ⟨(some 48),.build [(.int .i64 0),(.int .i64 0)] [(0,1,(.cst (.c (.int .i64 15)))),(1,1,(.cst (.c (.int .i64 15))))],some (46,true),0⟩,
 ⟨(some 49),.eqA false [(some .i64),(some .i64)] (.tmp 47) (.tmp 48),some (46,true),0⟩,
 ⟨(some 50),.pick (.tmp 46) (.tmp 49) (.cst (.c (.bool false))),none,0⟩,
 ⟨(some 0),.mov (.tmp 50),none,0⟩])
 .ret)))))⟩
def f9 : AFunc:=⟨23,[.tmp 2],false,
 (.seq (.region 1 [] [
 ⟨(some 1),.box (.tmp 0),none,0⟩,
 ⟨(some 2),.mov (.cst (.c .nils)),none,1⟩])
 (.seq (.region 0 [] [
 ⟨(some 3),.mov (.cst (.c .nils)),none,0⟩])
 (.seq (.seq (.region 0 [] [
 ⟨(some 4),.mov (.cst (.c (.int .i64 0))),none,0⟩])
 (.block 0 (.loop ⟨[5,6,7,8,9,10,11,12,13,14,15,16,17,18,19,20,21],true,[(3,none,1)]⟩
 (.seq (.seq (.region 0 [] [
 ⟨(some 6),.mov (.tmp 4),none,0⟩,
 ⟨(some 7),.load (some 3) (.tmp 1),none,0⟩,
 ⟨(some 8),.call 22 true [(.tmp 7)],none,0⟩,
 ⟨(some 9),.bin .lss (.tmp 6) (.tmp 8),none,0⟩])
 (.cond (.tmp 9)
 .skip
 (.exit 0)))
 (.seq (.block 1 (.seq (.region 0 [] [
 ⟨(some 12),.load (some 3) (.tmp 1),none,0⟩,
 ⟨(some 13),.mov (.tmp 4),none,0⟩,
 ⟨(some 14),.call 29 true [(.tmp 12),(.tmp 13)],none,0⟩,
 ⟨(some 5),.mov (.tmp 14),none,0⟩])
 (.seq (.region 0 [] [
 ⟨(some 15),.load (some 3) (.tmp 1),none,0⟩,
 ⟨(some 16),.mov (.tmp 5),none,0⟩,
 ⟨(some 17),.call 30 true [(.tmp 15),(.tmp 16)],none,0⟩])
 (.cond (.tmp 17)
 (.region 2 [] [
 ⟨(some 18),.mov (.tmp 3),none,0⟩,
 ⟨(some 19),.mov (.tmp 5),none,0⟩,
 ⟨(some 20),.bslice 1 1 [.nils] [(0,(.tmp 19))],none,0⟩,
 ⟨(some 21),.append 1 24 (.tmp 18) (.tmp 20),none,1⟩,
 ⟨(some 3),.mov (.tmp 21),none,2⟩])
 .skip))))
 (.region 0 [] [
 ⟨(some 10),.mov (.tmp 4),none,0⟩,
 ⟨(some 11),.bin .add (.tmp 10) (.cst (.c (.int .i64 1))),none,0⟩,
 ⟨(some 4),.mov (.tmp 11),none,0⟩]))))))
 (.seq (.region 0 [] [
 ⟨(some 22),.mov (.tmp 3),none,0⟩,
 ⟨(some 2),.mov (.tmp 22),none,0⟩])
 .ret))))⟩
def f10 : AFunc:=⟨48,[.tmp 2,.tmp 3,.tmp 4],false,
 (.seq (.region 1 [] [
 ⟨(some 1),.box (.tmp 0),none,0⟩,
 ⟨(some 2),.mov (.cst (.c .nils)),none,1⟩,
 ⟨(some 3),.mov (.cst (.c .nils)),none,1⟩,
 ⟨(some 4),.mov (.cst (.c (.int .i64 0))),none,1⟩])
 (.seq (.region 0 [] [
 ⟨(some 9),.load (some 3) (.tmp 1),none,0⟩,
 ⟨(some 10),.call 31 false [(.tmp 9),(.cst (.c (.fn 32 false [] [])))],none,0⟩,
 ⟨(some 8),.mov (.tmp 10),none,0⟩,
 ⟨(some 11),.extract 0 (.tmp 8),none,0⟩,
 ⟨(some 12),.extract 1 (.tmp 8),none,0⟩,
 ⟨(some 5),.mov (.tmp 11),none,0⟩,
 ⟨(some 4),.mov (.tmp 12),none,0⟩])
 (.seq (.seq (.region 0 [] [
 ⟨(some 13),.mov (.tmp 4),none,0⟩,
 ⟨(some 14),.bin .neq (.tmp 13) (.cst (.c (.int .i64 0))),none,0⟩])
 (.cond (.tmp 14)
 (.seq (.region 0 [] [
 ⟨(some 15),.mov (.tmp 4),none,0⟩,
 ⟨(some 2),.mov (.cst (.c .nils)),none,0⟩,
 ⟨(some 3),.mov (.cst (.c .nils)),none,0⟩,
 ⟨(some 4),.mov (.tmp 15),none,0⟩])
 .ret)
 .skip))
 (.seq (.seq (.region 0 [] [
 ⟨(some 16),.faddr 0 (.tmp 1),none,0⟩,
 ⟨(some 17),.load none (.tmp 16),none,0⟩,
 ⟨(some 18),.len (.tmp 17),none,0⟩,
 ⟨(some 19),.mov (.cst (.c (.int .i64 0))),none,0⟩])
 (.block 0 (.loop ⟨[6,20,21,22,23,24,25,26,27,28],false,[(2,none,2)]⟩
 (.seq (.region 0 [] [
 ⟨(some 20),.bin .lss (.tmp 19) (.tmp 18),none,0⟩])
 (.seq (.cond (.tmp 20)
 .skip
 (.exit 0))
 (.seq (.block 1 (.seq (.region 0 [] [
 ⟨(some 21),.mov (.tmp 19),none,0⟩,
 ⟨(some 6),.mov (.tmp 21),none,0⟩])
 (.region 2 [] [
 ⟨(some 22),.mov (.tmp 2),none,0⟩,
 ⟨(some 23),.mov (.tmp 5),none,0⟩,
 ⟨(some 24),.mov (.tmp 6),none,0⟩,
 ⟨(some 25),.call 33 false [(.tmp 23),(.tmp 24)],none,0⟩,
 ⟨(some 26),.bslice 2 1 [(.int .i64 0),(.int .i64 0)] [(0,(.tmp 25))],none,0⟩,
 ⟨(some 27),.append 2 16 (.tmp 22) (.tmp 26),none,1⟩,
 ⟨(some 2),.mov (.tmp 27),none,2⟩])))
 (.region 0 [] [
 ⟨(some 28),.bin .add (.tmp 19) (.cst (.c (.int .i64 1))),none,0⟩,
 ⟨(some 19),.mov (.tmp 28),none,0⟩])))))))
 (.seq (.seq (.region 0 [] [
 ⟨(some 29),.faddr 1 (.tmp 1),none,0⟩,
 ⟨(some 30),.load none (.tmp 29),none,0⟩,
 ⟨(some 31),.len (.tmp 30),none,0⟩,
 ⟨(some 32),.mov (.cst (.c (.int .i64 0))),none,0⟩])
 (.block 2 (.loop ⟨[7,33,34,35,36,37,38,39,40,41,42,43,44,45],false,[(3,none,2)]⟩
 (.seq (.region 0 [] [
 ⟨(some 33),.bin .lss (.tmp 32) (.tmp 31),none,0⟩])
 (.seq (.cond (.tmp 33)
 .skip
 (.exit 2))
 (.seq (.block 3 (.seq (.region 0 [] [
 ⟨(some 34),.mov (.tmp 32),none,0⟩,
 ⟨(some 7),.mov (.tmp 34),none,0⟩])
 (.region 2 [] [
 ⟨(some 35),.mov (.tmp 3),none,0⟩,
 ⟨(some 36),.mov (.tmp 5),none,0⟩,
 ⟨(some 37),.faddr 0 (.tmp 1),none,0⟩,
 ⟨(some 38),.load none (.tmp 37),none,0⟩,
 ⟨(some 39),.len (.tmp 38),none,0⟩,
 ⟨(some 40),.mov (.tmp 7),none,0⟩,
 ⟨(some 41),.bin .add (.tmp 39) (.tmp 40),none,0⟩,
 ⟨(some 42),.call 33 false [(.tmp 36),(.tmp 41)],none,0⟩,
 ⟨(some 43),.bslice 2 1 [(.int .i64 0),(.int .i64 0)] [(0,(.tmp 42))],none,0⟩,
 ⟨(some 44),.append 2 16 (.tmp 35) (.tmp 43),none,1⟩,
 ⟨(some 3),.mov (.tmp 44),none,2⟩])))
 (.region 0 [] [
 ⟨(some 45),.bin .add (.tmp 32) (.cst (.c (.int .i64 1))),none,0⟩,
 ⟨(some 32),.mov (.tmp 45),none,0⟩])))))))
 (.seq (.region 0 [] [
 ⟨(some 46),.mov (.tmp 2),none,0⟩,
 ⟨(some 47),.mov (.tmp 3),none,0⟩,
 ⟨(some 2),.mov (.tmp 46),none,0⟩,
 ⟨(some 3),.mov (.tmp 47),none,0⟩,
 ⟨(some 4),.mov (.cst (.c (.int .i64 0))),none,0⟩])
 .ret))))))⟩
def f11 : AFunc:=⟨70,[.cell 2 (some 3)],false,
 (.seq (.region 2 [] [
 ⟨(some 1),.box (.tmp 0),none,0⟩,
 ⟨(some 2),.alloc [.nils,.nils,.nils],none,1⟩])
 (.seq (.region 1 [] [
 ⟨(some 3),.alloc [.nils,.nils,.nils],none,0⟩])
 (.seq (.seq (.region 0 [] [
 ⟨(some 4),.mov (.cst (.c (.int .i64 0))),none,0⟩])
 (.block 0 (.loop ⟨[8,9,10,11,12,13,14,15,16,17,18,19,20,21,22,23,24,25],true,[(3,(some 0),2)]⟩
 (.seq (.seq (.region 0 [] [
 ⟨(some 8),.mov (.tmp 4),none,0⟩,
 ⟨(some 9),.faddr 0 (.tmp 1),none,0⟩,
 ⟨(some 10),.load none (.tmp 9),none,0⟩,
 ⟨(some 11),.len (.tmp 10),none,0⟩,
 ⟨(some 12),.bin .lss (.tmp 8) (.tmp 11),none,0⟩])
 (.cond (.tmp 12)
 .skip
 (.exit 0)))
 (.seq (.block 1 (.region 2 [(0,2),(1,2),(0,3),(1,3),(0,4),(1,4),(2,4),(3,4),(0,5),(1,5),(0,6),(1,6),(0,7),(1,7),(0,8),(1,8)] [
 ⟨(some 15),.faddr 0 (.tmp 3),none,0⟩,
 ⟨(some 16),.load none (.tmp 15),none,0⟩,
 ⟨(some 17),.faddr 0 (.tmp 1),none,0⟩,
 ⟨(some 18),.load none (.tmp 17),none,0⟩,
 ⟨(some 19),.mov (.tmp 4),none,0⟩,
 ⟨(some 20),.iaddr 2 (.tmp 18) (.tmp 19),none,0⟩,
 ⟨(some 21),.load (some 2) (.tmp 20),none,0⟩,
 ⟨(some 22),.call 34 true [(.tmp 21)],none,0⟩,
 ⟨(some 23),.bslice 2 1 [(.int .i64 0),(.int .i64 0)] [(0,(.tmp 22))],none,0⟩,
 ⟨(some 24),.append 2 16 (.tmp 16) (.tmp 23),none,1⟩,
 ⟨(some 25),.faddr 0 (.tmp 3),none,2⟩,
 ⟨none,.store none (.tmp 25) (.tmp 24),none,2⟩]))
 (.region 0 [] [
 ⟨(some 13),.mov (.tmp 4),none,0⟩,
 ⟨(some 14),.bin .add (.tmp 13) (.cst (.c (.int .i64 1))),none,0⟩,
 ⟨(some 4),.mov (.tmp 14),none,0⟩]))))))
 (.seq (.seq (.region 0 [] [
 ⟨(some 5),.mov (.cst (.c (.int .i64 0))),none,0⟩])
 (.block 2 (.loop ⟨[26,27,28,29,30,31,32,33,34,35,36,37,38,39,40,41,42,43],true,[(3,(some 1),1)]⟩
 (.seq (.seq (.region 0 [] [
 ⟨(some 26),.mov (.tmp 5),none,0⟩,
 ⟨(some 27),.faddr 1 (.tmp 1),none,0⟩,
 ⟨(some 28),.load none (.tmp 27),none,0⟩,
 ⟨(some 29),.len (.tmp 28),none,0⟩,
 ⟨(some 30),.bin .lss (.tmp 26) (.tmp 29),none,0⟩])
 (.cond (.tmp 30)
 .skip
 (.exit 2)))
 (.seq (.block 3 (.region 2 [(0,2),(1,2),(0,3),(1,3),(0,4),(1,4),(2,4),(3,4),(0,5),(1,5),(0,6),(1,6),(0,7),(1,7),(0,8),(1,8)] [
 ⟨(some 33),.faddr 1 (.tmp 3),none,0⟩,
 ⟨(some 34),.load none (.tmp 33),none,0⟩,
 ⟨(some 35),.faddr 1 (.tmp 1),none,0⟩,
 ⟨(some 36),.load none (.tmp 35),none,0⟩,
 ⟨(some 37),.mov (.tmp 5),none,0⟩,
 ⟨(some 38),.iaddr 1 (.tmp 36) (.tmp 37),none,0⟩,
 ⟨(some 39),.load none (.tmp 38),none,0⟩,
 ⟨(some 40),.call 35 true [(.tmp 39)],none,0⟩,
 ⟨(some 41),.bslice 1 1 [.nils] [(0,(.tmp 40))],none,0⟩,
 ⟨(some 42),.append 1 24 (.tmp 34) (.tmp 41),none,1⟩,
 ⟨(some 43),.faddr 1 (.tmp 3),none,2⟩,
 ⟨none,.store none (.tmp 43) (.tmp 42),none,2⟩]))
 (.region 0 [] [
 ⟨(some 31),.mov (.tmp 5),none,0⟩,
 ⟨(some 32),.bin .add (.tmp 31) (.cst (.c (.int .i64 1))),none,0⟩,
 ⟨(some 5),.mov (.tmp 32),none,0⟩]))))))
 (.seq (.seq (.region 0 [] [
 ⟨(some 6),.mov (.cst (.c (.int .i64 0))),none,0⟩])
 (.block 4 (.loop ⟨[7,44,45,46,47,48,49,50,51,52,53,54,55,56,57,58,59,60,61,62,63,64,65,66,67,68],true,[(3,(some 2),4)]⟩
 (.seq (.seq (.region 0 [] [
 ⟨(some 44),.mov (.tmp 6),none,0⟩,
 ⟨(some 45),.faddr 2 (.tmp 1),none,0⟩,
 ⟨(some 46),.load none (.tmp 45),none,0⟩,
 ⟨(some 47),.len (.tmp 46),none,0⟩,
 ⟨(some 48),.bin .lss (.tmp 44) (.tmp 47),none,0⟩])
 (.cond (.tmp 48)
 .skip
 (.exit 4)))
 (.seq (.block 5 (.seq (.region 1 [] [
 ⟨(some 51),.faddr 2 (.tmp 1),none,0⟩,
 ⟨(some 52),.load none (.tmp 51),none,0⟩,
 ⟨(some 53),.mov (.tmp 6),none,0⟩,
 ⟨(some 54),.iaddr 4 (.tmp 52) (.tmp 53),none,0⟩,
 ⟨(some 55),.load (some 4) (.tmp 54),none,0⟩,
 ⟨(some 7),.alloc [(.bool false),(.int .i64 0),(.int .i64 0),(.int .i64 0)],none,0⟩,
 ⟨none,.store (some 4) (.tmp 7) (.tmp 55),none,1⟩])
 (.region 2 [(0,2),(1,2),(0,3),(1,3),(0,4),(1,4),(2,4),(3,4),(0,5),(1,5),(2,5),(3,5),(0,6),(1,6),(2,6),(3,6),(4,6),(5,6),(0,7),(1,7),(2,7),(3,7),(4,7),(5,7),(0,8),(1,8),(2,8),(3,8),(4,8),(5,8),(0,9),(1,9),(0,10),(1,10)] [
 ⟨(some 56),.faddr 2 (.tmp 3),none,0⟩,
 ⟨(some 57),.load none (.tmp 56),none,0⟩,
 ⟨(some 58),.faddr 0 (.tmp 7),none,0⟩,
 ⟨(some 59),.load none (.tmp 58),none,0⟩,
 ⟨(some 60),.faddr 1 (.tmp 7),none,0⟩,
 ⟨(some 61),.load none (.tmp 60),none,0⟩,
 ⟨(some 62),.faddr 2 (.tmp 7),none,0⟩,
 ⟨(some 63),.load (some 2) (.tmp 62),none,0⟩,
 ⟨(some 64),.call 34 true [(.tmp 63)],none,0⟩,
 ⟨(some 65),.build [(.bool false),(.int .i64 0),(.int .i64 0),(.int .i64 0)] [(0,1,(.tmp 59)),(1,1,(.tmp 61)),(2,2,(.tmp 64))],none,0⟩,
 ⟨(some 66),.bslice 4 1 [(.bool false),(.int .i64 0),(.int .i64 0),(.int .i64 0)] [(0,(.tmp 65))],none,0⟩,
 ⟨(some 67),.append 4 32 (.tmp 57) (.tmp 66),none,1⟩,
 ⟨(some 68),.faddr 2 (.tmp 3),none,2⟩,
 ⟨none,.store none (.tmp 68) (.tmp 67),none,2⟩])))
 (.region 0 [] [
 ⟨(some 49),.mov (.tmp 6),none,0⟩,
 ⟨(some 50),.bin .add (.tmp 49) (.cst (.c (.int .i64 1))),none,0⟩,
 ⟨(some 6),.mov (.tmp 50),none,0⟩]))))))
 (.seq (.region 0 [] [
 ⟨(some 69),.load (some 3) (.tmp 3),none,0⟩,
 ⟨none,.store (some 3) (.tmp 2) (.tmp 69),none,0⟩])
 .ret))))))⟩
def f12 : AFunc:=⟨40,[.tmp 4,.tmp 5],false,
 (.seq (.region 1 [] [
 ⟨(some 2),.box (.tmp 0),none,0⟩,
 ⟨(some 4),.mov (.cst (.c .nils)),none,1⟩,
 ⟨(some 5),.mov (.cst (.c (.int .i64 0))),none,1⟩])
 (.seq (.seq (.region 0 [] [
 ⟨(some 12),.load (some 3) (.tmp 2),none,0⟩,
 ⟨(some 13),.call 36 true [(.tmp 12)],none,0⟩,
 ⟨(some 6),.mov (.tmp 13),none,0⟩])
 (.seq (.region 0 [] [
 ⟨(some 14),.mov (.tmp 6),none,0⟩,
 ⟨(some 15),.bin .neq (.tmp 14) (.cst (.c (.int .i64 0))),none,0⟩])
 (.cond (.tmp 15)
 (.seq (.region 0 [] [
 ⟨(some 16),.mov (.tmp 6),none,0⟩,
 ⟨(some 4),.mov (.cst (.c .nils)),none,0⟩,
 ⟨(some 5),.mov (.tmp 16),none,0⟩])
 .ret)
 .skip)))
 (.seq (.region 1 [] [
 ⟨(some 18),.load (some 3) (.tmp 2),none,0⟩,
 ⟨(some 19),.mov (.tmp 1),none,0⟩,
 ⟨(some 20),.call 37 true [(.tmp 18),(.tmp 19)],none,0⟩,
 ⟨(some 17),.mov (.tmp 20),none,0⟩,
 ⟨(some 21),.extract 0 (.tmp 17),none,0⟩,
 ⟨(some 22),.extract 1 (.tmp 17),none,0⟩,
 ⟨(some 7),.alloc [(.int .i64 0),(.int .i64 0),(.int .i64 0)],none,0⟩,
 ⟨none,.store (some 3) (.tmp 7) (.tmp 21),none,1⟩,
 ⟨(some 8),.mov (.tmp 22),none,1⟩])
 (.seq (.seq (.region 0 [] [
 ⟨(some 23),.mov (.tmp 8),none,0⟩,
 ⟨(some 24),.not (.tmp 23),none,0⟩])
 (.cond (.tmp 24)
 (.seq (.region 0 [] [
 ⟨(some 4),.mov (.cst (.c .nils)),none,0⟩,
 ⟨(some 5),.mov (.cst (.c (.int .i64 2))),none,0⟩])
 .ret)
 .skip))
 (.seq (.region 0 [] [
 ⟨(some 9),.mov (.cst (.c .nils)),none,0⟩])
 (.seq (.seq (.region 0 [] [
 ⟨(some 25),.faddr 1 (.tmp 2),none,0⟩,
 ⟨(some 26),.load none (.tmp 25),none,0⟩,
 ⟨(some 27),.len (.tmp 26),none,0⟩,
 ⟨(some 28),.mov (.cst (.c (.int .i64 0))),none,0⟩])
 (.block 0 (.loop ⟨[11,29,30,31,32,33,34,35,36,37,38],true,[(9,none,1)]⟩
 (.seq (.region 0 [] [
 ⟨(some 29),.bin .lss (.tmp 28) (.tmp 27),none,0⟩])
 (.seq (.cond (.tmp 29)
 .skip
 (.exit 0))
 (.seq (.block 1 (.seq (.region 0 [] [
 ⟨(some 30),.iaddr 1 (.tmp 26) (.tmp 28),none,0⟩,
 ⟨(some 31),.load none (.tmp 30),none,0⟩,
 ⟨(some 11),.mov (.tmp 31),none,0⟩])
 (.region 2 [] [
 ⟨(some 32),.mov (.tmp 9),none,0⟩,
 ⟨(some 33),.load (some 3) (.tmp 7),none,0⟩,
 ⟨(some 34),.mov (.tmp 11),none,0⟩,
 ⟨(some 35),.call 38 true [(.tmp 33),(.tmp 34)],none,0⟩,
 ⟨(some 36),.bslice 1 1 [(.int .i64 0)] [(0,(.tmp 35))],none,0⟩,
 ⟨(some 37),.append 1 8 (.tmp 32) (.tmp 36),none,1⟩,
 ⟨(some 9),.mov (.tmp 37),none,2⟩])))
 (.region 0 [] [
 ⟨(some 38),.bin .add (.tmp 28) (.cst (.c (.int .i64 1))),none,0⟩,
 ⟨(some 28),.mov (.tmp 38),none,0⟩])))))))
 (.seq (.region 0 [] [
 ⟨(some 39),.mov (.tmp 9),none,0⟩,
 ⟨(some 4),.mov (.tmp 39),none,0⟩,
 ⟨(some 5),.mov (.cst (.c (.int .i64 0))),none,0⟩])
 .ret)))))))⟩
def f13 : AFunc:=⟨67,[.cell 4 (some 3)],false,
 (.seq (.region 2 [] [
 ⟨(some 2),.box (.tmp 0),none,0⟩,
 ⟨(some 4),.alloc [(.int .i64 0),(.int .i64 0),.nils],none,1⟩])
 (.seq (.region 1 [] [
 ⟨(some 5),.alloc [(.int .i64 0),(.int .i64 0),.nils],none,0⟩])
 (.seq (.region 0 [(0,3),(1,3),(2,3),(0,4),(1,4),(2,4),(3,4),(0,5),(1,5),(2,5),(3,5),(0,6),(1,6),(2,6),(3,6),(0,7),(1,7),(2,7),(0,9),(1,9),(2,9),(3,9),(4,9),(5,9),(6,9),(7,9),(8,9),(0,10),(1,10),(2,10),(3,10),(4,10),(5,10),(6,10),(7,10),(8,10),(9,10),(0,11),(1,11),(2,11),(3,11),(4,11),(5,11),(6,11),(7,11),(8,11),(9,11),(0,12),(1,12),(2,12),(3,12),(7,12),(8,12),(9,12),(0,13),(1,13),(2,13),(3,13),(7,13),(8,13),(9,14),(10,14),(11,14),(12,14),(13,14),(9,15),(13,15)] [
 ⟨(some 8),.faddr 2 (.tmp 2),none,0⟩,
 ⟨(some 9),.faddr 0 (.tmp 8),none,0⟩,
 ⟨(some 10),.load none (.tmp 9),none,0⟩,
 ⟨(some 11),.mov (.tmp 1),none,0⟩,
 ⟨(some 12),.faddr 2 (.tmp 2),none,0⟩,
 ⟨(some 13),.load (some 2) (.tmp 12),none,0⟩,
 ⟨(some 14),.call 39 true [(.tmp 13)],none,0⟩,
 ⟨(some 15),.bin .rem (.tmp 11) (.tmp 14),none,0⟩,
 ⟨(some 16),.bin .add (.tmp 10) (.tmp 15),none,0⟩,
 ⟨(some 17),.mov (.tmp 1),none,0⟩,
 ⟨(some 18),.faddr 2 (.tmp 2),none,0⟩,
 ⟨(some 19),.load (some 2) (.tmp 18),none,0⟩,
 ⟨(some 20),.call 39 true [(.tmp 19)],none,0⟩,
 ⟨(some 21),.bin .quo (.tmp 17) (.tmp 20),none,0⟩,
 ⟨(some 22),.faddr 0 (.tmp 5),none,0⟩,
 ⟨none,.store none (.tmp 22) (.tmp 16),none,0⟩,
 ⟨(some 1),.mov (.tmp 21),none,0⟩])
 (.seq (.region 0 [(0,3),(1,3),(2,3),(0,4),(1,4),(2,4),(3,4),(0,5),(1,5),(2,5),(3,5),(0,6),(1,6),(2,6),(3,6),(0,7),(1,7),(2,7),(0,9),(1,9),(2,9),(3,9),(4,9),(5,9),(6,9),(7,9),(8,9),(0,10),(1,10),(2,10),(3,10),(4,10),(5,10),(6,10),(7,10),(8,10),(9,10),(0,11),(1,11),(2,11),(3,11),(4,11),(5,11),(6,11),(7,11),(8,11),(9,11),(0,12),(1,12),(2,12),(3,12),(7,12),(8,12),(9,12),(0,13),(1,13),(2,13),(3,13),(7,13),(8,13),(9,14),(10,14),(11,14),(12,14),(13,14),(9,15),(13,15)] [
 ⟨(some 23),.faddr 4 (.tmp 2),none,0⟩,
 ⟨(some 24),.faddr 0 (.tmp 23),none,0⟩,
 ⟨(some 25),.load none (.tmp 24),none,0⟩,
 ⟨(some 26),.mov (.tmp 1),none,0⟩,
 ⟨(some 27),.faddr 4 (.tmp 2),none,0⟩,
 ⟨(some 28),.load (some 2) (.tmp 27),none,0⟩,
 ⟨(some 29),.call 39 true [(.tmp 28)],none,0⟩,
 ⟨(some 30),.bin .rem (.tmp 26) (.tmp 29),none,0⟩,
 ⟨(some 31),.bin .add (.tmp 25) (.tmp 30),none,0⟩,
 ⟨(some 32),.mov (.tmp 1),none,0⟩,
 ⟨(some 33),.faddr 4 (.tmp 2),none,0⟩,
 ⟨(some 34),.load (some 2) (.tmp 33),none,0⟩,
 ⟨(some 35),.call 39 true [(.tmp 34)],none,0⟩,
 ⟨(some 36),.bin .quo (.tmp 32) (.tmp 35),none,0⟩,
 ⟨(some 37),.faddr 1 (.tmp 5),none,0⟩,
 ⟨none,.store none (.tmp 37) (.tmp 31),none,0⟩,
 ⟨(some 1),.mov (.tmp 36),none,0⟩])
 (.seq (.seq (.region 0 [] [
 ⟨(some 6),.mov (.cst (.c (.int .i64 0))),none,0⟩])
 (.block 0 (.loop ⟨[7,38,39,40,41,42,43,44,45,46,47,48,49,50,51,52,53,54,55,56,57,58,59,60,61,62,63,64,65],true,[(5,(some 2),1)]⟩
 (.seq (.seq (.region 0 [] [
 ⟨(some 38),.mov (.tmp 6),none,0⟩,
 ⟨(some 39),.faddr 8 (.tmp 2),none,0⟩,
 ⟨(some 40),.load none (.tmp 39),none,0⟩,
 ⟨(some 41),.len (.tmp 40),none,0⟩,
 ⟨(some 42),.bin .lss (.tmp 38) (.tmp 41),none,0⟩])
 (.cond (.tmp 42)
 .skip
 (.exit 0)))
 (.seq (.block 1 (.seq (.region 1 [] [
 ⟨(some 45),.faddr 8 (.tmp 2),none,0⟩,
 ⟨(some 46),.load none (.tmp 45),none,0⟩,
 ⟨(some 47),.mov (.tmp 6),none,0⟩,
 ⟨(some 48),.iaddr 2 (.tmp 46) (.tmp 47),none,0⟩,
 ⟨(some 49),.load (some 2) (.tmp 48),none,0⟩,
 ⟨(some 7),.alloc [(.int .i64 0),(.int .i64 0)],none,0⟩,
 ⟨none,.store (some 2) (.tmp 7) (.tmp 49),none,1⟩])
 (.region 2 [(0,2),(1,2),(0,3),(1,3),(0,4),(1,4),(2,4),(3,4),(0,5),(1,5),(2,5),(3,5),(4,5),(0,6),(1,6),(2,6),(3,6),(4,6),(0,7),(1,7),(2,7),(3,7),(0,8),(1,8),(0,9),(1,9),(0,11),(1,11),(2,11),(3,11),(4,11),(5,11),(6,11),(7,11),(8,11),(9,11),(10,11),(0,12),(1,12),(2,12),(3,12),(4,12),(5,12),(6,12),(7,12),(8,12),(9,12),(10,12),(11,12),(11,13),(11,15),(12,15),(13,15),(14,15),(11,16),(14,16)] [
 ⟨(some 50),.faddr 2 (.tmp 5),none,0⟩,
 ⟨(some 51),.load none (.tmp 50),none,0⟩,
 ⟨(some 52),.faddr 0 (.tmp 7),none,0⟩,
 ⟨(some 53),.load none (.tmp 52),none,0⟩,
 ⟨(some 54),.mov (.tmp 1),none,0⟩,
 ⟨(some 55),.load (some 2) (.tmp 7),none,0⟩,
 ⟨(some 56),.call 39 true [(.tmp 55)],none,0⟩,
 ⟨(some 57),.bin .rem (.tmp 54) (.tmp 56),none,0⟩,
 ⟨(some 58),.bin .add (.tmp 53) (.tmp 57),none,0⟩,
 ⟨(some 59),.bslice 1 1 [(.int .i64 0)] [(0,(.tmp 58))],none,0⟩,
 ⟨(some 60),.append 1 8 (.tmp 51) (.tmp 59),none,1⟩,
 ⟨(some 61),.mov (.tmp 1),none,2⟩,
 ⟨(some 62),.load (some 2) (.tmp 7),none,2⟩,
 ⟨(some 63),.call 39 true [(.tmp 62)],none,2⟩,
 ⟨(some 64),.bin .quo (.tmp 61) (.tmp 63),none,2⟩,
 ⟨(some 65),.faddr 2 (.tmp 5),none,2⟩,
 ⟨none,.store none (.tmp 65) (.tmp 60),none,2⟩,
 ⟨(some 1),.mov (.tmp 64),none,2⟩])))
 (.region 0 [] [
 ⟨(some 43),.mov (.tmp 6),none,0⟩,
 ⟨(some 44),.bin .add (.tmp 43) (.cst (.c (.int .i64 1))),none,0⟩,
 ⟨(some 6),.mov (.tmp 44),none,0⟩]))))))
 (.seq (.region 0 [] [
 ⟨(some 66),.load (some 3) (.tmp 5),none,0⟩,
 ⟨none,.store (some 3) (.tmp 4) (.tmp 66),none,0⟩])
 .ret))))))⟩
def f14 : AFunc:=⟨30,[.tmp 2],false,
 (.seq (.region 1 [] [
 ⟨(some 1),.box (.tmp 0),none,0⟩,
 ⟨(some 2),.mov (.cst (.c (.int .i64 0))),none,1⟩])
 (.seq (.region 0 [(0,4),(1,4),(2,4),(3,4),(0,5),(1,5),(2,5),(3,5),(3,6)] [
 ⟨(some 5),.faddr 2 (.tmp 1),none,0⟩,
 ⟨(some 6),.load (some 2) (.tmp 5),none,0⟩,
 ⟨(some 7),.call 39 true [(.tmp 6)],none,0⟩,
 ⟨(some 8),.mm false (.cst (.c (.int .i64 3000))) (.tmp 7),none,0⟩,
 ⟨(some 9),.faddr 4 (.tmp 1),none,0⟩,
 ⟨(some 10),.load (some 2) (.tmp 9),none,0⟩,
 ⟨(some 11),.call 39 true [(.tmp 10)],none,0⟩,
 ⟨(some 12),.bin .mul (.tmp 8) (.tmp 11),none,0⟩,
 ⟨(some 3),.mov (.tmp 12),none,0⟩])
 (.seq (.seq (.region 0 [] [
 ⟨(some 4),.mov (.cst (.c (.int .i64 0))),none,0⟩])
 (.block 0 (.loop ⟨[13,14,15,16,17,18,19,20,21,22,23,24,25,26,27,28],false,[]⟩
 (.seq (.seq (.region 0 [] [
 ⟨(some 13),.mov (.tmp 4),none,0⟩,
 ⟨(some 14),.faddr 8 (.tmp 1),none,0⟩,
 ⟨(some 15),.load none (.tmp 14),none,0⟩,
 ⟨(some 16),.len (.tmp 15),none,0⟩,
 ⟨(some 17),.bin .lss (.tmp 13) (.tmp 16),none,0⟩])
 (.cond (.tmp 17)
 .skip
 (.exit 0)))
 (.seq (.block 1 (.region 0 [] [
 ⟨(some 20),.mov (.tmp 3),none,0⟩,
 ⟨(some 21),.mm false (.cst (.c (.int .i64 3000))) (.tmp 20),none,0⟩,
 ⟨(some 22),.faddr 8 (.tmp 1),none,0⟩,
 ⟨(some 23),.load none (.tmp 22),none,0⟩,
 ⟨(some 24),.mov (.tmp 4),none,0⟩,
 ⟨(some 25),.iaddr 2 (.tmp 23) (.tmp 24),none,0⟩,
 ⟨(some 26),.load (some 2) (.tmp 25),none,0⟩,
 ⟨(some 27),.call 39 true [(.tmp 26)],none,0⟩,
 ⟨(some 28),.bin .mul (.tmp 21) (.tmp 27),none,0⟩,
 ⟨(some 3),.mov (.tmp 28),none,0⟩]))
 (.region 0 [] [
 ⟨(some 18),.mov (.tmp 4),none,0⟩,
 ⟨(some 19),.bin .add (.tmp 18) (.cst (.c (.int .i64 1))),none,0⟩,
 ⟨(some 4),.mov (.tmp 19),none,0⟩]))))))
 (.seq (.region 0 [] [
 ⟨(some 29),.mov (.tmp 3),none,0⟩,
 ⟨(some 2),.mov (.tmp 29),none,0⟩])
 .ret))))⟩
def f15 : AFunc:=⟨20,[.tmp 4,.tmp 5],false,
 (.seq (.region 2 [] [
 ⟨(some 2),.box (.tmp 0),none,0⟩,
 ⟨(some 3),.box (.tmp 1),none,1⟩,
 ⟨(some 4),.mov (.cst (.c .nils)),none,2⟩,
 ⟨(some 5),.mov (.cst (.c (.int .i64 0))),none,2⟩])
 (.seq (.seq (.region 0 [] [
 ⟨(some 7),.load (some 12) (.tmp 2),none,0⟩,
 ⟨(some 8),.call 40 true [(.tmp 7)],none,0⟩,
 ⟨(some 6),.mov (.tmp 8),none,0⟩])
 (.seq (.region 0 [] [
 ⟨(some 9),.mov (.tmp 6),none,0⟩,
 ⟨(some 10),.bin .neq (.tmp 9) (.cst (.c (.int .i64 0))),none,0⟩])
 (.cond (.tmp 10)
 (.seq (.region 0 [] [
 ⟨(some 11),.mov (.tmp 6),none,0⟩,
 ⟨(some 4),.mov (.cst (.c .nils)),none,0⟩,
 ⟨(some 5),.mov (.tmp 11),none,0⟩])
 .ret)
 .skip)))
 (.seq (.seq (.region 0 [] [
 ⟨(some 12),.load (some 12) (.tmp 2),none,0⟩,
 ⟨(some 13),.load (some 3) (.tmp 3),none,0⟩,
 ⟨(some 14),.call 41 true [(.tmp 12),(.tmp 13)],none,0⟩,
 ⟨(some 15),.not (.tmp 14),none,0⟩])
 (.cond (.tmp 15)
 (.seq (.region 0 [] [
 ⟨(some 4),.mov (.cst (.c .nils)),none,0⟩,
 ⟨(some 5),.mov (.cst (.c (.int .i64 2))),none,0⟩])
 .ret)
 .skip))
 (.seq (.region 0 [(0,2),(1,2)] [
 ⟨(some 16),.load (some 12) (.tmp 2),none,0⟩,
 ⟨(some 17),.call 42 false [(.tmp 16)],none,0⟩,
 ⟨(some 18),.load (some 3) (.tmp 3),none,0⟩,
 ⟨(some 19),.call 43 false [(.tmp 17),(.tmp 18)],none,0⟩,
 ⟨(some 4),.mov (.tmp 19),none,0⟩,
 ⟨(some 5),.mov (.cst (.c (.int .i64 0))),none,0⟩])
 .ret))))⟩
def f16 : AFunc:=⟨95,[.cell 2 (some 12)],false,
 (.seq (.region 2 [] [
 ⟨(some 1),.box (.tmp 0),none,0⟩,
 ⟨(some 2),.alloc [(.int .i64 0),(.int .i64 0),(.int .i64 0),(.int .i64 0),(.int .i64 0),(.int .i64 0),(.int .i64 0),(.int .i64 0),.nils,.nils,.nils,.nils],none,1⟩])
 (.seq (.region 1 [(0,2),(1,2),(0,3),(1,3),(0,4),(1,4),(2,4),(3,4),(0,5),(1,5),(2,5),(3,5),(0,6),(1,6),(2,6),(3,6),(0,7),(1,7),(2,7),(3,7),(4,7),(5,7),(6,7),(0,8),(1,8),(2,8),(3,8),(4,8),(5,8),(6,8),(0,9),(1,9),(2,9),(3,9),(0,10),(1,10),(2,10),(3,10),(4,10),(5,10),(6,10),(7,10),(8,10),(9,10),(0,11),(1,11),(2,11),(3,11),(4,11),(5,11),(6,11),(7,11),(8,11),(9,11),(0,12),(1,12),(2,12),(3,12),(4,12),(5,12),(6,12),(7,12),(8,12),(9,12),(10,12),(11,12),(0,13),(1,13),(2,13),(3,13),(4,13),(5,13),(6,13),(7,13),(8,13),(9,13),(10,13),(11,13),(0,14),(1,14),(2,14),(3,14),(4,14),(5,14),(6,14),(7,14),(8,14),(9,14),(10,14),(11,14),(12,14),(13,14),(0,15),(1,15),(2,15),(3,15),(4,15),(5,15),(6,15),(7,15),(8,15),(9,15),(10,15),(11,15),(12,15),(13,15),(0,16),(1,16),(2,16),(3,16),(10,16),(11,16),(12,16),(13,16),(0,18),(1,18),(2,18),(3,18),(4,18),(5,18),(6,18),(7,18),(8,18),(9,18),(10,18),(11,18),(12,18),(13,18),(14,18),(15,18),(16,18),(17,18)] [
 ⟨(some 9),.faddr 0 (.tmp 1),none,0⟩,
 ⟨(some 10),.load none (.tmp 9),none,0⟩,
 ⟨(some 11),.faddr 1 (.tmp 1),none,0⟩,
 ⟨(some 12),.load none (.tmp 11),none,0⟩,
 ⟨(some 13),.faddr 2 (.tmp 1),none,0⟩,
 ⟨(some 14),.load (some 2) (.tmp 13),none,0⟩,
 ⟨(some 15),.call 44 true [(.tmp 14)],none,0⟩,
 ⟨(some 16),.faddr 4 (.tmp 1),none,0⟩,
 ⟨(some 17),.load (some 2) (.tmp 16),none,0⟩,
 ⟨(some 18),.call 44 true [(.tmp 17)],none,0⟩,
 ⟨(some 19),.faddr 6 (.tmp 1),none,0⟩,
 ⟨(some 20),.load none (.tmp 19),none,0⟩,
 ⟨(some 21),.faddr 7 (.tmp 1),none,0⟩,
 ⟨(some 22),.load none (.tmp 21),none,0⟩,
 ⟨(some 23),.faddr 10 (.tmp 1),none,0⟩,
 ⟨(some 24),.load none (.tmp 23),none,0⟩,
 ⟨(some 25),.call 45 true [(.tmp 24)],none,0⟩,
 ⟨(some 26),.build [(.int .i64 0),(.int .i64 0),(.int .i64 0),(.int .i64 0),(.int .i64 0),(.int .i64 0),(.int .i64 0),(.int .i64 0),.nils,.nils,.nils,.nils] [(0,1,(.tmp 10)),(1,1,(.tmp 12)),(2,2,(.tmp 15)),(4,2,(.tmp 18)),(6,1,(.tmp 20)),(7,1,(.tmp 22)),(10,1,(.tmp 25))],none,0⟩,
 ⟨(some 3),.alloc [(.int .i64 0),(.int .i64 0),(.int .i64 0),(.int .i64 0),(.int .i64 0),(.int .i64 0),(.int .i64 0),(.int .i64 0),.nils,.nils,.nils,.nils],none,0⟩,
 ⟨none,.store (some 12) (.tmp 3) (.tmp 26),none,1⟩])
 (.seq (.seq (.region 0 [] [
 ⟨(some 4),.mov (.cst (.c (.int .i64 0))),none,0⟩])
 (.block 0 (.loop ⟨[27,28,29,30,31,32,33,34,35,36,37,38,39,40,41,42,43,44],true,[(3,(some 8),2)]⟩
 (.seq (.seq (.region 0 [] [
 ⟨(some 27),.mov (.tmp 4),none,0⟩,
 ⟨(some 28),.faddr 8 (.tmp 1),none,0⟩,
 ⟨(some 29),.load none (.tmp 28),none,0⟩,
 ⟨(some 30),.len (.tmp 29),none,0⟩,
 ⟨(some 31),.bin .lss (.tmp 27) (.tmp 30),none,0⟩])
 (.cond (.tmp 31)
 .skip
 (.exit 0)))
 (.seq (.block 1 (.region 2 [(0,2),(1,2),(0,3),(1,3),(0,4),(1,4),(2,4),(3,4),(0,5),(1,5),(0,6),(1,6),(0,7),(1,7),(0,8),(1,8)] [
 ⟨(some 34),.faddr 8 (.tmp 3),none,0⟩,
 ⟨(some 35),.load none (.tmp 34),none,0⟩,
 ⟨(some 36),.faddr 8 (.tmp 1),none,0⟩,
 ⟨(some 37),.load none (.tmp 36),none,0⟩,
 ⟨(some 38),.mov (.tmp 4),none,0⟩,
 ⟨(some 39),.iaddr 2 (.tmp 37) (.tmp 38),none,0⟩,
 ⟨(some 40),.load (some 2) (.tmp 39),none,0⟩,
 ⟨(some 41),.call 44 true [(.tmp 40)],none,0⟩,
 ⟨(some 42),.bslice 2 1 [(.int .i64 0),(.int .i64 0)] [(0,(.tmp 41))],none,0⟩,
 ⟨(some 43),.append 2 16 (.tmp 35) (.tmp 42),none,1⟩,
 ⟨(some 44),.faddr 8 (.tmp 3),none,2⟩,
 ⟨none,.store none (.tmp 44) (.tmp 43),none,2⟩]))
 (.region 0 [] [
 ⟨(some 32),.mov (.tmp 4),none,0⟩,
 ⟨(some 33),.bin .add (.tmp 32) (.cst (.c (.int .i64 1))),none,0⟩,
 ⟨(some 4),.mov (.tmp 33),none,0⟩]))))))
 (.seq (.seq (.region 0 [] [
 ⟨(some 5),.mov (.cst (.c (.int .i64 0))),none,0⟩])
 (.block 2 (.loop ⟨[6,45,46,47,48,49,50,51,52,53,54,55,56,57,58,59,60,61,62,63,64,65,66,67,68],true,[(3,(some 9),3)]⟩
 (.seq (.seq (.region 0 [] [
 ⟨(some 45),.mov (.tmp 5),none,0⟩,
 ⟨(some 46),.faddr 9 (.tmp 1),none,0⟩,
 ⟨(some 47),.load none (.tmp 46),none,0⟩,
 ⟨(some 48),.len (.tmp 47),none,0⟩,
 ⟨(some 49),.bin .lss (.tmp 45) (.tmp 48),none,0⟩])
 (.cond (.tmp 49)
 .skip
 (.exit 2)))
 (.seq (.block 3 (.seq (.region 1 [] [
 ⟨(some 52),.faddr 9 (.tmp 1),none,0⟩,
 ⟨(some 53),.load none (.tmp 52),none,0⟩,
 ⟨(some 54),.mov (.tmp 5),none,0⟩,
 ⟨(some 55),.iaddr 3 (.tmp 53) (.tmp 54),none,0⟩,
 ⟨(some 56),.load (some 3) (.tmp 55),none,0⟩,
 ⟨(some 6),.alloc [(.int .i64 0),(.int .i64 0),(.int .i64 0)],none,0⟩,
 ⟨none,.store (some 3) (.tmp 6) (.tmp 56),none,1⟩])
 (.region 2 [] [
 ⟨(some 57),.faddr 9 (.tmp 3),none,0⟩,
 ⟨(some 58),.load none (.tmp 57),none,0⟩,
 ⟨(some 59),.faddr 0 (.tmp 6),none,0⟩,
 ⟨(some 60),.load none (.tmp 59),none,0⟩,
 ⟨(some 61),.faddr 1 (.tmp 6),none,0⟩,
 ⟨(some 62),.load none (.tmp 61),none,0⟩,
 ⟨(some 63),.faddr 2 (.tmp 6),none,0⟩,
 ⟨(some 64),.load none (.tmp 63),none,0⟩,
 ⟨(some 65),.build [(.int .i64 0),(.int .i64 0),(.int .i64 0)] [(0,1,(.tmp 60)),(1,1,(.tmp 62)),(2,1,(.tmp 64))],none,0⟩,
 ⟨(some 66),.bslice 3 1 [(.int .i64 0),(.int .i64 0),(.int .i64 0)] [(0,(.tmp 65))],none,0⟩,
 ⟨(some 67),.append 3 24 (.tmp 58) (.tmp 66),none,1⟩,
 ⟨(some 68),.faddr 9 (.tmp 3),none,2⟩,
 ⟨none,.store none (.tmp 68) (.tmp 67),none,2⟩])))
 (.region 0 [] [
 ⟨(some 50),.mov (.tmp 5),none,0⟩,
 ⟨(some 51),.bin .add (.tmp 50) (.cst (.c (.int .i64 1))),none,0⟩,
 ⟨(some 5),.mov (.tmp 51),none,0⟩]))))))
 (.seq (.seq (.region 0 [] [
 ⟨(some 7),.mov (.cst (.c (.int .i64 0))),none,0⟩])
 (.block 4 (.loop ⟨[8,69,70,71,72,73,74,75,76,77,78,79,80,81,82,83,84,85,86,87,88,89,90,91,92,93],true,[(3,(some 11),4)]⟩
 (.seq (.seq (.region 0 [] [
 ⟨(some 69),.mov (.tmp 7),none,0⟩,
 ⟨(some 70),.faddr 11 (.tmp 1),none,0⟩,
 ⟨(some 71),.load none (.tmp 70),none,0⟩,
 ⟨(some 72),.len (.tmp 71),none,0⟩,
 ⟨(some 73),.bin .lss (.tmp 69) (.tmp 72),none,0⟩])
 (.cond (.tmp 73)
 .skip
 (.exit 4)))
 (.seq (.block 5 (.seq (.region 1 [] [
 ⟨(some 76),.faddr 11 (.tmp 1),none,0⟩,
 ⟨(some 77),.load none (.tmp 76),none,0⟩,
 ⟨(some 78),.mov (.tmp 7),none,0⟩,
 ⟨(some 79),.iaddr 4 (.tmp 77) (.tmp 78),none,0⟩,
 ⟨(some 80),.load (some 4) (.tmp 79),none,0⟩,
 ⟨(some 8),.alloc [(.int .i64 0),(.bool false),(.int .i64 0),(.int .i64 0)],none,0⟩,
 ⟨none,.store (some 4) (.tmp 8) (.tmp 80),none,1⟩])
 (.region 2 [(0,2),(1,2),(0,3),(1,3),(0,4),(1,4),(2,4),(3,4),(0,5),(1,5),(2,5),(3,5),(0,6),(1,6),(2,6),(3,6),(4,6),(5,6),(0,7),(1,7),(2,7),(3,7),(4,7),(5,7),(0,8),(1,8),(2,8),(3,8),(4,8),(5,8),(0,9),(1,9),(0,10),(1,10)] [
 ⟨(some 81),.faddr 11 (.tmp 3),none,0⟩,
 ⟨(some 82),.load none (.tmp 81),none,0⟩,
 ⟨(some 83),.faddr 0 (.tmp 8),none,0⟩,
 ⟨(some 84),.load none (.tmp 83),none,0⟩,
 ⟨(some 85),.faddr 1 (.tmp 8),none,0⟩,
 ⟨(some 86),.load none (.tmp 85),none,0⟩,
 ⟨(some 87),.faddr 2 (.tmp 8),none,0⟩,
 ⟨(some 88),.load (some 2) (.tmp 87),none,0⟩,
 ⟨(some 89),.call 44 true [(.tmp 88)],none,0⟩,
 ⟨(some 90),.build [(.int .i64 0),(.bool false),(.int .i64 0),(.int .i64 0)] [(0,1,(.tmp 84)),(1,1,(.tmp 86)),(2,2,(.tmp 89))],none,0⟩,
 ⟨(some 91),.bslice 4 1 [(.int .i64 0),(.bool false),(.int .i64 0),(.int .i64 0)] [(0,(.tmp 90))],none,0⟩,
 ⟨(some 92),.append 4 32 (.tmp 82) (.tmp 91),none,1⟩,
 ⟨(some 93),.faddr 11 (.tmp 3),none,2⟩,
 ⟨none,.store none (.tmp 93) (.tmp 92),none,2⟩])))
 (.region 0 [] [
 ⟨(some 74),.mov (.tmp 7),none,0⟩,
 ⟨(some 75),.bin .add (.tmp 74) (.cst (.c (.int .i64 1))),none,0⟩,
 ⟨(some 7),.mov (.tmp 75),none,0⟩]))))))
 (.seq (.region 0 [] [
 ⟨(some 94),.load (some 12) (.tmp 3),none,0⟩,
 ⟨none,.store (some 12) (.tmp 2) (.tmp 94),none,0⟩])
 .ret))))))⟩
def f17 : AFunc:=⟨11,[.cell 2 (some 3)],false,
 (.seq (.region 2 [] [
 ⟨(some 1),.box (.tmp 0),none,0⟩,
 ⟨(some 2),.alloc [(.int .i64 0),(.int .i64 0),.nils],none,1⟩])
 (.seq (.region 0 [(0,2),(1,2),(0,3),(1,3),(0,4),(1,4),(2,4),(3,4),(0,5),(1,5),(2,5),(3,5),(0,6),(1,6),(2,6),(3,6)] [
 ⟨(some 3),.faddr 0 (.tmp 1),none,0⟩,
 ⟨(some 4),.load none (.tmp 3),none,0⟩,
 ⟨(some 5),.faddr 1 (.tmp 1),none,0⟩,
 ⟨(some 6),.load none (.tmp 5),none,0⟩,
 ⟨(some 7),.faddr 2 (.tmp 1),none,0⟩,
 ⟨(some 8),.load none (.tmp 7),none,0⟩,
 ⟨(some 9),.call 45 true [(.tmp 8)],none,0⟩,
 ⟨(some 10),.build [(.int .i64 0),(.int .i64 0),.nils] [(0,1,(.tmp 4)),(1,1,(.tmp 6)),(2,1,(.tmp 9))],none,0⟩,
 ⟨none,.store (some 3) (.tmp 2) (.tmp 10),none,0⟩])
 .ret))⟩
def f18 : AFunc:=⟨43,[.tmp 8,.tmp 9],false,
 (.seq (.region 2 [] [
 ⟨(some 4),.box (.tmp 0),none,0⟩,
 ⟨(some 5),.box (.tmp 1),none,1⟩,
 ⟨(some 8),.mov (.cst (.c .nils)),none,2⟩,
 ⟨(some 9),.mov (.cst (.c (.int .i64 0))),none,2⟩])
 (.seq (.seq (.region 0 [] [
 ⟨(some 12),.load (some 12) (.tmp 4),none,0⟩,
 ⟨(some 13),.call 40 true [(.tmp 12)],none,0⟩,
 ⟨(some 10),.mov (.tmp 13),none,0⟩])
 (.seq (.region 0 [] [
 ⟨(some 14),.mov (.tmp 10),none,0⟩,
 ⟨(some 15),.bin .neq (.tmp 14) (.cst (.c (.int .i64 0))),none,0⟩])
 (.cond (.tmp 15)
 (.seq (.region 0 [] [
 ⟨(some 16),.mov (.tmp 10),none,0⟩,
 ⟨(some 8),.mov (.cst (.c .nils)),none,0⟩,
 ⟨(some 9),.mov (.tmp 16),none,0⟩])
 .ret)
 .skip)))
 (.seq (.seq (.region 0 [] [
 ⟨(some 17),.load (some 12) (.tmp 4),none,0⟩,
 ⟨(some 18),.load (some 3) (.tmp 5),none,0⟩,
 ⟨(some 19),.call 41 true [(.tmp 17),(.tmp 18)],none,0⟩,
 ⟨(some 20),.not (.tmp 19),none,0⟩,
 ⟨(some 21),.mov (.tmp 20),none,0⟩,
 ⟨(some 22),.load (some 12) (.tmp 4),some (21,false),0⟩,
 ⟨(some 23),.mov (.tmp 2),some (21,false),0⟩,
 ⟨(some 24),.call 46 true [(.tmp 22),(.tmp 23)],some (21,false),0⟩,
 ⟨(some 25),.not (.tmp 24),some (21,false),0⟩,
 ⟨(some 26),.pick (.tmp 21) (.cst (.c (.bool true))) (.tmp 25),none,0⟩,
 ⟨(some 27),.mov (.tmp 26),none,0⟩,
 ⟨(some 28),.mov (.tmp 3),some (27,false),0⟩,
 ⟨(some 29),.call 47 true [(.tmp 28)],some (27,false),0⟩,
 ⟨(some 30),.not (.tmp 29),some (27,false),0⟩,
 ⟨(some 31),.pick (.tmp 27) (.cst (.c (.bool true))) (.tmp 30),none,0⟩])
 (.cond (.tmp 31)
 (.seq (.region 0 [] [
 ⟨(some 8),.mov (.cst (.c .nils)),none,0⟩,
 ⟨(some 9),.mov (.cst (.c (.int .i64 2))),none,0⟩])
 .ret)
 .skip))
 (.seq (.region 0 [] [
 ⟨(some 32),.load (some 12) (.tmp 4),none,0⟩,
 ⟨(some 33),.call 42 false [(.tmp 32)],none,0⟩,
 ⟨(some 11),.mov (.tmp 33),none,0⟩])
 (.seq (.region 0 [] [
 ⟨(some 34),.mov (.tmp 11),none,0⟩,
 ⟨(some 35),.mov (.tmp 11),none,0⟩,
 ⟨(some 36),.load (some 3) (.tmp 5),none,0⟩,
 ⟨(some 37),.call 43 false [(.tmp 35),(.tmp 36)],none,0⟩,
 ⟨(some 38),.mov (.tmp 2),none,0⟩,
 ⟨(some 39),.iaddr 2 (.tmp 37) (.tmp 38),none,0⟩,
 ⟨(some 40),.load (some 2) (.tmp 39),none,0⟩,
 ⟨(some 41),.mov (.tmp 3),none,0⟩,
 ⟨(some 42),.call 48 false [(.tmp 34),(.tmp 40),(.tmp 41)],none,0⟩,
 ⟨(some 8),.mov (.tmp 42),none,0⟩,
 ⟨(some 9),.mov (.cst (.c (.int .i64 0))),none,0⟩])
 .ret)))))⟩
def f19 : AFunc:=⟨35,[.tmp 2,.tmp 3],false,
 (.seq (.region 1 [] [
 ⟨(some 1),.box (.tmp 0),none,0⟩,
 ⟨(some 2),.mov (.cst (.c .nils)),none,1⟩,
 ⟨(some 3),.mov (.cst (.c (.int .i64 0))),none,1⟩])
 (.seq (.region 0 [] [
 ⟨(some 9),.load (some 12) (.tmp 1),none,0⟩,
 ⟨(some 10),.call 49 false [(.tmp 9),(.cst (.c (.bool true)))],none,0⟩,
 ⟨(some 8),.mov (.tmp 10),none,0⟩,
 ⟨(some 11),.extract 0 (.tmp 8),none,0⟩,
 ⟨(some 12),.extract 1 (.tmp 8),none,0⟩,
 ⟨(some 4),.mov (.tmp 11),none,0⟩,
 ⟨(some 5),.mov (.tmp 12),none,0⟩])
 (.seq (.seq (.region 0 [] [
 ⟨(some 13),.mov (.tmp 5),none,0⟩,
 ⟨(some 14),.bin .neq (.tmp 13) (.cst (.c (.int .i64 0))),none,0⟩])
 (.cond (.tmp 14)
 (.seq (.region 0 [] [
 ⟨(some 15),.mov (.tmp 5),none,0⟩,
 ⟨(some 2),.mov (.cst (.c .nils)),none,0⟩,
 ⟨(some 3),.mov (.tmp 15),none,0⟩])
 .ret)
 .skip))
 (.seq (.region 0 [] [
 ⟨(some 6),.mov (.cst (.c .nils)),none,0⟩])
 (.seq (.seq (.region 0 [] [
 ⟨(some 16),.load (some 12) (.tmp 1),none,0⟩,
 ⟨(some 17),.call 50 true [(.tmp 16)],none,0⟩,
 ⟨(some 18),.mov (.cst (.c (.int .i64 0))),none,0⟩])
 (.block 0 (.loop ⟨[7,19,20,21,22,23,24,25,26,27,28,29,30,31,32,33],false,[(6,none,4)]⟩
 (.seq (.region 0 [] [
 ⟨(some 19),.bin .lss (.tmp 18) (.tmp 17),none,0⟩])
 (.seq (.cond (.tmp 19)
 .skip
 (.exit 0))
 (.seq (.block 1 (.seq (.region 0 [] [
 ⟨(some 20),.mov (.tmp 18),none,0⟩,
 ⟨(some 7),.mov (.tmp 20),none,0⟩])
 (.region 2 [] [
 ⟨(some 21),.mov (.tmp 6),none,0⟩,
 ⟨(some 22),.build [.nilfn] [(0,1,(.cst (.c (.fn 51 false [] []))))],none,0⟩,
 ⟨(some 23),.mov (.tmp 4),none,0⟩,
 ⟨(some 24),.mov (.tmp 7),none,0⟩,
 ⟨(some 25),.call 52 false [(.tmp 22),(.tmp 23),(.tmp 24)],none,0⟩,
 ⟨(some 26),.build [.nilfn] [(0,1,(.cst (.c (.fn 53 false [] []))))],none,0⟩,
 ⟨(some 27),.mov (.tmp 4),none,0⟩,
 ⟨(some 28),.mov (.tmp 7),none,0⟩,
 ⟨(some 29),.call 52 false [(.tmp 26),(.tmp 27),(.tmp 28)],none,0⟩,
 ⟨(some 30),.build [(.int .i64 0),(.int .i64 0),(.int .i64 0),(.int .i64 0)] [(0,2,(.tmp 25)),(2,2,(.tmp 29))],none,0⟩,
 ⟨(some 31),.bslice 4 1 [(.int .i64 0),(.int .i64 0),(.int .i64 0),(.int .i64 0)] [(0,(.tmp 30))],none,0⟩,
 ⟨(some 32),.append 4 32 (.tmp 21) (.tmp 31),none,1⟩,
 ⟨(some 6),.mov (.tmp 32),none,2⟩])))
 (.region 0 [] [
 ⟨(some 33),.bin .add (.tmp 18) (.cst (.c (.int .i64 1))),none,0⟩,
 ⟨(some 18),.mov (.tmp 33),none,0⟩])))))))
 (.seq (.region 0 [] [
 ⟨(some 34),.mov (.tmp 6),none,0⟩,
 ⟨(some 2),.mov (.tmp 34),none,0⟩,
 ⟨(some 3),.mov (.cst (.c (.int .i64 0))),none,0⟩])
 .ret))))))⟩
def f20 : AFunc:=⟨29,[.cell 6 (some 2),.tmp 7],false,
 (.seq (.region 4 [] [
 ⟨(some 3),.box (.tmp 0),none,0⟩,
 ⟨(some 4),.box (.tmp 1),none,1⟩,
 ⟨(some 5),.box (.tmp 2),none,2⟩,
 ⟨(some 6),.alloc [(.int .i64 0),(.int .i64 0)],none,3⟩,
 ⟨(some 7),.mov (.cst (.c (.int .i64 0))),none,4⟩])
 (.seq (.region 1 [(0,1),(0,2),(1,2),(0,3),(0,4),(0,5),(0,6),(0,7),(10,11),(0,12),(1,12),(2,12),(3,12),(4,12),(5,12),(6,12),(7,12),(9,12),(10,12),(11,12),(11,13)] [
 ⟨(some 11),.load (some 12) (.tmp 3),none,0⟩,
 ⟨(some 12),.load (some 12) (.tmp 3),none,0⟩,
 ⟨(some 13),.load none (.tmp 4),none,0⟩,
 ⟨(some 14),.call 46 true [(.tmp 12),(.tmp 13)],none,0⟩,
 ⟨(some 15),.mov (.tmp 14),none,0⟩,
 ⟨(some 16),.load none (.tmp 5),some (15,true),0⟩,
 ⟨(some 17),.call 47 true [(.tmp 16)],some (15,true),0⟩,
 ⟨(some 18),.pick (.tmp 15) (.tmp 17) (.cst (.c (.bool false))),none,0⟩,
 ⟨(some 19),.call 49 false [(.tmp 11),(.tmp 18)],none,0⟩,
 ⟨(some 10),.mov (.tmp 19),none,0⟩,
 ⟨(some 20),.extract 0 (.tmp 10),none,0⟩,
 ⟨(some 21),.extract 1 (.tmp 10),none,0⟩,
 ⟨(some 8),.alloc [.nilp],none,0⟩,
 ⟨none,.store none (.tmp 8) (.tmp 20),none,1⟩,
 ⟨(some 9),.mov (.tmp 21),none,1⟩])
 (.seq (.seq (.region 0 [] [
 ⟨(some 22),.mov (.tmp 9),none,0⟩,
 ⟨(some 23),.bin .neq (.tmp 22) (.cst (.c (.int .i64 0))),none,0⟩])
 (.cond (.tmp 23)
 (.seq (.region 0 [] [
 ⟨(some 24),.build [(.int .i64 0),(.int .i64 0)] [],none,0⟩,
 ⟨(some 25),.mov (.tmp 9),none,0⟩,
 ⟨none,.store (some 2) (.tmp 6) (.tmp 24),none,0⟩,
 ⟨(some 7),.mov (.tmp 25),none,0⟩])
 .ret)
 .skip))
 (.seq (.region 0 [] [
 ⟨(some 26),.load none (.tmp 8),none,0⟩,
 ⟨(some 27),.mkfn 55 none [(.tmp 8),(.tmp 4),(.tmp 5)],none,0⟩,
 ⟨(some 28),.call 54 false [(.tmp 26),(.tmp 27)],none,0⟩,
 ⟨none,.store (some 2) (.tmp 6) (.tmp 28),none,0⟩,
 ⟨(some 7),.mov (.cst (.c (.int .i64 0))),none,0⟩])
 .ret))))⟩
def f21 : AFunc:=⟨18,[.tmp 2],false,
 (.seq (.region 0 [] [
 ⟨(some 2),.mov (.cst (.c (.int .i64 0))),none,0⟩])
 (.seq (.region 0 [] [
 ⟨(some 3),.mov (.cst (.c (.int .i64 0))),none,0⟩])
 (.seq (.seq (.region 0 [] [
 ⟨(some 4),.mov (.cst (.c (.int .i64 0))),none,0⟩])
 (.block 0 (.loop ⟨[5,6,7,8,9,10,11,12,13,14,15,16],false,[]⟩
 (.seq (.seq (.region 0 [] [
 ⟨(some 5),.mov (.tmp 4),none,0⟩,
 ⟨(some 6),.mov (.tmp 0),none,0⟩,
 ⟨(some 7),.len (.tmp 6),none,0⟩,
 ⟨(some 8),.bin .lss (.tmp 5) (.tmp 7),none,0⟩])
 (.cond (.tmp 8)
 .skip
 (.exit 0)))
 (.seq (.block 1 (.region 0 [] [
 ⟨(some 11),.mov (.tmp 3),none,0⟩,
 ⟨(some 12),.mov (.tmp 0),none,0⟩,
 ⟨(some 13),.mov (.tmp 4),none,0⟩,
 ⟨(some 14),.iaddr 1 (.tmp 12) (.tmp 13),none,0⟩,
 ⟨(some 15),.load none (.tmp 14),none,0⟩,
 ⟨(some 16),.bin .add (.tmp 11) (.tmp 15),none,0⟩,
 ⟨(some 3),.mov (.tmp 16),none,0⟩]))
 (.region 0 [] [
 ⟨(some 9),.mov (.tmp 4),none,0⟩,
 ⟨(some 10),.bin .add (.tmp 9) (.cst (.c (.int .i64 1))),none,0⟩,
 ⟨(some 4),.mov (.tmp 10),none,0⟩]))))))
 (.seq (.region 0 [] [
 ⟨(some 17),.mov (.tmp 3),none,0⟩,
 ⟨(some 2),.mov (.tmp 17),none,0⟩])
 .ret))))⟩
def f22 : AFunc:=⟨22,[.tmp 2],false,
 (.seq (.region 1 [] [
 ⟨(some 1),.box (.tmp 0),none,0⟩,
 ⟨(some 2),.mov (.cst (.c (.int .i64 0))),none,1⟩])
 (.seq (.region 0 [] [
 ⟨(some 3),.mov (.cst (.c (.int .i64 1))),none,0⟩])
 (.seq (.seq (.region 0 [] [
 ⟨(some 4),.mov (.cst (.c (.int .i64 0))),none,0⟩])
 (.block 0 (.loop ⟨[5,6,7,8,9,10,11,12,13,14,15,16,17,18,19,20],false,[]⟩
 (.seq (.seq (.region 0 [] [
 ⟨(some 5),.mov (.tmp 4),none,0⟩,
 ⟨(some 6),.faddr 0 (.tmp 1),none,0⟩,
 ⟨(some 7),.load none (.tmp 6),none,0⟩,
 ⟨(some 8),.len (.tmp 7),none,0⟩,
 ⟨(some 9),.bin .lss (.tmp 5) (.tmp 8),none,0⟩])
 (.cond (.tmp 9)
 .skip
 (.exit 0)))
 (.seq (.block 1 (.region 0 [] [
 ⟨(some 12),.mov (.tmp 3),none,0⟩,
 ⟨(some 13),.faddr 0 (.tmp 1),none,0⟩,
 ⟨(some 14),.load none (.tmp 13),none,0⟩,
 ⟨(some 15),.mov (.tmp 4),none,0⟩,
 ⟨(some 16),.iaddr 2 (.tmp 14) (.tmp 15),none,0⟩,
 ⟨(some 17),.load (some 2) (.tmp 16),none,0⟩,
 ⟨(some 18),.call 56 true [(.tmp 17)],none,0⟩,
 ⟨(some 19),.bin .mul (.tmp 12) (.tmp 18),none,0⟩,
 ⟨(some 20),.mm false (.cst (.c (.int .i64 3000))) (.tmp 19),none,0⟩,
 ⟨(some 3),.mov (.tmp 20),none,0⟩]))
 (.region 0 [] [
 ⟨(some 10),.mov (.tmp 4),none,0⟩,
 ⟨(some 11),.bin .add (.tmp 10) (.cst (.c (.int .i64 1))),none,0⟩,
 ⟨(some 4),.mov (.tmp 11),none,0⟩]))))))
 (.seq (.region 0 [] [
 ⟨(some 21),.mov (.tmp 3),none,0⟩,
 ⟨(some 2),.mov (.tmp 21),none,0⟩])
 .ret))))⟩
def f23 : AFunc:=⟨24,[.tmp 6],false,
 (.seq (.region 1 [] [
 ⟨(some 3),.box (.tmp 0),none,0⟩,
 ⟨(some 6),.mov (.cst (.c (.bool false))),none,1⟩])
 (.seq (.region 0 [] [
 ⟨(some 7),.faddr 0 (.tmp 3),none,0⟩,
 ⟨(some 8),.load none (.tmp 7),none,0⟩,
 ⟨(some 9),.mov (.tmp 1),none,0⟩,
 ⟨(some 10),.bin .geq (.tmp 8) (.tmp 9),none,0⟩,
 ⟨(some 11),.mov (.tmp 10),none,0⟩,
 ⟨(some 12),.faddr 0 (.tmp 3),some (11,true),0⟩,
 ⟨(some 13),.load none (.tmp 12),some (11,true),0⟩,
 ⟨(some 14),.faddr 1 (.tmp 3),some (11,true),0⟩,
 ⟨(some 15),.load none (.tmp 14),some (11,true),0⟩,
 ⟨(some 16),.bin .leq (.tmp 13) (.tmp 15),some (11,true),0⟩,
 ⟨(some 17),.pick (.tmp 11) (.tmp 16) (.cst (.c (.bool false))),none,0⟩,
 ⟨(some 18),.mov (.tmp 17),none,0⟩,
 ⟨(some 19),.faddr 1 (.tmp 3),some (18,true),0⟩,
 ⟨(some 20),.load none (.tmp 19),some (18,true),0⟩,
 ⟨(some 21),.mov (.tmp 2),some (18,true),0⟩,
 ⟨(some 22),.bin .leq (.tmp 20) (.tmp 21),some (18,true),0⟩,
 ⟨(some 23),.pick (.tmp 18) (.tmp 22) (.cst (.c (.bool false))),none,0⟩,
 ⟨(some 6),.mov (.tmp 23),none,0⟩])
 .ret))⟩
def f24 : AFunc:=⟨24,[.tmp 4],false,
 (.seq (.region 1 [] [
 ⟨(some 2),.box (.tmp 0),none,0⟩,
 ⟨(some 4),.mov (.cst (.c (.bool false))),none,1⟩])
 (.seq (.seq (.region 0 [] [
 ⟨(some 5),.mov (.cst (.c (.int .i64 0))),none,0⟩])
 (.block 0 (.loop ⟨[4,6,7,8,9,10,11,12,13,14,15,16,17],false,[]⟩
 (.seq (.seq (.region 0 [] [
 ⟨(some 6),.mov (.tmp 5),none,0⟩,
 ⟨(some 7),.mov (.tmp 1),none,0⟩,
 ⟨(some 8),.len (.tmp 7),none,0⟩,
 ⟨(some 9),.bin .lss (.tmp 6) (.tmp 8),none,0⟩])
 (.cond (.tmp 9)
 .skip
 (.exit 0)))
 (.seq (.block 1 (.seq (.region 0 [] [
 ⟨(some 12),.mov (.tmp 1),none,0⟩,
 ⟨(some 13),.mov (.tmp 5),none,0⟩,
 ⟨(some 14),.iaddr 1 (.tmp 12) (.tmp 13),none,0⟩,
 ⟨(some 15),.load none (.tmp 14),none,0⟩,
 ⟨(some 16),.call 26 true [(.tmp 15),(.cst (.c (.int .i64 0))),(.cst (.c (.int .i64 30)))],none,0⟩,
 ⟨(some 17),.not (.tmp 16),none,0⟩])
 (.cond (.tmp 17)
 (.seq (.region 0 [] [
 ⟨(some 4),.mov (.cst (.c (.bool false))),none,0⟩])
 .ret)
 .skip)))
 (.region 0 [] [
 ⟨(some 10),.mov (.tmp 5),none,0⟩,
 ⟨(some 11),.bin .add (.tmp 10) (.cst (.c (.int .i64 1))),none,0⟩,
 ⟨(some 5),.mov (.tmp 11),none,0⟩]))))))
 (.seq (.region 0 [] [
 ⟨(some 18),.mov (.tmp 1),none,0⟩,
 ⟨(some 19),.len (.tmp 18),none,0⟩,
 ⟨(some 20),.faddr 0 (.tmp 2),none,0⟩,
 ⟨(some 21),.load none (.tmp 20),none,0⟩,
 ⟨(some 22),.len (.tmp 21),none,0⟩,
 ⟨(some 23),.bin .eql (.tmp 19) (.tmp 22),none,0⟩,
 ⟨(some 4),.mov (.tmp 23),none,0⟩])
 .ret)))⟩
def f25 : AFunc:=⟨18,[.tmp 2],false,
 (.seq (.region 0 [] [
 ⟨(some 2),.mov (.cst (.c (.int .i64 0))),none,0⟩])
 (.seq (.region 0 [] [
 ⟨(some 3),.mov (.cst (.c (.int .i64 0))),none,0⟩])
 (.seq (.seq (.region 0 [] [
 ⟨(some 4),.mov (.cst (.c (.int .i64 0))),none,0⟩])
 (.block 0 (.loop ⟨[5,6,7,8,9,10,11,12,13,14,15,16],false,[]⟩
 (.seq (.seq (.region 0 [] [
 ⟨(some 5),.mov (.tmp 4),none,0⟩,
 ⟨(some 6),.mov (.tmp 0),none,0⟩,
 ⟨(some 7),.len (.tmp 6),none,0⟩,
 ⟨(some 8),.bin .lss (.tmp 5) (.tmp 7),none,0⟩])
 (.cond (.tmp 8)
 .skip
 (.exit 0)))
 (.seq (.block 1 (.region 0 [] [
 ⟨(some 11),.mov (.tmp 3),none,0⟩,
 ⟨(some 12),.mov (.tmp 0),none,0⟩,
 ⟨(some 13),.mov (.tmp 4),none,0⟩,
 ⟨(some 14),.iaddr 1 (.tmp 12) (.tmp 13),none,0⟩,
 ⟨(some 15),.load none (.tmp 14),none,0⟩,
 ⟨(some 16),.bin .add (.tmp 11) (.tmp 15),none,0⟩,
 ⟨(some 3),.mov (.tmp 16),none,0⟩]))
 (.region 0 [] [
 ⟨(some 9),.mov (.tmp 4),none,0⟩,
 ⟨(some 10),.bin .add (.tmp 9) (.cst (.c (.int .i64 1))),none,0⟩,
 ⟨(some 4),.mov (.tmp 10),none,0⟩]))))))
 (.seq (.region 0 [] [
 ⟨(some 17),.mov (.tmp 3),none,0⟩,
 ⟨(some 2),.mov (.tmp 17),none,0⟩])
 .ret))))⟩
def f26 : AFunc:=⟨15,[.tmp 6],false,
 (.seq (.region 0 [] [
 ⟨(some 6),.mov (.cst (.c (.bool false))),none,0⟩])
 (.seq (.region 0 [] [
 ⟨(some 7),.mov (.tmp 0),none,0⟩,
 ⟨(some 8),.mov (.tmp 1),none,0⟩,
 ⟨(some 9),.bin .geq (.tmp 7) (.tmp 8),none,0⟩,
 ⟨(some 10),.mov (.tmp 9),none,0⟩,
 ⟨(some 11),.mov (.tmp 0),some (10,true),0⟩,
 ⟨(some 12),.mov (.tmp 2),some (10,true),0⟩,
 ⟨(some 13),.bin .leq (.tmp 11) (.tmp 12),some (10,true),0⟩,
 ⟨(some 14),.pick (.tmp 10) (.tmp 13) (.cst (.c (.bool false))),none,0⟩,
 ⟨(some 6),.mov (.tmp 14),none,0⟩])
 .ret))⟩
def f27 : AFunc:=⟨15,[.tmp 6],false,
 (.seq (.region 0 [] [
 ⟨(some 6),.mov (.cst (.c (.bool false))),none,0⟩])
 (.seq (.region 0 [] [
 ⟨(some 7),.mov (.tmp 0),none,0⟩,
 ⟨(some 8),.mov (.tmp 1),none,0⟩,
 ⟨(some 9),.bin .geq (.tmp 7) (.tmp 8),none,0⟩,
 ⟨(some 10),.mov (.tmp 9),none,0⟩,
 ⟨(some 11),.mov (.tmp 0),some (10,true),0⟩,
 ⟨(some 12),.mov (.tmp 2),some (10,true),0⟩,
 ⟨(some 13),.bin .leq (.tmp 11) (.tmp 12),some (10,true),0⟩,
 ⟨(some 14),.pick (.tmp 10) (.tmp 13) (.cst (.c (.bool false))),none,0⟩,
 ⟨(some 6),.mov (.tmp 14),none,0⟩])
 .ret))⟩
def f28 : AFunc:=⟨24,[.tmp 6],false,
 (.seq (.region 1 [] [
 ⟨(some 3),.box (.tmp 0),none,0⟩,
 ⟨(some 6),.mov (.cst (.c (.bool false))),none,1⟩])
 (.seq (.region 0 [] [
 ⟨(some 7),.faddr 0 (.tmp 3),none,0⟩,
 ⟨(some 8),.load none (.tmp 7),none,0⟩,
 ⟨(some 9),.mov (.tmp 1),none,0⟩,
 ⟨(some 10),.bin .geq (.tmp 8) (.tmp 9),none,0⟩,
 ⟨(some 11),.mov (.tmp 10),none,0⟩,
 ⟨(some 12),.faddr 0 (.tmp 3),some (11,true),0⟩,
 ⟨(some 13),.load none (.tmp 12),some (11,true),0⟩,
 ⟨(some 14),.faddr 1 (.tmp 3),some (11,true),0⟩,
 ⟨(some 15),.load none (.tmp 14),some (11,true),0⟩,
 ⟨(some 16),.bin .leq (.tmp 13) (.tmp 15),some (11,true),0⟩,
 ⟨(some 17),.pick (.tmp 11) (.tmp 16) (.cst (.c (.bool false))),none,0⟩,
 ⟨(some 18),.mov (.tmp 17),none,0⟩,
 ⟨(some 19),.faddr 1 (.tmp 3),some (18,true),0⟩,
 ⟨(some 20),.load none (.tmp 19),some (18,true),0⟩,
 ⟨(some 21),.mov (.tmp 2),some (18,true),0⟩,
 ⟨(some 22),.bin .leq (.tmp 20) (.tmp 21),some (18,true),0⟩,
 ⟨(some 23),.pick (.tmp 18) (.tmp 22) (.cst (.c (.bool false))),none,0⟩,
 ⟨(some 6),.mov (.tmp 23),none,0⟩])
 .ret))⟩
def f29 : AFunc:=⟨35,[.tmp 4],false,
 (.seq (.region 1 [] [
 ⟨(some 2),.box (.tmp 0),none,0⟩,
 ⟨(some 4),.mov (.cst (.c .nils)),none,1⟩])
 (.seq (.region 0 [] [
 ⟨(some 5),.mov (.cst (.c .nils)),none,0⟩])
 (.seq (.seq (.region 0 [] [
 ⟨(some 6),.mov (.cst (.c (.int .i64 0))),none,0⟩])
 (.block 0 (.loop ⟨[7,8,9,10,11,12,13,14,15,16,17,18,19,20,21,22,23,24,25,26,27,28,29,30,31,32,33],true,[(5,none,1)]⟩
 (.seq (.seq (.region 0 [] [
 ⟨(some 8),.mov (.tmp 6),none,0⟩,
 ⟨(some 9),.faddr 0 (.tmp 2),none,0⟩,
 ⟨(some 10),.load none (.tmp 9),none,0⟩,
 ⟨(some 11),.len (.tmp 10),none,0⟩,
 ⟨(some 12),.bin .lss (.tmp 8) (.tmp 11),none,0⟩])
 (.cond (.tmp 12)
 .skip
 (.exit 0)))
 (.seq (.block 1 (.seq (.region 1 [] [
 ⟨(some 15),.faddr 0 (.tmp 2),none,0⟩,
 ⟨(some 16),.load none (.tmp 15),none,0⟩,
 ⟨(some 17),.mov (.tmp 6),none,0⟩,
 ⟨(some 18),.iaddr 2 (.tmp 16) (.tmp 17),none,0⟩,
 ⟨(some 19),.load (some 2) (.tmp 18),none,0⟩,
 ⟨(some 7),.alloc [(.int .i64 0),(.int .i64 0)],none,0⟩,
 ⟨none,.store (some 2) (.tmp 7) (.tmp 19),none,1⟩])
 (.region 2 [(0,1),(0,2),(0,3),(1,3),(2,3),(0,4),(1,4),(2,4),(3,4),(0,5),(1,5),(2,5),(3,5),(0,6),(1,6),(2,6),(0,7),(0,8),(0,10),(1,10),(2,10),(3,10),(4,10),(5,10),(6,10),(7,10),(8,10),(9,10),(0,11),(1,11),(2,11),(3,11),(4,11),(5,11),(6,11),(7,11),(8,11),(9,11),(10,11),(10,12),(10,14),(13,14)] [
 ⟨(some 20),.mov (.tmp 5),none,0⟩,
 ⟨(some 21),.faddr 0 (.tmp 7),none,0⟩,
 ⟨(some 22),.load none (.tmp 21),none,0⟩,
 ⟨(some 23),.mov (.tmp 1),none,0⟩,
 ⟨(some 24),.load (some 2) (.tmp 7),none,0⟩,
 ⟨(some 25),.call 56 true [(.tmp 24)],none,0⟩,
 ⟨(some 26),.bin .rem (.tmp 23) (.tmp 25),none,0⟩,
 ⟨(some 27),.bin .add (.tmp 22) (.tmp 26),none,0⟩,
 ⟨(some 28),.bslice 1 1 [(.int .i64 0)] [(0,(.tmp 27))],none,0⟩,
 ⟨(some 29),.append 1 8 (.tmp 20) (.tmp 28),none,1⟩,
 ⟨(some 30),.mov (.tmp 1),none,2⟩,
 ⟨(some 31),.load (some 2) (.tmp 7),none,2⟩,
 ⟨(some 32),.call 56 true [(.tmp 31)],none,2⟩,
 ⟨(some 33),.bin .quo (.tmp 30) (.tmp 32),none,2⟩,
 ⟨(some 5),.mov (.tmp 29),none,2⟩,
 ⟨(some 1),.mov (.tmp 33),none,2⟩])))
 (.region 0 [] [
 ⟨(some 13),.mov (.tmp 6),none,0⟩,
 ⟨(some 14),.bin .add (.tmp 13) (.cst (.c (.int .i64 1))),none,0⟩,
 ⟨(some 6),.mov (.tmp 14),none,0⟩]))))))
 (.seq (.region 0 [] [
 ⟨(some 34),.mov (.tmp 5),none,0⟩,
 ⟨(some 4),.mov (.tmp 34),none,0⟩])
 .ret))))⟩
def f30 : AFunc:=⟨26,[.tmp 4],false,
 (.seq (.region 1 [] [
 ⟨(some 2),.box (.tmp 0),none,0⟩,
 ⟨(some 4),.mov (.cst (.c (.bool false))),none,1⟩])
 (.seq (.seq (.region 0 [] [
 ⟨(some 6),.load (some 3) (.tmp 2),none,0⟩,
 ⟨(some 7),.mov (.tmp 1),none,0⟩,
 ⟨(some 8),.call 57 true [(.tmp 6),(.tmp 7)],none,0⟩,
 ⟨(some 9),.not (.tmp 8),none,0⟩])
 (.cond (.tmp 9)
 (.seq (.region 0 [] [
 ⟨(some 4),.mov (.cst (.c (.bool false))),none,0⟩])
 .ret)
 .skip))
 (.seq (.seq (.region 0 [] [
 ⟨(some 5),.mov (.cst (.c (.int .i64 0))),none,0⟩])
 (.block 0 (.loop ⟨[4,10,11,12,13,14,15,16,17,18,19,20,21,22,23,24,25],false,[]⟩
 (.seq (.seq (.region 0 [] [
 ⟨(some 10),.mov (.tmp 5),none,0⟩,
 ⟨(some 11),.faddr 2 (.tmp 2),none,0⟩,
 ⟨(some 12),.load none (.tmp 11),none,0⟩,
 ⟨(some 13),.len (.tmp 12),none,0⟩,
 ⟨(some 14),.bin .lss (.tmp 10) (.tmp 13),none,0⟩])
 (.cond (.tmp 14)
 .skip
 (.exit 0)))
 (.seq (.block 1 (.seq (.region 0 [(0,1),(0,2),(1,2),(0,3),(1,3),(0,4),(1,4),(2,4),(3,4),(0,5),(1,5),(0,6),(1,6)] [
 ⟨(some 17),.load (some 3) (.tmp 2),none,0⟩,
 ⟨(some 18),.mov (.tmp 1),none,0⟩,
 ⟨(some 19),.faddr 2 (.tmp 2),none,0⟩,
 ⟨(some 20),.load none (.tmp 19),none,0⟩,
 ⟨(some 21),.mov (.tmp 5),none,0⟩,
 ⟨(some 22),.iaddr 4 (.tmp 20) (.tmp 21),none,0⟩,
 ⟨(some 23),.load (some 4) (.tmp 22),none,0⟩,
 ⟨(some 24),.call 58 true [(.tmp 17),(.tmp 18),(.tmp 23)],none,0⟩,
 ⟨(some 25),.not (.tmp 24),none,0⟩])
 (.cond (.tmp 25)
 (.seq (.region 0 [] [
 ⟨(some 4),.mov (.cst (.c (.bool false))),none,0⟩])
 .ret)
 .skip)))
 (.region 0 [] [
 ⟨(some 15),.mov (.tmp 5),none,0⟩,
 ⟨(some 16),.bin .add (.tmp 15) (.cst (.c (.int .i64 1))),none,0⟩,
 ⟨(some 5),.mov (.tmp 16),none,0⟩]))))))
 (.seq (.region 0 [] [
 ⟨(some 4),.mov (.cst (.c (.bool true))),none,0⟩])
 .ret))))⟩
def f31 : AFunc:=⟨64,[.tmp 4,.tmp 5],false,
 (.seq (.region 1 [] [
 ⟨(some 2),.box (.tmp 0),none,0⟩,
 ⟨(some 4),.mov (.cst (.c .nilp)),none,1⟩,
 ⟨(some 5),.mov (.cst (.c (.int .i64 0))),none,1⟩])
 (.seq (.seq (.region 0 [] [
 ⟨(some 9),.load (some 3) (.tmp 2),none,0⟩,
 ⟨(some 10),.call 36 true [(.tmp 9)],none,0⟩,
 ⟨(some 6),.mov (.tmp 10),none,0⟩])
 (.block 0 (.seq (.region 0 [] [
 ⟨(some 12),.mov (.tmp 6),none,0⟩,
 ⟨(some 13),.bin .neq (.tmp 12) (.cst (.c (.int .i64 0))),none,0⟩,
 ⟨(some 11),.mov (.tmp 13),none,0⟩])
 (.cond (.tmp 11)
 (.seq (.region 0 [] [
 ⟨(some 14),.mov (.tmp 6),none,0⟩,
 ⟨(some 4),.mov (.cst (.c .nilp)),none,0⟩,
 ⟨(some 5),.mov (.tmp 14),none,0⟩])
 .ret)
 (.seq (.region 0 [] [
 ⟨(some 16),.mov (.tmp 1),none,0⟩,
 ⟨(some 17),.callv (.tmp 16) [],none,0⟩,
 ⟨(some 18),.not (.tmp 17),none,0⟩,
 ⟨(some 15),.mov (.tmp 18),none,0⟩])
 (.cond (.tmp 15)
 (.seq (.region 0 [] [
 ⟨(some 4),.mov (.cst (.c .nilp)),none,0⟩,
 ⟨(some 5),.mov (.cst (.c (.int .i64 2))),none,0⟩])
 .ret)
 .skip))))))
 (.seq (.region 2 [] [
 ⟨(some 19),.load (some 3) (.tmp 2),none,0⟩,
 ⟨(some 20),.build [.nils,.nils,.nils,.nils] [(0,3,(.tmp 19))],none,0⟩,
 ⟨(some 21),.box (.tmp 20),none,0⟩,
 ⟨(some 7),.alloc [.nilp],none,1⟩,
 ⟨none,.store none (.tmp 7) (.tmp 21),none,2⟩])
 (.seq (.seq (.region 0 [] [
 ⟨(some 22),.load (some 3) (.tmp 2),none,0⟩,
 ⟨(some 23),.call 59 false [(.tmp 22),(.cst (.c .nils))],none,0⟩])
 (.block 1 (.range (.tmp 23) [24]
 (.region 1 [] [
 ⟨(some 8),.alloc [(.int .i64 0),(.int .i64 0),(.int .i64 0)],none,0⟩,
 ⟨none,.store (some 3) (.tmp 8) (.tmp 24),none,1⟩])
 (.block 2 (.seq (.region 0 [(7,11),(8,11),(9,11),(10,11),(7,12),(8,12),(9,12),(10,12),(7,13),(8,13),(9,13),(10,13),(7,14),(8,14),(9,14),(10,14),(7,15),(8,15),(9,15),(10,15),(7,16),(8,16),(9,16),(10,16),(7,19),(8,19),(9,19),(10,19),(11,19),(12,19),(13,19),(14,19),(15,19),(16,19),(17,19),(18,19)] [
 ⟨(some 25),.load none (.tmp 7),none,0⟩,
 ⟨(some 26),.nilchk (.tmp 25),none,0⟩,
 ⟨(some 27),.faddr 3 (.tmp 26),none,0⟩,
 ⟨(some 28),.load none (.tmp 27),none,0⟩,
 ⟨(some 29),.len (.tmp 28),none,0⟩,
 ⟨(some 30),.bin .eql (.tmp 29) (.cst (.c (.int .i64 0))),none,0⟩,
 ⟨(some 31),.mov (.tmp 30),none,0⟩,
 ⟨(some 32),.load none (.tmp 7),some (31,false),0⟩,
 ⟨(some 33),.nilchk (.tmp 32),some (31,false),0⟩,
 ⟨(some 34),.faddr 3 (.tmp 33),some (31,false),0⟩,
 ⟨(some 35),.load none (.tmp 34),some (31,false),0⟩,
 ⟨(some 36),.load none (.tmp 7),some (31,false),0⟩,
 ⟨(some 37),.nilchk (.tmp 36),some (31,false),0⟩,
 ⟨(some 38),.faddr 3 (.tmp 37),some (31,false),0⟩,
 ⟨(some 39),.load none (.tmp 38),some (31,false),0⟩,
 ⟨(some 40),.len (.tmp 39),some (31,false),0⟩,
 ⟨(some 41),.bin .sub (.tmp 40) (.cst (.c (.int .i64 1))),some (31,false),0⟩,
 ⟨(some 42),.iaddr 3 (.tmp 35) (.tmp 41),some (31,false),0⟩,
 ⟨(some 43),.load (some 3) (.tmp 42),some (31,false),0⟩,
 ⟨(some 44),.load (some 3) (.tmp 8),some (31,false),0⟩,
 ⟨(some 45),.eqA true [(some .i64),(some .i64),(some .i64)] (.tmp 43) (.tmp 44),some (31,false),0⟩,
 ⟨(some 46),.pick (.tmp 31) (.cst (.c (.bool true))) (.tmp 45),none,0⟩])
 (.cond (.tmp 46)
 (.region 2 [(0,1),(0,2),(0,3),(0,4),(0,5),(1,5),(2,5),(3,5),(4,5),(0,6),(1,6),(2,6),(3,6),(4,6),(0,7)] [
 ⟨(some 47),.load none (.tmp 7),none,0⟩,
 ⟨(some 48),.load none (.tmp 7),none,0⟩,
 ⟨(some 49),.nilchk (.tmp 48),none,0⟩,
 ⟨(some 50),.faddr 3 (.tmp 49),none,0⟩,
 ⟨(some 51),.load none (.tmp 50),none,0⟩,
 ⟨(some 52),.load (some 3) (.tmp 8),none,0⟩,
 ⟨(some 53),.bslice 3 1 [(.int .i64 0),(.int .i64 0),(.int .i64 0)] [(0,(.tmp 52))],none,0⟩,
 ⟨(some 54),.append 3 24 (.tmp 51) (.tmp 53),none,1⟩,
 ⟨(some 55),.nilchk (.tmp 47),none,2⟩,
 ⟨(some 56),.faddr 3 (.tmp 55),none,2⟩,
 ⟨none,.store none (.tmp 56) (.tmp 54),none,2⟩])
 .skip))))))
 (.seq (.seq (.region 0 [] [
 ⟨(some 57),.load none (.tmp 7),none,0⟩,
 ⟨(some 58),.nilchk (.tmp 57),none,0⟩,
 ⟨(some 59),.faddr 3 (.tmp 58),none,0⟩,
 ⟨(some 60),.load none (.tmp 59),none,0⟩,
 ⟨(some 61),.len (.tmp 60),none,0⟩,
 ⟨(some 62),.bin .eql (.tmp 61) (.cst (.c (.int .i64 0))),none,0⟩])
 (.cond (.tmp 62)
 (.seq (.region 0 [] [
 ⟨(some 4),.mov (.cst (.c .nilp)),none,0⟩,
 ⟨(some 5),.mov (.cst (.c (.int .i64 11))),none,0⟩])
 .ret)
 .skip))
 (.seq (.region 0 [] [
 ⟨(some 63),.load none (.tmp 7),none,0⟩,
 ⟨(some 4),.mov (.tmp 63),none,0⟩,
 ⟨(some 5),.mov (.cst (.c (.int .i64 0))),none,0⟩])
 .ret))))))⟩
def f32 : AFunc:=⟨1,[.tmp 0],false,
 (.seq (.region 0 [] [
 ⟨(some 0),.mov (.cst (.c (.bool false))),none,0⟩])
 (.seq (.region 0 [] [
 ⟨(some 0),.mov (.cst (.c (.bool true))),none,0⟩])
 .ret))⟩
def f33 : AFunc:=⟨44,[.cell 4 (some 2)],false,
 (.seq (.region 1 [] [
 ⟨(some 4),.alloc [(.int .i64 0),(.int .i64 0)],none,0⟩])
 (.seq (.region 0 [(0,4),(1,4),(2,4),(3,4),(0,5),(1,5),(2,5),(3,5),(0,6),(1,6),(2,6),(3,6),(0,7),(1,7),(2,7),(3,7),(0,8),(1,8),(2,8),(3,8),(0,9),(1,9),(2,9),(3,9),(0,10),(1,10),(2,10),(3,10),(4,10),(5,10),(6,10),(7,10),(8,10),(9,10)] [
 ⟨(some 9),.mov (.tmp 0),none,0⟩,
 ⟨(some 10),.nilchk (.tmp 9),none,0⟩,
 ⟨(some 11),.faddr 0 (.tmp 10),none,0⟩,
 ⟨(some 12),.load (some 3) (.tmp 11),none,0⟩,
 ⟨(some 13),.mov (.tmp 0),none,0⟩,
 ⟨(some 14),.nilchk (.tmp 13),none,0⟩,
 ⟨(some 15),.faddr 3 (.tmp 14),none,0⟩,
 ⟨(some 16),.load none (.tmp 15),none,0⟩,
 ⟨(some 17),.iaddr 3 (.tmp 16) (.cst (.c (.int .i64 0))),none,0⟩,
 ⟨(some 18),.load (some 3) (.tmp 17),none,0⟩,
 ⟨(some 19),.mov (.tmp 1),none,0⟩,
 ⟨(some 20),.call 60 true [(.tmp 12),(.tmp 18),(.tmp 19)],none,0⟩,
 ⟨(some 5),.mov (.tmp 20),none,0⟩])
 (.seq (.region 1 [] [
 ⟨(some 21),.mov (.tmp 5),none,0⟩,
 ⟨(some 22),.mov (.tmp 5),none,0⟩,
 ⟨(some 23),.build [(.int .i64 0),(.int .i64 0)] [(0,1,(.tmp 21)),(1,1,(.tmp 22))],none,0⟩,
 ⟨(some 6),.alloc [(.int .i64 0),(.int .i64 0)],none,0⟩,
 ⟨none,.store (some 2) (.tmp 6) (.tmp 23),none,1⟩])
 (.seq (.seq (.region 0 [] [
 ⟨(some 24),.mov (.tmp 0),none,0⟩,
 ⟨(some 25),.nilchk (.tmp 24),none,0⟩,
 ⟨(some 26),.faddr 3 (.tmp 25),none,0⟩,
 ⟨(some 27),.load none (.tmp 26),none,0⟩,
 ⟨(some 28),.len (.tmp 27),none,0⟩,
 ⟨(some 29),.mov (.cst (.c (.int .i64 0))),none,0⟩])
 (.block 0 (.loop ⟨[8,30,31,32,33,34,35,36,37,38,39,40,41,42],false,[]⟩
 (.seq (.region 0 [] [
 ⟨(some 30),.bin .lss (.tmp 29) (.tmp 28),none,0⟩])
 (.seq (.cond (.tmp 30)
 .skip
 (.exit 0))
 (.seq (.block 1 (.seq (.region 1 [] [
 ⟨(some 31),.iaddr 3 (.tmp 27) (.tmp 29),none,0⟩,
 ⟨(some 32),.load (some 3) (.tmp 31),none,0⟩,
 ⟨(some 8),.alloc [(.int .i64 0),(.int .i64 0),(.int .i64 0)],none,0⟩,
 ⟨none,.store (some 3) (.tmp 8) (.tmp 32),none,1⟩])
 (.region 0 [(0,1),(0,2),(0,3),(0,4),(0,5),(1,5),(2,5),(3,5),(4,5),(0,6),(1,6),(2,6),(3,6),(4,6),(5,6),(0,7)] [
 ⟨(some 33),.load (some 2) (.tmp 6),none,0⟩,
 ⟨(some 34),.mov (.tmp 0),none,0⟩,
 ⟨(some 35),.nilchk (.tmp 34),none,0⟩,
 ⟨(some 36),.faddr 0 (.tmp 35),none,0⟩,
 ⟨(some 37),.load (some 3) (.tmp 36),none,0⟩,
 ⟨(some 38),.load (some 3) (.tmp 8),none,0⟩,
 ⟨(some 39),.mov (.tmp 1),none,0⟩,
 ⟨(some 40),.call 60 true [(.tmp 37),(.tmp 38),(.tmp 39)],none,0⟩,
 ⟨(some 41),.call 61 true [(.tmp 33),(.tmp 40)],none,0⟩,
 ⟨none,.store (some 2) (.tmp 6) (.tmp 41),none,0⟩])))
 (.region 0 [] [
 ⟨(some 42),.bin .add (.tmp 29) (.cst (.c (.int .i64 1))),none,0⟩,
 ⟨(some 29),.mov (.tmp 42),none,0⟩])))))))
 (.seq (.region 0 [] [
 ⟨(some 43),.load (some 2) (.tmp 6),none,0⟩,
 ⟨none,.store (some 2) (.tmp 4) (.tmp 43),none,0⟩])
 .ret)))))⟩
def f34 : AFunc:=⟨8,[.cell 2 (some 2)],false,
 (.seq (.region 2 [] [
 ⟨(some 1),.box (.tmp 0),none,0⟩,
 ⟨(some 2),.alloc [(.int .i64 0),(.int .i64 0)],none,1⟩])
 (.seq (.region 0 [] [
 ⟨(some 3),.faddr 0 (.tmp 1),none,0⟩,
 ⟨(some 4),.load none (.tmp 3),none,0⟩,
 ⟨(some 5),.faddr 1 (.tmp 1),none,0⟩,
 ⟨(some 6),.load none (.tmp 5),none,0⟩,
 ⟨(some 7),.build [(.int .i64 0),(.int .i64 0)] [(0,1,(.tmp 4)),(1,1,(.tmp 6))],none,0⟩,
 ⟨none,.store (some 2) (.tmp 2) (.tmp 7),none,0⟩])
 .ret))⟩
def f35 : AFunc:=⟨6,[.tmp 2],false,
 (.seq (.region 0 [] [
 ⟨(some 2),.mov (.cst (.c .nils)),none,0⟩])
 (.seq (.region 2 [] [
 ⟨(some 3),.bslice 1 0 [(.int .i64 0)] [],none,0⟩,
 ⟨(some 4),.mov (.tmp 0),none,1⟩,
 ⟨(some 5),.append 1 8 (.tmp 3) (.tmp 4),none,1⟩,
 ⟨(some 2),.mov (.tmp 5),none,2⟩])
 .ret))⟩
def f36 : AFunc:=⟨70,[.tmp 2],false,
 (.seq (.region 1 [] [
 ⟨(some 1),.box (.tmp 0),none,0⟩,
 ⟨(some 2),.mov (.cst (.c (.int .i64 0))),none,1⟩])
 (.seq (.region 0 [(0,2),(1,2),(0,3),(1,3),(2,4),(3,4)] [
 ⟨(some 8),.load (some 3) (.tmp 1),none,0⟩,
 ⟨(some 9),.mkfn 62 (some (.tmp 8)) [],none,0⟩,
 ⟨(some 10),.load (some 3) (.tmp 1),none,0⟩,
 ⟨(some 11),.mkfn 63 (some (.tmp 10)) [],none,0⟩,
 ⟨(some 3),.mov (.tmp 9),none,0⟩,
 ⟨(some 4),.mov (.tmp 11),none,0⟩])
 (.seq (.block 0 (.seq (.region 0 [] [
 ⟨(some 13),.faddr 0 (.tmp 1),none,0⟩,
 ⟨(some 14),.load none (.tmp 13),none,0⟩,
 ⟨(some 15),.len (.tmp 14),none,0⟩,
 ⟨(some 16),.bin .gtr (.tmp 15) (.cst (.c (.int .i64 3))),none,0⟩,
 ⟨(some 17),.mov (.tmp 16),none,0⟩,
 ⟨(some 18),.faddr 1 (.tmp 1),some (17,false),0⟩,
 ⟨(some 19),.load none (.tmp 18),some (17,false),0⟩,
 ⟨(some 20),.len (.tmp 19),some (17,false),0⟩,
 ⟨(some 21),.bin .gtr (.tmp 20) (.cst (.c (.int .i64 3))),some (17,false),0⟩,
 ⟨(some 22),.pick (.tmp 17) (.cst (.c (.bool true))) (.tmp 21),none,0⟩,
 ⟨(some 23),.mov (.tmp 22),none,0⟩,
 ⟨(some 24),.faddr 2 (.tmp 1),some (23,false),0⟩,
 ⟨(some 25),.load none (.tmp 24),some (23,false),0⟩,
 ⟨(some 26),.len (.tmp 25),some (23,false),0⟩,
 ⟨(some 27),.bin .gtr (.tmp 26) (.cst (.c (.int .i64 5))),some (23,false),0⟩,
 ⟨(some 28),.pick (.tmp 23) (.cst (.c (.bool true))) (.tmp 27),none,0⟩,
 ⟨(some 12),.mov (.tmp 28),none,0⟩])
 (.cond (.tmp 12)
 (.seq (.region 0 [] [
 ⟨(some 2),.mov (.cst (.c (.int .i64 3))),none,0⟩])
 .ret)
 (.seq (.region 0 [] [
 ⟨(some 30),.faddr 0 (.tmp 1),none,0⟩,
 ⟨(some 31),.load none (.tmp 30),none,0⟩,
 ⟨(some 32),.len (.tmp 31),none,0⟩,
 ⟨(some 33),.bin .eql (.tmp 32) (.cst (.c (.int .i64 0))),none,0⟩,
 ⟨(some 34),.mov (.tmp 33),none,0⟩,
 ⟨(some 35),.faddr 0 (.tmp 1),some (34,false),0⟩,
 ⟨(some 36),.load none (.tmp 35),some (34,false),0⟩,
 ⟨(some 37),.call 64 false [(.tmp 36),(.cst (.c (.fn 65 false [] [])))],some (34,false),0⟩,
 ⟨(some 38),.not (.tmp 37),some (34,false),0⟩,
 ⟨(some 39),.pick (.tmp 34) (.cst (.c (.bool true))) (.tmp 38),none,0⟩,
 ⟨(some 40),.mov (.tmp 39),none,0⟩,
 ⟨(some 41),.faddr 1 (.tmp 1),some (40,false),0⟩,
 ⟨(some 42),.load none (.tmp 41),some (40,false),0⟩,
 ⟨(some 43),.mov (.tmp 4),some (40,false),0⟩,
 ⟨(some 44),.call 66 false [(.tmp 42),(.tmp 43)],some (40,false),0⟩,
 ⟨(some 45),.not (.tmp 44),some (40,false),0⟩,
 ⟨(some 46),.pick (.tmp 40) (.cst (.c (.bool true))) (.tmp 45),none,0⟩,
 ⟨(some 47),.mov (.tmp 46),none,0⟩,
 ⟨(some 48),.faddr 2 (.tmp 1),some (47,false),0⟩,
 ⟨(some 49),.load none (.tmp 48),some (47,false),0⟩,
 ⟨(some 50),.mov (.tmp 3),some (47,false),0⟩,
 ⟨(some 51),.call 67 false [(.tmp 49),(.tmp 50)],some (47,false),0⟩,
 ⟨(some 52),.not (.tmp 51),some (47,false),0⟩,
 ⟨(some 53),.pick (.tmp 47) (.cst (.c (.bool true))) (.tmp 52),none,0⟩,
 ⟨(some 29),.mov (.tmp 53),none,0⟩])
 (.cond (.tmp 29)
 (.seq (.region 0 [] [
 ⟨(some 2),.mov (.cst (.c (.int .i64 1))),none,0⟩])
 .ret)
 .skip)))))
 (.seq (.region 0 [] [
 ⟨(some 5),.mov (.cst (.c (.int .i64 1))),none,0⟩])
 (.seq (.seq (.region 0 [] [
 ⟨(some 54),.faddr 0 (.tmp 1),none,0⟩,
 ⟨(some 55),.load none (.tmp 54),none,0⟩,
 ⟨(some 56),.len (.tmp 55),none,0⟩,
 ⟨(some 57),.mov (.cst (.c (.int .i64 0))),none,0⟩])
 (.block 1 (.loop ⟨[7,58,59,60,61,62,63,64,65,66,67],false,[]⟩
 (.seq (.region 0 [] [
 ⟨(some 58),.bin .lss (.tmp 57) (.tmp 56),none,0⟩])
 (.seq (.cond (.tmp 58)
 .skip
 (.exit 1))
 (.seq (.block 2 (.seq (.region 1 [] [
 ⟨(some 59),.iaddr 2 (.tmp 55) (.tmp 57),none,0⟩,
 ⟨(some 60),.load (some 2) (.tmp 59),none,0⟩,
 ⟨(some 7),.alloc [(.int .i64 0),(.int .i64 0)],none,0⟩,
 ⟨none,.store (some 2) (.tmp 7) (.tmp 60),none,1⟩])
 (.region 1 [] [
 ⟨(some 61),.mov (.tmp 5),none,0⟩,
 ⟨(some 62),.load (some 2) (.tmp 7),none,0⟩,
 ⟨(some 63),.call 69 true [(.tmp 62)],none,0⟩,
 ⟨(some 64),.bin .mul (.tmp 61) (.tmp 63),none,0⟩,
 ⟨(some 65),.bslice 1 2 [(.int .i64 0)] [(0,(.tmp 64)),(1,(.cst (.c (.int .i64 2001))))],none,0⟩,
 ⟨(some 66),.call 68 true [(.tmp 65)],none,1⟩,
 ⟨(some 5),.mov (.tmp 66),none,1⟩])))
 (.region 0 [] [
 ⟨(some 67),.bin .add (.tmp 57) (.cst (.c (.int .i64 1))),none,0⟩,
 ⟨(some 57),.mov (.tmp 67),none,0⟩])))))))
 (.seq (.seq (.region 0 [] [
 ⟨(some 68),.mov (.tmp 5),none,0⟩,
 ⟨(some 69),.bin .gtr (.tmp 68) (.cst (.c (.int .i64 2000))),none,0⟩])
 (.cond (.tmp 69)
 (.seq (.region 0 [] [
 ⟨(some 2),.mov (.cst (.c (.int .i64 3))),none,0⟩])
 .ret)
 .skip))
 (.seq (.region 0 [] [
 ⟨(some 2),.mov (.cst (.c (.int .i64 0))),none,0⟩])
 .ret)))))))⟩
def f37 : AFunc:=⟨36,[.cell 4 (some 3),.tmp 5],false,
 (.seq (.region 2 [] [
 ⟨(some 2),.box (.tmp 0),none,0⟩,
 ⟨(some 4),.alloc [(.int .i64 0),(.int .i64 0),(.int .i64 0)],none,1⟩,
 ⟨(some 5),.mov (.cst (.c (.bool false))),none,2⟩])
 (.seq (.seq (.region 0 [] [
 ⟨(some 8),.mov (.tmp 1),none,0⟩,
 ⟨(some 9),.len (.tmp 8),none,0⟩,
 ⟨(some 10),.faddr 0 (.tmp 2),none,0⟩,
 ⟨(some 11),.load none (.tmp 10),none,0⟩,
 ⟨(some 12),.len (.tmp 11),none,0⟩,
 ⟨(some 13),.bin .neq (.tmp 9) (.tmp 12),none,0⟩])
 (.cond (.tmp 13)
 (.seq (.region 0 [] [
 ⟨(some 14),.load (some 3) (.tmp 4),none,0⟩,
 ⟨none,.store (some 3) (.tmp 4) (.tmp 14),none,0⟩,
 ⟨(some 5),.mov (.cst (.c (.bool false))),none,0⟩])
 .ret)
 .skip))
 (.seq (.seq (.region 0 [] [
 ⟨(some 15),.faddr 0 (.tmp 2),none,0⟩,
 ⟨(some 16),.load none (.tmp 15),none,0⟩,
 ⟨(some 17),.len (.tmp 16),none,0⟩,
 ⟨(some 18),.mov (.cst (.c (.int .i64 0))),none,0⟩])
 (.block 0 (.loop ⟨[5,6,7,19,20,21,22,23,24,25,26,27,28,29,30,31],true,[]⟩
 (.seq (.region 0 [] [
 ⟨(some 19),.bin .lss (.tmp 18) (.tmp 17),none,0⟩])
 (.seq (.cond (.tmp 19)
 .skip
 (.exit 0))
 (.seq (.block 1 (.seq (.region 1 [] [
 ⟨(some 20),.mov (.tmp 18),none,0⟩,
 ⟨(some 21),.iaddr 2 (.tmp 16) (.tmp 18),none,0⟩,
 ⟨(some 22),.load (some 2) (.tmp 21),none,0⟩,
 ⟨(some 7),.alloc [(.int .i64 0),(.int .i64 0)],none,0⟩,
 ⟨(some 6),.mov (.tmp 20),none,1⟩,
 ⟨none,.store (some 2) (.tmp 7) (.tmp 22),none,1⟩])
 (.seq (.region 0 [(0,1),(0,2),(1,2),(0,3),(0,4)] [
 ⟨(some 23),.load (some 2) (.tmp 7),none,0⟩,
 ⟨(some 24),.mov (.tmp 1),none,0⟩,
 ⟨(some 25),.mov (.tmp 6),none,0⟩,
 ⟨(some 26),.iaddr 1 (.tmp 24) (.tmp 25),none,0⟩,
 ⟨(some 27),.load none (.tmp 26),none,0⟩,
 ⟨(some 28),.call 70 true [(.tmp 23),(.tmp 27)],none,0⟩,
 ⟨(some 29),.not (.tmp 28),none,0⟩])
 (.cond (.tmp 29)
 (.seq (.region 0 [] [
 ⟨(some 30),.load (some 3) (.tmp 4),none,0⟩,
 ⟨none,.store (some 3) (.tmp 4) (.tmp 30),none,0⟩,
 ⟨(some 5),.mov (.cst (.c (.bool false))),none,0⟩])
 .ret)
 .skip))))
 (.region 0 [] [
 ⟨(some 31),.bin .add (.tmp 18) (.cst (.c (.int .i64 1))),none,0⟩,
 ⟨(some 18),.mov (.tmp 31),none,0⟩])))))))
 (.seq (.region 0 [] [
 ⟨(some 32),.pslice 3 (.tmp 4) none none,none,0⟩,
 ⟨(some 33),.mov (.tmp 1),none,0⟩,
 ⟨(some 34),.copy (.tmp 32) (.tmp 33),none,0⟩])
 (.seq (.region 0 [] [
 ⟨(some 35),.load (some 3) (.tmp 4),none,0⟩,
 ⟨none,.store (some 3) (.tmp 4) (.tmp 35),none,0⟩,
 ⟨(some 5),.mov (.cst (.c (.bool true))),none,0⟩])
 .ret)))))⟩
def f38 : AFunc:=⟨27,[.tmp 4],false,
 (.seq (.region 1 [] [
 ⟨(some 2),.box (.tmp 0),none,0⟩,
 ⟨(some 4),.mov (.cst (.c (.int .i64 0))),none,1⟩])
 (.seq (.region 0 [] [
 ⟨(some 5),.mov (.cst (.c (.int .i64 0))),none,0⟩])
 (.seq (.seq (.region 0 [] [
 ⟨(some 8),.mov (.tmp 1),none,0⟩,
 ⟨(some 9),.len (.tmp 8),none,0⟩,
 ⟨(some 10),.mov (.cst (.c (.int .i64 0))),none,0⟩])
 (.block 0 (.loop ⟨[6,7,11,12,13,14,15,16,17,18,19,20,21,22],false,[]⟩
 (.seq (.region 0 [] [
 ⟨(some 11),.bin .lss (.tmp 10) (.tmp 9),none,0⟩])
 (.seq (.cond (.tmp 11)
 .skip
 (.exit 0))
 (.seq (.block 1 (.seq (.region 0 [] [
 ⟨(some 12),.mov (.tmp 10),none,0⟩,
 ⟨(some 13),.iaddr 1 (.tmp 8) (.tmp 10),none,0⟩,
 ⟨(some 14),.load none (.tmp 13),none,0⟩,
 ⟨(some 6),.mov (.tmp 12),none,0⟩,
 ⟨(some 7),.mov (.tmp 14),none,0⟩])
 (.region 0 [] [
 ⟨(some 15),.mov (.tmp 5),none,0⟩,
 ⟨(some 16),.mov (.tmp 7),none,0⟩,
 ⟨(some 17),.mov (.tmp 6),none,0⟩,
 ⟨(some 18),.iaddrA 3 1 (.tmp 2) (.tmp 17),none,0⟩,
 ⟨(some 19),.load none (.tmp 18),none,0⟩,
 ⟨(some 20),.bin .mul (.tmp 16) (.tmp 19),none,0⟩,
 ⟨(some 21),.bin .add (.tmp 15) (.tmp 20),none,0⟩,
 ⟨(some 5),.mov (.tmp 21),none,0⟩])))
 (.region 0 [] [
 ⟨(some 22),.bin .add (.tmp 10) (.cst (.c (.int .i64 1))),none,0⟩,
 ⟨(some 10),.mov (.tmp 22),none,0⟩])))))))
 (.seq (.region 0 [] [
 ⟨(some 23),.mov (.tmp 5),none,0⟩,
 ⟨(some 24),.mov (.tmp 1),none,0⟩,
 ⟨(some 25),.call 71 true [(.tmp 24)],none,0⟩,
 ⟨(some 26),.bin .quo (.tmp 23) (.tmp 25),none,0⟩,
 ⟨(some 4),.mov (.tmp 26),none,0⟩])
 .ret))))⟩
def f39 : AFunc:=⟨9,[.tmp 2],false,
 (.seq (.region 1 [] [
 ⟨(some 1),.box (.tmp 0),none,0⟩,
 ⟨(some 2),.mov (.cst (.c (.int .i64 0))),none,1⟩])
 (.seq (.region 0 [] [
 ⟨(some 3),.faddr 1 (.tmp 1),none,0⟩,
 ⟨(some 4),.load none (.tmp 3),none,0⟩,
 ⟨(some 5),.faddr 0 (.tmp 1),none,0⟩,
 ⟨(some 6),.load none (.tmp 5),none,0⟩,
 ⟨(some 7),.bin .sub (.tmp 4) (.tmp 6),none,0⟩,
 ⟨(some 8),.bin .add (.tmp 7) (.cst (.c (.int .i64 1))),none,0⟩,
 ⟨(some 2),.mov (.tmp 8),none,0⟩])
 .ret))⟩
def f40 : AFunc:=⟨88,[.tmp 2],false,
 (.seq (.region 1 [] [
 ⟨(some 1),.box (.tmp 0),none,0⟩,
 ⟨(some 2),.mov (.cst (.c (.int .i64 0))),none,1⟩])
 (.seq (.region 0 [] [
 ⟨(some 7),.load (some 12) (.tmp 1),none,0⟩,
 ⟨(some 8),.mkfn 72 (some (.tmp 7)) [],none,0⟩,
 ⟨(some 3),.mov (.tmp 8),none,0⟩])
 (.seq (.block 0 (.seq (.region 0 [] [
 ⟨(some 10),.faddr 0 (.tmp 1),none,0⟩,
 ⟨(some 11),.load none (.tmp 10),none,0⟩,
 ⟨(some 12),.bin .gtr (.tmp 11) (.cst (.c (.int .i64 7))),none,0⟩,
 ⟨(some 13),.mov (.tmp 12),none,0⟩,
 ⟨(some 14),.faddr 11 (.tmp 1),some (13,false),0⟩,
 ⟨(some 15),.load none (.tmp 14),some (13,false),0⟩,
 ⟨(some 16),.len (.tmp 15),some (13,false),0⟩,
 ⟨(some 17),.bin .gtr (.tmp 16) (.cst (.c (.int .i64 5))),some (13,false),0⟩,
 ⟨(some 18),.pick (.tmp 13) (.cst (.c (.bool true))) (.tmp 17),none,0⟩,
 ⟨(some 9),.mov (.tmp 18),none,0⟩])
 (.cond (.tmp 9)
 (.seq (.region 0 [] [
 ⟨(some 2),.mov (.cst (.c (.int .i64 3))),none,0⟩])
 .ret)
 (.seq (.region 0 [(4,7),(5,7),(6,7),(4,8),(5,8),(6,8),(12,15),(13,15),(14,15),(12,16),(13,16),(14,16),(20,23),(21,23),(22,23),(20,24),(21,24),(22,24),(46,48),(47,48)] [
 ⟨(some 20),.load (some 12) (.tmp 1),none,0⟩,
 ⟨(some 21),.call 73 true [(.tmp 20)],none,0⟩,
 ⟨(some 22),.not (.tmp 21),none,0⟩,
 ⟨(some 23),.mov (.tmp 22),none,0⟩,
 ⟨(some 24),.faddr 8 (.tmp 1),some (23,false),0⟩,
 ⟨(some 25),.load none (.tmp 24),some (23,false),0⟩,
 ⟨(some 26),.len (.tmp 25),some (23,false),0⟩,
 ⟨(some 27),.load (some 12) (.tmp 1),some (23,false),0⟩,
 ⟨(some 28),.call 50 true [(.tmp 27)],some (23,false),0⟩,
 ⟨(some 29),.bin .neq (.tmp 26) (.tmp 28),some (23,false),0⟩,
 ⟨(some 30),.pick (.tmp 23) (.cst (.c (.bool true))) (.tmp 29),none,0⟩,
 ⟨(some 31),.mov (.tmp 30),none,0⟩,
 ⟨(some 32),.faddr 9 (.tmp 1),some (31,false),0⟩,
 ⟨(some 33),.load none (.tmp 32),some (31,false),0⟩,
 ⟨(some 34),.len (.tmp 33),some (31,false),0⟩,
 ⟨(some 35),.load (some 12) (.tmp 1),some (31,false),0⟩,
 ⟨(some 36),.call 50 true [(.tmp 35)],some (31,false),0⟩,
 ⟨(some 37),.bin .neq (.tmp 34) (.tmp 36),some (31,false),0⟩,
 ⟨(some 38),.pick (.tmp 31) (.cst (.c (.bool true))) (.tmp 37),none,0⟩,
 ⟨(some 39),.mov (.tmp 38),none,0⟩,
 ⟨(some 40),.faddr 10 (.tmp 1),some (39,false),0⟩,
 ⟨(some 41),.load none (.tmp 40),some (39,false),0⟩,
 ⟨(some 42),.len (.tmp 41),some (39,false),0⟩,
 ⟨(some 43),.load (some 12) (.tmp 1),some (39,false),0⟩,
 ⟨(some 44),.call 50 true [(.tmp 43)],some (39,false),0⟩,
 ⟨(some 45),.bin .neq (.tmp 42) (.tmp 44),some (39,false),0⟩,
 ⟨(some 46),.pick (.tmp 39) (.cst (.c (.bool true))) (.tmp 45),none,0⟩,
 ⟨(some 47),.mov (.tmp 46),none,0⟩,
 ⟨(some 48),.faddr 8 (.tmp 1),some (47,false),0⟩,
 ⟨(some 49),.load none (.tmp 48),some (47,false),0⟩,
 ⟨(some 50),.call 74 false [(.tmp 49),(.cst (.c (.fn 75 false [] [])))],some (47,false),0⟩,
 ⟨(some 51),.not (.tmp 50),some (47,false),0⟩,
 ⟨(some 52),.pick (.tmp 47) (.cst (.c (.bool true))) (.tmp 51),none,0⟩,
 ⟨(some 53),.mov (.tmp 52),none,0⟩,
 ⟨(some 54),.faddr 9 (.tmp 1),some (53,false),0⟩,
 ⟨(some 55),.load none (.tmp 54),some (53,false),0⟩,
 ⟨(some 56),.call 76 false [(.tmp 55),(.cst (.c (.fn 77 false [] [])))],some (53,false),0⟩,
 ⟨(some 57),.not (.tmp 56),some (53,false),0⟩,
 ⟨(some 58),.pick (.tmp 53) (.cst (.c (.bool true))) (.tmp 57),none,0⟩,
 ⟨(some 59),.mov (.tmp 58),none,0⟩,
 ⟨(some 60),.faddr 10 (.tmp 1),some (59,false),0⟩,
 ⟨(some 61),.load none (.tmp 60),some (59,false),0⟩,
 ⟨(some 62),.call 78 false [(.tmp 61),(.cst (.c (.fn 47 false [] [])))],some (59,false),0⟩,
 ⟨(some 63),.not (.tmp 62),some (59,false),0⟩,
 ⟨(some 64),.pick (.tmp 59) (.cst (.c (.bool true))) (.tmp 63),none,0⟩,
 ⟨(some 65),.mov (.tmp 64),none,0⟩,
 ⟨(some 66),.faddr 11 (.tmp 1),some (65,false),0⟩,
 ⟨(some 67),.load none (.tmp 66),some (65,false),0⟩,
 ⟨(some 68),.mov (.tmp 3),some (65,false),0⟩,
 ⟨(some 69),.call 79 false [(.tmp 67),(.tmp 68)],some (65,false),0⟩,
 ⟨(some 70),.not (.tmp 69),some (65,false),0⟩,
 ⟨(some 71),.pick (.tmp 65) (.cst (.c (.bool true))) (.tmp 70),none,0⟩,
 ⟨(some 19),.mov (.tmp 71),none,0⟩])
 (.cond (.tmp 19)
 (.seq (.region 0 [] [
 ⟨(some 2),.mov (.cst (.c (.int .i64 1))),none,0⟩])
 .ret)
 .skip)))))
 (.seq (.region 0 [] [
 ⟨(some 4),.mov (.cst (.c (.int .i64 1))),none,0⟩])
 (.seq (.seq (.region 0 [] [
 ⟨(some 72),.load (some 12) (.tmp 1),none,0⟩,
 ⟨(some 73),.call 80 true [(.tmp 72)],none,0⟩,
 ⟨(some 74),.len (.tmp 73),none,0⟩,
 ⟨(some 75),.mov (.cst (.c (.int .i64 0))),none,0⟩])
 (.block 1 (.loop ⟨[6,76,77,78,79,80,81,82,83,84,85],false,[]⟩
 (.seq (.region 0 [] [
 ⟨(some 76),.bin .lss (.tmp 75) (.tmp 74),none,0⟩])
 (.seq (.cond (.tmp 76)
 .skip
 (.exit 1))
 (.seq (.block 2 (.seq (.region 1 [] [
 ⟨(some 77),.iaddr 2 (.tmp 73) (.tmp 75),none,0⟩,
 ⟨(some 78),.load (some 2) (.tmp 77),none,0⟩,
 ⟨(some 6),.alloc [(.int .i64 0),(.int .i64 0)],none,0⟩,
 ⟨none,.store (some 2) (.tmp 6) (.tmp 78),none,1⟩])
 (.region 1 [] [
 ⟨(some 79),.mov (.tmp 4),none,0⟩,
 ⟨(some 80),.load (some 2) (.tmp 6),none,0⟩,
 ⟨(some 81),.call 82 true [(.tmp 80)],none,0⟩,
 ⟨(some 82),.bin .mul (.tmp 79) (.tmp 81),none,0⟩,
 ⟨(some 83),.bslice 1 2 [(.int .i64 0)] [(0,(.tmp 82)),(1,(.cst (.c (.int .i64 2001))))],none,0⟩,
 ⟨(some 84),.call 81 true [(.tmp 83)],none,1⟩,
 ⟨(some 4),.mov (.tmp 84),none,1⟩])))
 (.region 0 [] [
 ⟨(some 85),.bin .add (.tmp 75) (.cst (.c (.int .i64 1))),none,0⟩,
 ⟨(some 75),.mov (.tmp 85),none,0⟩])))))))
 (.seq (.seq (.region 0 [] [
 ⟨(some 86),.mov (.tmp 4),none,0⟩,
 ⟨(some 87),.bin .gtr (.tmp 86) (.cst (.c (.int .i64 2000))),none,0⟩])
 (.cond (.tmp 87)
 (.seq (.region 0 [] [
 ⟨(some 2),.mov (.cst (.c (.int .i64 3))),none,0⟩])
 .ret)
 .skip))
 (.seq (.region 0 [] [
 ⟨(some 2),.mov (.cst (.c (.int .i64 0))),none,0⟩])
 .ret)))))))⟩
def f41 : AFunc:=⟨46,[.tmp 4],false,
 (.seq (.region 2 [] [
 ⟨(some 2),.box (.tmp 0),none,0⟩,
 ⟨(some 3),.box (.tmp 1),none,1⟩,
 ⟨(some 4),.mov (.cst (.c (.bool false))),none,2⟩])
 (.seq (.seq (.region 0 [(0,3),(1,3),(2,3),(0,4),(1,4),(2,4),(7,9),(8,9),(7,10),(8,10),(15,17),(16,17),(15,18),(16,18)] [
 ⟨(some 7),.faddr 2 (.tmp 3),none,0⟩,
 ⟨(some 8),.load none (.tmp 7),none,0⟩,
 ⟨(some 9),.len (.tmp 8),none,0⟩,
 ⟨(some 10),.load (some 12) (.tmp 2),none,0⟩,
 ⟨(some 11),.call 50 true [(.tmp 10)],none,0⟩,
 ⟨(some 12),.bin .neq (.tmp 9) (.tmp 11),none,0⟩,
 ⟨(some 13),.mov (.tmp 12),none,0⟩,
 ⟨(some 14),.faddr 2 (.tmp 2),some (13,false),0⟩,
 ⟨(some 15),.load (some 2) (.tmp 14),some (13,false),0⟩,
 ⟨(some 16),.faddr 0 (.tmp 3),some (13,false),0⟩,
 ⟨(some 17),.load none (.tmp 16),some (13,false),0⟩,
 ⟨(some 18),.call 83 true [(.tmp 15),(.tmp 17)],some (13,false),0⟩,
 ⟨(some 19),.not (.tmp 18),some (13,false),0⟩,
 ⟨(some 20),.pick (.tmp 13) (.cst (.c (.bool true))) (.tmp 19),none,0⟩,
 ⟨(some 21),.mov (.tmp 20),none,0⟩,
 ⟨(some 22),.faddr 4 (.tmp 2),some (21,false),0⟩,
 ⟨(some 23),.load (some 2) (.tmp 22),some (21,false),0⟩,
 ⟨(some 24),.faddr 1 (.tmp 3),some (21,false),0⟩,
 ⟨(some 25),.load none (.tmp 24),some (21,false),0⟩,
 ⟨(some 26),.call 83 true [(.tmp 23),(.tmp 25)],some (21,false),0⟩,
 ⟨(some 27),.not (.tmp 26),some (21,false),0⟩,
 ⟨(some 28),.pick (.tmp 21) (.cst (.c (.bool true))) (.tmp 27),none,0⟩])
 (.cond (.tmp 28)
 (.seq (.region 0 [] [
 ⟨(some 4),.mov (.cst (.c (.bool false))),none,0⟩])
 .ret)
 .skip))
 (.seq (.seq (.region 0 [] [
 ⟨(some 29),.faddr 8 (.tmp 2),none,0⟩,
 ⟨(some 30),.load none (.tmp 29),none,0⟩,
 ⟨(some 31),.len (.tmp 30),none,0⟩,
 ⟨(some 32),.mov (.cst (.c (.int .i64 0))),none,0⟩])
 (.block 0 (.loop ⟨[4,5,6,33,34,35,36,37,38,39,40,41,42,43,44,45],true,[]⟩
 (.seq (.region 0 [] [
 ⟨(some 33),.bin .lss (.tmp 32) (.tmp 31),none,0⟩])
 (.seq (.cond (.tmp 33)
 .skip
 (.exit 0))
 (.seq (.block 1 (.seq (.region 1 [] [
 ⟨(some 34),.mov (.tmp 32),none,0⟩,
 ⟨(some 35),.iaddr 2 (.tmp 30) (.tmp 32),none,0⟩,
 ⟨(some 36),.load (some 2) (.tmp 35),none,0⟩,
 ⟨(some 6),.alloc [(.int .i64 0),(.int .i64 0)],none,0⟩,
 ⟨(some 5),.mov (.tmp 34),none,1⟩,
 ⟨none,.store (some 2) (.tmp 6) (.tmp 36),none,1⟩])
 (.seq (.region 0 [(0,1),(0,2),(0,3),(1,3),(2,3),(0,4),(0,5)] [
 ⟨(some 37),.load (some 2) (.tmp 6),none,0⟩,
 ⟨(some 38),.faddr 2 (.tmp 3),none,0⟩,
 ⟨(some 39),.load none (.tmp 38),none,0⟩,
 ⟨(some 40),.mov (.tmp 5),none,0⟩,
 ⟨(some 41),.iaddr 1 (.tmp 39) (.tmp 40),none,0⟩,
 ⟨(some 42),.load none (.tmp 41),none,0⟩,
 ⟨(some 43),.call 83 true [(.tmp 37),(.tmp 42)],none,0⟩,
 ⟨(some 44),.not (.tmp 43),none,0⟩])
 (.cond (.tmp 44)
 (.seq (.region 0 [] [
 ⟨(some 4),.mov (.cst (.c (.bool false))),none,0⟩])
 .ret)
 .skip))))
 (.region 0 [] [
 ⟨(some 45),.bin .add (.tmp 32) (.cst (.c (.int .i64 1))),none,0⟩,
 ⟨(some 32),.mov (.tmp 45),none,0⟩])))))))
 (.seq (.region 0 [] [
 ⟨(some 4),.mov (.cst (.c (.bool true))),none,0⟩])
 .ret))))⟩
def f42 : AFunc:=⟨7,[.tmp 2],false,
 (.seq (.region 1 [] [
 ⟨(some 1),.box (.tmp 0),none,0⟩,
 ⟨(some 2),.mov (.cst (.c .nilp)),none,1⟩])
 (.seq (.region 2 [] [
 ⟨(some 3),.load (some 12) (.tmp 1),none,0⟩,
 ⟨(some 4),.mkmap true false [(some .i64),none],none,0⟩,
 ⟨(some 5),.build [(.int .i64 0),(.int .i64 0),(.int .i64 0),(.int .i64 0),(.int .i64 0),(.int .i64 0),(.int .i64 0),(.int .i64 0),.nils,.nils,.nils,.nils,.any] [(0,12,(.tmp 3)),(12,1,(.tmp 4))],none,1⟩,
 ⟨(some 6),.box (.tmp 5),none,1⟩,
 ⟨(some 2),.mov (.tmp 6),none,2⟩])
 .ret))⟩
def f43 : AFunc:=⟨9,[.tmp 4],false,
 (.seq (.region 1 [] [
 ⟨(some 3),.box (.tmp 1),none,0⟩,
 ⟨(some 4),.mov (.cst (.c .nils)),none,1⟩])
 (.seq (.region 0 [] [
 ⟨(some 5),.mov (.tmp 0),none,0⟩,
 ⟨(some 6),.load (some 3) (.tmp 3),none,0⟩,
 ⟨(some 7),.call 85 false [(.tmp 5),(.tmp 6)],none,0⟩,
 ⟨(some 8),.call 84 false [(.tmp 7)],none,0⟩,
 ⟨(some 4),.mov (.tmp 8),none,0⟩])
 .ret))⟩
def f44 : AFunc:=⟨8,[.cell 2 (some 2)],false,
 (.seq (.region 2 [] [
 ⟨(some 1),.box (.tmp 0),none,0⟩,
 ⟨(some 2),.alloc [(.int .i64 0),(.int .i64 0)],none,1⟩])
 (.seq (.region 0 [] [
 ⟨(some 3),.faddr 0 (.tmp 1),none,0⟩,
 ⟨(some 4),.load none (.tmp 3),none,0⟩,
 ⟨(some 5),.faddr 1 (.tmp 1),none,0⟩,
 ⟨(some 6),.load none (.tmp 5),none,0⟩,
 ⟨(some 7),.build [(.int .i64 0),(.int .i64 0)] [(0,1,(.tmp 4)),(1,1,(.tmp 6))],none,0⟩,
 ⟨none,.store (some 2) (.tmp 2) (.tmp 7),none,0⟩])
 .ret))⟩
def f45 : AFunc:=⟨5,[.tmp 2],false,
 (.seq (.region 0 [] [
 ⟨(some 2),.mov (.cst (.c .nils)),none,0⟩])
 (.seq (.region 1 [] [
 ⟨(some 3),.mov (.tmp 0),none,0⟩,
 ⟨(some 4),.append 1 8 (.cst (.c .nils)) (.tmp 3),none,0⟩,
 ⟨(some 2),.mov (.tmp 4),none,1⟩])
 .ret))⟩
def f46 : AFunc:=⟨9,[.tmp 4],false,
 (.seq (.region 1 [] [
 ⟨(some 2),.box (.tmp 0),none,0⟩,
 ⟨(some 4),.mov (.cst (.c (.bool false))),none,1⟩])
 (.seq (.region 0 [] [
 ⟨(some 5),.mov (.tmp 1),none,0⟩,
 ⟨(some 6),.faddr 0 (.tmp 2),none,0⟩,
 ⟨(some 7),.load none (.tmp 6),none,0⟩,
 ⟨(some 8),.call 86 true [(.tmp 5),(.cst (.c (.int .i64 0))),(.tmp 7)],none,0⟩,
 ⟨(some 4),.mov (.tmp 8),none,0⟩])
 .ret))⟩
def f47 : AFunc:=⟨5,[.tmp 2],false,
 (.seq (.region 0 [] [
 ⟨(some 2),.mov (.cst (.c (.bool false))),none,0⟩])
 (.seq (.region 0 [] [
 ⟨(some 3),.mov (.tmp 0),none,0⟩,
 ⟨(some 4),.call 86 true [(.tmp 3),(.cst (.c (.int .i64 0))),(.cst (.c (.int .i64 20)))],none,0⟩,
 ⟨(some 2),.mov (.tmp 4),none,0⟩])
 .ret))⟩
def f48 : AFunc:=⟨36,[.tmp 6],false,
 (.seq (.region 1 [] [
 ⟨(some 4),.box (.tmp 1),none,0⟩,
 ⟨(some 6),.mov (.cst (.c .nils)),none,1⟩])
 (.seq (.region 1 [(0,2),(1,2),(0,3),(1,3),(0,4),(1,4),(0,5),(1,5),(0,6),(1,6),(2,6),(3,6),(4,6),(5,6),(0,7),(1,7),(2,7),(3,7),(4,7),(5,7),(0,8),(1,8),(0,10),(1,10),(2,10),(3,10),(4,10),(5,10),(6,10),(7,10),(8,10),(9,10)] [
 ⟨(some 10),.faddr 1 (.tmp 4),none,0⟩,
 ⟨(some 11),.load none (.tmp 10),none,0⟩,
 ⟨(some 12),.mov (.tmp 0),none,0⟩,
 ⟨(some 13),.nilchk (.tmp 12),none,0⟩,
 ⟨(some 14),.faddr 0 (.tmp 13),none,0⟩,
 ⟨(some 15),.load (some 12) (.tmp 14),none,0⟩,
 ⟨(some 16),.faddr 0 (.tmp 4),none,0⟩,
 ⟨(some 17),.load none (.tmp 16),none,0⟩,
 ⟨(some 18),.call 87 true [(.tmp 15),(.tmp 17)],none,0⟩,
 ⟨(some 19),.build [(.int .i64 0),(.bool false)] [(0,1,(.tmp 11)),(1,1,(.tmp 18))],none,0⟩,
 ⟨(some 7),.alloc [(.int .i64 0),(.bool false)],none,0⟩,
 ⟨none,.store (some 2) (.tmp 7) (.tmp 19),none,1⟩])
 (.seq (.seq (.region 0 [] [
 ⟨(some 20),.mov (.tmp 2),none,0⟩,
 ⟨(some 21),.mov (.cst (.c (.int .i64 0))),none,0⟩])
 (.block 0 (.loop ⟨[8,9,22,23,24,25,26,27,28,29,30,31,32,33,34],false,[(6,none,1)]⟩
 (.seq (.region 0 [] [
 ⟨(some 22),.bin .lss (.tmp 21) (.tmp 20),none,0⟩])
 (.seq (.cond (.tmp 22)
 .skip
 (.exit 0))
 (.seq (.block 1 (.seq (.region 1 [] [
 ⟨(some 24),.mov (.tmp 0),none,0⟩,
 ⟨(some 25),.load (some 2) (.tmp 7),none,0⟩,
 ⟨(some 26),.call 88 false [(.tmp 24),(.tmp 25)],none,0⟩,
 ⟨(some 23),.mov (.tmp 26),none,0⟩,
 ⟨(some 27),.extract 0 (.tmp 23),none,0⟩,
 ⟨(some 28),.extract 1 (.tmp 23),none,0⟩,
 ⟨(some 9),.alloc [(.int .i64 0),(.bool false)],none,0⟩,
 ⟨(some 8),.mov (.tmp 27),none,1⟩,
 ⟨none,.store (some 2) (.tmp 9) (.tmp 28),none,1⟩])
 (.region 2 [(0,1),(0,2),(0,4),(1,4),(2,4),(3,4),(4,5)] [
 ⟨(some 29),.mov (.tmp 6),none,0⟩,
 ⟨(some 30),.mov (.tmp 8),none,0⟩,
 ⟨(some 31),.bslice 1 1 [(.int .i64 0)] [(0,(.tmp 30))],none,0⟩,
 ⟨(some 32),.append 1 8 (.tmp 29) (.tmp 31),none,1⟩,
 ⟨(some 33),.load (some 2) (.tmp 9),none,2⟩,
 ⟨(some 6),.mov (.tmp 32),none,2⟩,
 ⟨none,.store (some 2) (.tmp 7) (.tmp 33),none,2⟩])))
 (.region 0 [] [
 ⟨(some 34),.bin .add (.tmp 21) (.cst (.c (.int .i64 1))),none,0⟩,
 ⟨(some 21),.mov (.tmp 34),none,0⟩])))))))
 (.seq (.region 0 [] [
 ⟨(some 35),.mov (.tmp 6),none,0⟩,
 ⟨(some 6),.mov (.tmp 35),none,0⟩])
 .ret))))⟩
def f49 : AFunc:=⟨21,[.tmp 4,.tmp 5],false,
 (.seq (.region 1 [] [
 ⟨(some 2),.box (.tmp 0),none,0⟩,
 ⟨(some 4),.mov (.cst (.c .nilp)),none,1⟩,
 ⟨(some 5),.mov (.cst (.c (.int .i64 0))),none,1⟩])
 (.seq (.seq (.region 0 [] [
 ⟨(some 8),.load (some 12) (.tmp 2),none,0⟩,
 ⟨(some 9),.call 40 true [(.tmp 8)],none,0⟩,
 ⟨(some 6),.mov (.tmp 9),none,0⟩])
 (.seq (.region 0 [] [
 ⟨(some 10),.mov (.tmp 6),none,0⟩,
 ⟨(some 11),.bin .neq (.tmp 10) (.cst (.c (.int .i64 0))),none,0⟩])
 (.cond (.tmp 11)
 (.seq (.region 0 [] [
 ⟨(some 12),.mov (.tmp 6),none,0⟩,
 ⟨(some 4),.mov (.cst (.c .nilp)),none,0⟩,
 ⟨(some 5),.mov (.tmp 12),none,0⟩])
 .ret)
 .skip)))
 (.seq (.seq (.region 0 [] [
 ⟨(some 13),.mov (.tmp 1),none,0⟩,
 ⟨(some 14),.not (.tmp 13),none,0⟩])
 (.cond (.tmp 14)
 (.seq (.region 0 [] [
 ⟨(some 4),.mov (.cst (.c .nilp)),none,0⟩,
 ⟨(some 5),.mov (.cst (.c (.int .i64 2))),none,0⟩])
 .ret)
 .skip))
 (.seq (.region 0 [] [
 ⟨(some 15),.load (some 12) (.tmp 2),none,0⟩,
 ⟨(some 16),.call 42 false [(.tmp 15)],none,0⟩,
 ⟨(some 7),.mov (.tmp 16),none,0⟩])
 (.seq (.seq (.region 0 [] [
 ⟨(some 17),.mov (.tmp 7),none,0⟩,
 ⟨(some 18),.call 89 false [(.tmp 17),(.cst (.c .nils))],none,0⟩,
 ⟨(some 19),.not (.tmp 18),none,0⟩])
 (.cond (.tmp 19)
 (.seq (.region 0 [] [
 ⟨(some 4),.mov (.cst (.c .nilp)),none,0⟩,
 ⟨(some 5),.mov (.cst (.c (.int .i64 11))),none,0⟩])
 .ret)
 .skip))
 (.seq (.region 0 [] [
 ⟨(some 20),.mov (.tmp 7),none,0⟩,
 ⟨(some 4),.mov (.tmp 20),none,0⟩,
 ⟨(some 5),.mov (.cst (.c (.int .i64 0))),none,0⟩])
 .ret))))))⟩
def f50 : AFunc:=⟨6,[.tmp 2],false,
 (.seq (.region 1 [] [
 ⟨(some 1),.box (.tmp 0),none,0⟩,
 ⟨(some 2),.mov (.cst (.c (.int .i64 0))),none,1⟩])
 (.seq (.region 0 [] [
 ⟨(some 3),.faddr 0 (.tmp 1),none,0⟩,
 ⟨(some 4),.load none (.tmp 3),none,0⟩,
 ⟨(some 5),.bin .add (.tmp 4) (.cst (.c (.int .i64 1))),none,0⟩,
 ⟨(some 2),.mov (.tmp 5),none,0⟩])
 .ret))⟩
def f51 : AFunc:=⟨5,[.tmp 2],false,
 (.seq (.region 1 [] [
 ⟨(some 1),.box (.tmp 0),none,0⟩,
 ⟨(some 2),.mov (.cst (.c (.int .i64 0))),none,1⟩])
 (.seq (.region 0 [] [
 ⟨(some 3),.faddr 0 (.tmp 1),none,0⟩,
 ⟨(some 4),.load none (.tmp 3),none,0⟩,
 ⟨(some 2),.mov (.tmp 4),none,0⟩])
 .ret))⟩
def f52 : AFunc:=⟨10,[.cell 6 (some 2)],false,
 (.seq (.region 3 [] [
 ⟨(some 3),.box (.tmp 0),none,0⟩,
 ⟨(some 5),.box (.tmp 2),none,1⟩,
 ⟨(some 6),.alloc [(.int .i64 0),(.int .i64 0)],none,2⟩])
 (.seq (.region 0 [] [
 ⟨(some 7),.mov (.tmp 1),none,0⟩,
 ⟨(some 8),.mkfn 90 none [(.tmp 3),(.tmp 5)],none,0⟩,
 ⟨(some 9),.call 54 false [(.tmp 7),(.tmp 8)],none,0⟩,
 ⟨none,.store (some 2) (.tmp 6) (.tmp 9),none,0⟩])
 .ret))⟩
def f53 : AFunc:=⟨5,[.tmp 2],false,
 (.seq (.region 1 [] [
 ⟨(some 1),.box (.tmp 0),none,0⟩,
 ⟨(some 2),.mov (.cst (.c (.int .i64 0))),none,1⟩])
 (.seq (.region 0 [] [
 ⟨(some 3),.faddr 1 (.tmp 1),none,0⟩,
 ⟨(some 4),.load none (.tmp 3),none,0⟩,
 ⟨(some 2),.mov (.tmp 4),none,0⟩])
 .ret))⟩
def f54 : AFunc:=⟨24,[.cell 4 (some 2)],false,
 (.seq (.region 2 [] [
 ⟨(some 3),.box (.tmp 1),none,0⟩,
 ⟨(some 4),.alloc [(.int .i64 0),(.int .i64 0)],none,1⟩])
 (.seq (.region 1 [] [
 ⟨(some 5),.alloc [(.bool false)],none,0⟩,
 ⟨none,.store none (.tmp 5) (.cst (.c (.bool true))),none,1⟩])
 (.seq (.seq (.region 0 [] [
 ⟨(some 9),.mov (.tmp 0),none,0⟩,
 ⟨(some 10),.call 91 false [(.tmp 9),(.cst (.c .nils))],none,0⟩])
 (.block 0 (.range (.tmp 10) [11,12]
 (.region 0 [] [
 ⟨(some 7),.mov (.tmp 12),none,0⟩])
 (.block 1 (.seq (.region 0 [] [
 ⟨(some 13),.load none (.tmp 3),none,0⟩,
 ⟨(some 14),.mov (.tmp 7),none,0⟩,
 ⟨(some 15),.callv (.tmp 13) [(.tmp 14)],none,0⟩,
 ⟨(some 8),.mov (.tmp 15),none,0⟩])
 (.seq (.seq (.region 0 [] [
 ⟨(some 16),.load none (.tmp 5),none,0⟩])
 (.cond (.tmp 16)
 (.region 0 [] [
 ⟨(some 17),.mov (.tmp 8),none,0⟩,
 ⟨(some 18),.mov (.tmp 8),none,0⟩,
 ⟨(some 19),.build [(.int .i64 0),(.int .i64 0)] [(0,1,(.tmp 17)),(1,1,(.tmp 18))],none,0⟩,
 ⟨none,.store (some 2) (.tmp 4) (.tmp 19),none,0⟩,
 ⟨none,.store none (.tmp 5) (.cst (.c (.bool false))),none,0⟩])
 .skip))
 (.region 0 [] [
 ⟨(some 20),.load (some 2) (.tmp 4),none,0⟩,
 ⟨(some 21),.mov (.tmp 8),none,0⟩,
 ⟨(some 22),.call 92 true [(.tmp 20),(.tmp 21)],none,0⟩,
 ⟨none,.store (some 2) (.tmp 4) (.tmp 22),none,0⟩])))))))
 (.seq (.region 0 [] [
 ⟨(some 23),.load (some 2) (.tmp 4),none,0⟩,
 ⟨none,.store (some 2) (.tmp 4) (.tmp 23),none,0⟩])
 .ret))))⟩
def f55 : AFunc:=⟨25,[.tmp 5],false,
 (.seq (.region 0 [] [
 ⟨(some 5),.mov (.cst (.c (.int .i64 0))),none,0⟩])
 (.seq (.seq (.region 0 [(0,1),(0,2),(1,2),(0,3),(0,4),(0,5),(1,5),(2,5),(3,5),(4,5),(0,8),(1,8),(2,8),(3,8),(4,8),(5,8),(6,8),(7,8)] [
 ⟨(some 8),.load none (.tmp 1),none,0⟩,
 ⟨(some 9),.mov (.tmp 0),none,0⟩,
 ⟨(some 10),.load none (.tmp 2),none,0⟩,
 ⟨(some 11),.iaddr 2 (.tmp 9) (.tmp 10),none,0⟩,
 ⟨(some 12),.load (some 2) (.tmp 11),none,0⟩,
 ⟨(some 13),.load none (.tmp 3),none,0⟩,
 ⟨(some 14),.call 48 false [(.tmp 8),(.tmp 12),(.tmp 13)],none,0⟩,
 ⟨(some 15),.len (.tmp 14),none,0⟩,
 ⟨(some 16),.mov (.cst (.c (.int .i64 0))),none,0⟩])
 (.block 0 (.loop ⟨[7,17,18,19,20,21,22,23],false,[]⟩
 (.seq (.region 0 [] [
 ⟨(some 17),.bin .lss (.tmp 16) (.tmp 15),none,0⟩])
 (.seq (.cond (.tmp 17)
 .skip
 (.exit 0))
 (.seq (.block 1 (.seq (.region 0 [] [
 ⟨(some 18),.iaddr 1 (.tmp 14) (.tmp 16),none,0⟩,
 ⟨(some 19),.load none (.tmp 18),none,0⟩,
 ⟨(some 7),.mov (.tmp 19),none,0⟩])
 (.region 0 [] [
 ⟨(some 20),.mov (.tmp 5),none,0⟩,
 ⟨(some 21),.mov (.tmp 7),none,0⟩,
 ⟨(some 22),.bin .add (.tmp 20) (.tmp 21),none,0⟩,
 ⟨(some 5),.mov (.tmp 22),none,0⟩])))
 (.region 0 [] [
 ⟨(some 23),.bin .add (.tmp 16) (.cst (.c (.int .i64 1))),none,0⟩,
 ⟨(some 16),.mov (.tmp 23),none,0⟩])))))))
 (.seq (.region 0 [] [
 ⟨(some 24),.mov (.tmp 5),none,0⟩,
 ⟨(some 5),.mov (.tmp 24),none,0⟩])
 .ret)))⟩
def f56 : AFunc:=⟨9,[.tmp 2],false,
 (.seq (.region 1 [] [
 ⟨(some 1),.box (.tmp 0),none,0⟩,
 ⟨(some 2),.mov (.cst (.c (.int .i64 0))),none,1⟩])
 (.seq (.region 0 [] [
 ⟨(some 3),.faddr 1 (.tmp 1),none,0⟩,
 ⟨(some 4),.load none (.tmp 3),none,0⟩,
 ⟨(some 5),.faddr 0 (.tmp 1),none,0⟩,
 ⟨(some 6),.load none (.tmp 5),none,0⟩,
 ⟨(some 7),.bin .sub (.tmp 4) (.tmp 6),none,0⟩,
 ⟨(some 8),.bin .add (.tmp 7) (.cst (.c (.int .i64 1))),none,0⟩,
 ⟨(some 2),.mov (.tmp 8),none,0⟩])
 .ret))⟩
end Am.Vt
