/-
  A part of the proof: the texts TmTabA of this seat, joined.
-/
import Derived.Test.YtninmcgiegmonaaAmA
namespace Am.Tm
open Go Am
set_option maxRecDepth 100000
def f3 : AFunc:=⟨272,[.tmp 8],false,
 (.seq (.region 1 [] [
 ⟨(some 4),.box (.tmp 0),none,0⟩,
 ⟨(some 8),.mov (.cst (.c (.bool false))),none,1⟩])
 (.seq (.seq (.region 0 [] [
 ⟨(some 32),.load (some 7) (.tmp 4),none,0⟩,
 ⟨(some 33),.call 4 true [(.tmp 32)],none,0⟩,
 ⟨(some 34),.not (.tmp 33),none,0⟩])
 (.cond (.tmp 34)
 (.seq (.region 0 [] [
 ⟨(some 35),.call 5 true [],none,0⟩,
 ⟨(some 8),.mov (.tmp 35),none,0⟩])
 .ret)
 .skip))
 (.seq (.region 0 [(0,1),(0,3),(1,3),(2,3),(0,4),(1,4),(2,4),(3,4)] [
 ⟨(some 36),.load (some 7) (.tmp 4),none,0⟩,
 ⟨(some 37),.mov (.tmp 1),none,0⟩,
 ⟨(some 38),.call 6 true [(.tmp 36),(.tmp 37)],none,0⟩,
 ⟨(some 39),.load (some 7) (.tmp 4),none,0⟩,
 ⟨(some 40),.mov (.tmp 2),none,0⟩,
 ⟨(some 41),.call 7 true [(.tmp 39),(.tmp 40)],none,0⟩,
 ⟨(some 9),.mov (.tmp 38),none,0⟩,
 ⟨(some 10),.mov (.tmp 41),none,0⟩])
 (.seq (.region 2 [(0,1),(0,2),(1,2),(0,3),(1,3),(2,3),(1,4)] [
 ⟨(some 42),.load (some 7) (.tmp 4),none,0⟩,
 ⟨(some 43),.load (some 7) (.tmp 4),none,0⟩,
 ⟨(some 11),.alloc [(.int .i64 0),(.int .i64 0),(.int .i64 0),(.int .i64 0),(.int .i64 0),.nils,.nils],none,0⟩,
 ⟨(some 12),.alloc [(.int .i64 0),(.int .i64 0),(.int .i64 0),(.int .i64 0),(.int .i64 0),.nils,.nils],none,1⟩,
 ⟨none,.store (some 7) (.tmp 11) (.tmp 42),none,2⟩,
 ⟨none,.store (some 7) (.tmp 12) (.tmp 43),none,2⟩])
 (.seq (.region 0 [] [
 ⟨(some 44),.faddr 4 (.tmp 4),none,0⟩,
 ⟨(some 45),.load none (.tmp 44),none,0⟩,
 ⟨(some 46),.mov (.tmp 3),none,0⟩,
 ⟨(some 47),.conv .i64 (.tmp 46),none,0⟩,
 ⟨(some 48),.bin .rem (.tmp 47) (.cst (.c (.int .i64 3))),none,0⟩,
 ⟨(some 49),.bin .sub (.tmp 45) (.tmp 48),none,0⟩,
 ⟨(some 50),.mm true (.cst (.c (.int .i64 1))) (.tmp 49),none,0⟩,
 ⟨(some 51),.faddr 4 (.tmp 11),none,0⟩,
 ⟨none,.store none (.tmp 51) (.tmp 50),none,0⟩])
 (.seq (.region 2 [] [
 ⟨(some 52),.bslice 3 0 [(.int .i64 0),(.int .i64 0),(.int .i64 0)] [],none,0⟩,
 ⟨(some 53),.faddr 5 (.tmp 4),none,1⟩,
 ⟨(some 54),.load none (.tmp 53),none,1⟩,
 ⟨(some 55),.append 3 24 (.tmp 52) (.tmp 54),none,1⟩,
 ⟨(some 56),.faddr 5 (.tmp 12),none,2⟩,
 ⟨none,.store none (.tmp 56) (.tmp 55),none,2⟩,
 ⟨(some 57),.faddr 6 (.tmp 12),none,2⟩,
 ⟨none,.store none (.tmp 57) (.cst (.c .nils)),none,2⟩])
 (.seq (.seq (.region 0 [] [
 ⟨(some 13),.mov (.cst (.c (.int .i64 0))),none,0⟩])
 (.block 0 (.loop ⟨[58,59,60,61,62,63,64,65,66,67,68,69,70,71,72,73,74,75],false,[]⟩
 (.seq (.seq (.region 0 [] [
 ⟨(some 58),.mov (.tmp 13),none,0⟩,
 ⟨(some 59),.faddr 6 (.tmp 4),none,0⟩,
 ⟨(some 60),.load none (.tmp 59),none,0⟩,
 ⟨(some 61),.len (.tmp 60),none,0⟩,
 ⟨(some 62),.bin .lss (.tmp 58) (.tmp 61),none,0⟩])
 (.cond (.tmp 62)
 .skip
 (.exit 0)))
 (.seq (.block 1 (.region 1 [(0,2),(1,2),(0,3),(1,3),(0,4),(1,4),(2,4),(3,4),(0,5),(1,5),(0,6),(1,6),(0,7),(1,7),(0,8),(1,8)] [
 ⟨(some 65),.faddr 6 (.tmp 12),none,0⟩,
 ⟨(some 66),.load none (.tmp 65),none,0⟩,
 ⟨(some 67),.faddr 6 (.tmp 4),none,0⟩,
 ⟨(some 68),.load none (.tmp 67),none,0⟩,
 ⟨(some 69),.mov (.tmp 13),none,0⟩,
 ⟨(some 70),.iaddr 1 (.tmp 68) (.tmp 69),none,0⟩,
 ⟨(some 71),.load none (.tmp 70),none,0⟩,
 ⟨(some 72),.call 8 false [(.tmp 71)],none,0⟩,
 ⟨(some 73),.blistc [.nils] [(0,1,(.tmp 72))],none,0⟩,
 ⟨(some 74),.append 1 24 (.tmp 66) (.tmp 73),none,0⟩,
 ⟨(some 75),.faddr 6 (.tmp 12),none,1⟩,
 ⟨none,.store none (.tmp 75) (.tmp 74),none,1⟩]))
 (.region 0 [] [
 ⟨(some 63),.mov (.tmp 13),none,0⟩,
 ⟨(some 64),.bin .add (.tmp 63) (.cst (.c (.int .i64 1))),none,0⟩,
 ⟨(some 13),.mov (.tmp 64),none,0⟩]))))))
 (.seq (.region 0 [(0,2),(1,2),(0,3),(1,3),(0,4),(1,4),(0,6),(1,6),(2,6),(3,6),(4,6),(5,6),(0,7),(1,7),(2,7),(3,7),(4,7),(5,7),(0,8),(1,8),(2,8),(3,8),(4,8),(5,8),(0,9),(1,9),(2,9),(3,9),(4,9),(5,9),(6,9),(7,9),(8,9),(0,10),(1,10),(2,10),(3,10),(4,10),(5,10),(6,10),(7,10),(8,10),(0,11),(1,11),(2,11),(3,11),(4,11),(5,11),(6,11),(7,11),(8,11),(0,12),(1,12),(2,12),(3,12),(4,12),(5,12),(6,13),(7,13),(8,13),(9,13),(10,13),(11,13),(12,13)] [
 ⟨(some 76),.mov (.tmp 3),none,0⟩,
 ⟨(some 77),.conv .i64 (.tmp 76),none,0⟩,
 ⟨(some 78),.faddr 5 (.tmp 12),none,0⟩,
 ⟨(some 79),.load none (.tmp 78),none,0⟩,
 ⟨(some 80),.len (.tmp 79),none,0⟩,
 ⟨(some 81),.bin .rem (.tmp 77) (.tmp 80),none,0⟩,
 ⟨(some 82),.mov (.tmp 3),none,0⟩,
 ⟨(some 83),.conv .i64 (.tmp 82),none,0⟩,
 ⟨(some 84),.bin .quo (.tmp 83) (.cst (.c (.int .i64 4))),none,0⟩,
 ⟨(some 85),.faddr 5 (.tmp 12),none,0⟩,
 ⟨(some 86),.load none (.tmp 85),none,0⟩,
 ⟨(some 87),.len (.tmp 86),none,0⟩,
 ⟨(some 88),.bin .rem (.tmp 84) (.tmp 87),none,0⟩,
 ⟨(some 14),.mov (.tmp 81),none,0⟩,
 ⟨(some 15),.mov (.tmp 88),none,0⟩])
 (.seq (.region 0 [(0,2),(1,2),(0,3),(1,3),(2,3),(0,4),(1,4),(2,4),(0,5),(1,5),(2,5),(3,5),(4,5),(0,6),(1,6),(2,6),(0,7),(1,7),(2,7),(0,8),(1,8),(2,8),(0,9),(1,9),(2,9),(3,9),(4,9),(5,9),(6,9),(7,9),(8,9),(0,10),(1,10),(2,10),(3,10),(4,10),(5,10),(6,10),(7,10),(8,10),(0,11),(1,11),(2,11),(3,11),(4,11),(5,11),(6,11),(7,11),(8,11),(0,12),(1,12),(2,12),(0,13),(1,13),(2,13)] [
 ⟨(some 89),.faddr 5 (.tmp 12),none,0⟩,
 ⟨(some 90),.load none (.tmp 89),none,0⟩,
 ⟨(some 91),.mov (.tmp 14),none,0⟩,
 ⟨(some 92),.faddr 5 (.tmp 12),none,0⟩,
 ⟨(some 93),.load none (.tmp 92),none,0⟩,
 ⟨(some 94),.mov (.tmp 14),none,0⟩,
 ⟨(some 95),.iaddr 3 (.tmp 93) (.tmp 94),none,0⟩,
 ⟨(some 96),.faddr 2 (.tmp 95),none,0⟩,
 ⟨(some 97),.load none (.tmp 96),none,0⟩,
 ⟨(some 98),.mov (.tmp 3),none,0⟩,
 ⟨(some 99),.conv .i64 (.tmp 98),none,0⟩,
 ⟨(some 100),.bin .rem (.tmp 99) (.cst (.c (.int .i64 5))),none,0⟩,
 ⟨(some 101),.bin .sub (.tmp 97) (.tmp 100),none,0⟩,
 ⟨(some 102),.mm true (.cst (.c (.int .i64 0))) (.tmp 101),none,0⟩,
 ⟨(some 103),.iaddr 3 (.tmp 90) (.tmp 91),none,0⟩,
 ⟨(some 104),.faddr 2 (.tmp 103),none,0⟩,
 ⟨none,.store none (.tmp 104) (.tmp 102),none,0⟩])
 (.seq (.region 0 [(0,2),(1,2),(0,5),(1,5),(2,5),(3,5),(4,5),(0,6),(1,6),(2,6),(3,6),(4,6),(5,6),(0,7),(1,7),(2,7),(3,7),(4,7),(5,7),(0,8),(1,8),(2,8),(3,8),(4,8),(5,8),(6,8),(7,8),(0,9),(1,9),(2,9),(3,9),(4,9),(5,9),(0,10),(1,10),(2,10),(3,10),(4,10),(5,10),(0,11),(1,11),(2,11),(3,11),(4,11),(5,11),(6,11),(7,11),(8,11),(9,11),(10,11),(0,12),(1,12),(2,12),(3,12),(4,12),(5,12),(0,13),(1,13),(2,13),(3,13),(4,13),(5,13),(0,14),(1,14),(2,14),(3,14),(4,14),(5,14),(6,14),(7,14),(8,14),(9,14),(10,14),(11,14),(12,14),(13,14),(0,15),(1,15),(2,15),(3,15),(4,15),(5,15),(6,15),(7,15),(8,15),(9,15),(10,15),(11,15),(12,15),(13,15),(0,16),(1,16),(2,16),(3,16),(4,16),(5,16),(6,16),(7,16),(8,16),(9,16),(10,16),(11,16),(12,16),(13,16),(0,17),(1,17),(2,17),(3,17),(4,17),(5,17),(0,18),(1,18),(2,18),(3,18),(4,18),(5,18)] [
 ⟨(some 105),.faddr 6 (.tmp 12),none,0⟩,
 ⟨(some 106),.load none (.tmp 105),none,0⟩,
 ⟨(some 107),.mov (.tmp 14),none,0⟩,
 ⟨(some 108),.iaddr 1 (.tmp 106) (.tmp 107),none,0⟩,
 ⟨(some 109),.load none (.tmp 108),none,0⟩,
 ⟨(some 110),.mov (.tmp 15),none,0⟩,
 ⟨(some 111),.faddr 6 (.tmp 12),none,0⟩,
 ⟨(some 112),.load none (.tmp 111),none,0⟩,
 ⟨(some 113),.mov (.tmp 14),none,0⟩,
 ⟨(some 114),.iaddr 1 (.tmp 112) (.tmp 113),none,0⟩,
 ⟨(some 115),.load none (.tmp 114),none,0⟩,
 ⟨(some 116),.mov (.tmp 15),none,0⟩,
 ⟨(some 117),.iaddr 1 (.tmp 115) (.tmp 116),none,0⟩,
 ⟨(some 118),.load none (.tmp 117),none,0⟩,
 ⟨(some 119),.mov (.tmp 3),none,0⟩,
 ⟨(some 120),.conv .i64 (.tmp 119),none,0⟩,
 ⟨(some 121),.bin .rem (.tmp 120) (.cst (.c (.int .i64 7))),none,0⟩,
 ⟨(some 122),.bin .sub (.tmp 118) (.tmp 121),none,0⟩,
 ⟨(some 123),.mm true (.cst (.c (.int .i64 0))) (.tmp 122),none,0⟩,
 ⟨(some 124),.iaddr 1 (.tmp 109) (.tmp 110),none,0⟩,
 ⟨none,.store none (.tmp 124) (.tmp 123),none,0⟩])
 (.seq (.seq (.frz [12])
 (.region 0 [] [
 ⟨(some 126),.load (some 7) (.tmp 4),none,0⟩,
 ⟨(some 127),.call 10 true [(.tmp 126)],none,0⟩,
 ⟨(some 128),.mov (.tmp 9),none,0⟩,
 ⟨(some 129),.call 8 true [(.tmp 128)],none,0⟩,
 ⟨(some 130),.mov (.tmp 10),none,0⟩,
 ⟨(some 131),.call 8 true [(.tmp 130)],none,0⟩,
 ⟨(some 132),.call 9 true [(.tmp 127),(.tmp 129),(.tmp 131)],none,0⟩,
 ⟨(some 125),.mov (.tmp 132),none,0⟩,
 ⟨(some 133),.extract 0 (.tmp 125),none,0⟩,
 ⟨(some 134),.extract 1 (.tmp 125),none,0⟩,
 ⟨(some 16),.mov (.tmp 133),none,0⟩,
 ⟨(some 17),.mov (.tmp 134),none,0⟩]))
 (.seq (.region 0 [] [
 ⟨(some 136),.load (some 7) (.tmp 11),none,0⟩,
 ⟨(some 137),.call 10 true [(.tmp 136)],none,0⟩,
 ⟨(some 138),.mov (.tmp 9),none,0⟩,
 ⟨(some 139),.call 8 true [(.tmp 138)],none,0⟩,
 ⟨(some 140),.mov (.tmp 10),none,0⟩,
 ⟨(some 141),.call 8 true [(.tmp 140)],none,0⟩,
 ⟨(some 142),.call 9 true [(.tmp 137),(.tmp 139),(.tmp 141)],none,0⟩,
 ⟨(some 135),.mov (.tmp 142),none,0⟩,
 ⟨(some 143),.extract 0 (.tmp 135),none,0⟩,
 ⟨(some 144),.extract 1 (.tmp 135),none,0⟩,
 ⟨(some 18),.mov (.tmp 143),none,0⟩,
 ⟨(some 19),.mov (.tmp 144),none,0⟩])
 (.seq (.region 0 [] [
 ⟨(some 146),.load (some 7) (.tmp 12),none,0⟩,
 ⟨(some 147),.call 10 true [(.tmp 146)],none,0⟩,
 ⟨(some 148),.mov (.tmp 9),none,0⟩,
 ⟨(some 149),.call 8 true [(.tmp 148)],none,0⟩,
 ⟨(some 150),.mov (.tmp 10),none,0⟩,
 ⟨(some 151),.call 8 true [(.tmp 150)],none,0⟩,
 ⟨(some 152),.call 9 true [(.tmp 147),(.tmp 149),(.tmp 151)],none,0⟩,
 ⟨(some 145),.mov (.tmp 152),none,0⟩,
 ⟨(some 153),.extract 0 (.tmp 145),none,0⟩,
 ⟨(some 154),.extract 1 (.tmp 145),none,0⟩,
 ⟨(some 20),.mov (.tmp 153),none,0⟩,
 ⟨(some 21),.mov (.tmp 154),none,0⟩])
 (.seq (.region 0 [] [
 ⟨(some 156),.load (some 7) (.tmp 4),none,0⟩,
 ⟨(some 157),.call 11 true [(.tmp 156)],none,0⟩,
 ⟨(some 155),.mov (.tmp 157),none,0⟩,
 ⟨(some 158),.extract 0 (.tmp 155),none,0⟩,
 ⟨(some 159),.extract 1 (.tmp 155),none,0⟩,
 ⟨(some 160),.extract 2 (.tmp 155),none,0⟩,
 ⟨(some 22),.mov (.tmp 158),none,0⟩,
 ⟨(some 23),.mov (.tmp 159),none,0⟩,
 ⟨(some 24),.mov (.tmp 160),none,0⟩])
 (.seq (.region 0 [] [
 ⟨(some 162),.load (some 7) (.tmp 11),none,0⟩,
 ⟨(some 163),.call 11 true [(.tmp 162)],none,0⟩,
 ⟨(some 161),.mov (.tmp 163),none,0⟩,
 ⟨(some 164),.extract 0 (.tmp 161),none,0⟩,
 ⟨(some 165),.extract 1 (.tmp 161),none,0⟩,
 ⟨(some 166),.extract 2 (.tmp 161),none,0⟩,
 ⟨(some 25),.mov (.tmp 164),none,0⟩,
 ⟨(some 26),.mov (.tmp 165),none,0⟩,
 ⟨(some 27),.mov (.tmp 166),none,0⟩])
 (.seq (.region 0 [] [
 ⟨(some 168),.load (some 7) (.tmp 12),none,0⟩,
 ⟨(some 169),.call 11 true [(.tmp 168)],none,0⟩,
 ⟨(some 167),.mov (.tmp 169),none,0⟩,
 ⟨(some 170),.extract 0 (.tmp 167),none,0⟩,
 ⟨(some 171),.extract 1 (.tmp 167),none,0⟩,
 ⟨(some 172),.extract 2 (.tmp 167),none,0⟩,
 ⟨(some 28),.mov (.tmp 170),none,0⟩,
 ⟨(some 29),.mov (.tmp 171),none,0⟩,
 ⟨(some 30),.mov (.tmp 172),none,0⟩])
 (.seq (.seq (.region 0 [] [
 ⟨(some 173),.mov (.tmp 24),none,0⟩,
 ⟨(some 174),.not (.tmp 173),none,0⟩,
 ⟨(some 175),.mov (.tmp 174),none,0⟩,
 ⟨(some 176),.mov (.tmp 27),some (175,false),0⟩,
 ⟨(some 177),.not (.tmp 176),some (175,false),0⟩,
 ⟨(some 178),.pick (.tmp 175) (.cst (.c (.bool true))) (.tmp 177),none,0⟩,
 ⟨(some 179),.mov (.tmp 178),none,0⟩,
 ⟨(some 180),.mov (.tmp 30),some (179,false),0⟩,
 ⟨(some 181),.not (.tmp 180),some (179,false),0⟩,
 ⟨(some 182),.pick (.tmp 179) (.cst (.c (.bool true))) (.tmp 181),none,0⟩,
 ⟨(some 183),.mov (.tmp 182),none,0⟩,
 ⟨(some 184),.mov (.tmp 25),some (183,false),0⟩,
 ⟨(some 185),.mov (.tmp 22),some (183,false),0⟩,
 ⟨(some 186),.bin .lss (.tmp 184) (.tmp 185),some (183,false),0⟩,
 ⟨(some 187),.pick (.tmp 183) (.cst (.c (.bool true))) (.tmp 186),none,0⟩,
 ⟨(some 188),.mov (.tmp 187),none,0⟩,
 ⟨(some 189),.mov (.tmp 28),some (188,false),0⟩,
 ⟨(some 190),.mov (.tmp 22),some (188,false),0⟩,
 ⟨(some 191),.bin .lss (.tmp 189) (.tmp 190),some (188,false),0⟩,
 ⟨(some 192),.pick (.tmp 188) (.cst (.c (.bool true))) (.tmp 191),none,0⟩])
 (.cond (.tmp 192)
 (.seq (.region 0 [] [
 ⟨(some 8),.mov (.cst (.c (.bool false))),none,0⟩])
 .ret)
 .skip))
 (.seq (.seq (.region 0 [] [
 ⟨(some 193),.mov (.tmp 17),none,0⟩,
 ⟨(some 194),.bin .neq (.tmp 193) (.cst (.c (.int .i64 0))),none,0⟩])
 (.cond (.tmp 194)
 (.seq (.region 0 [] [
 ⟨(some 195),.mov (.tmp 17),none,0⟩,
 ⟨(some 196),.bin .eql (.tmp 195) (.cst (.c (.int .i64 9))),none,0⟩,
 ⟨(some 197),.mov (.tmp 196),none,0⟩,
 ⟨(some 198),.call 5 true [],some (197,true),0⟩,
 ⟨(some 199),.pick (.tmp 197) (.tmp 198) (.cst (.c (.bool false))),none,0⟩,
 ⟨(some 8),.mov (.tmp 199),none,0⟩])
 .ret)
 .skip))
 (.seq (.seq (.region 0 [] [
 ⟨(some 200),.mov (.tmp 19),none,0⟩,
 ⟨(some 201),.bin .neq (.tmp 200) (.cst (.c (.int .i64 0))),none,0⟩,
 ⟨(some 202),.mov (.tmp 201),none,0⟩,
 ⟨(some 203),.mov (.tmp 21),some (202,false),0⟩,
 ⟨(some 204),.bin .neq (.tmp 203) (.cst (.c (.int .i64 0))),some (202,false),0⟩,
 ⟨(some 205),.pick (.tmp 202) (.cst (.c (.bool true))) (.tmp 204),none,0⟩,
 ⟨(some 206),.mov (.tmp 205),none,0⟩,
 ⟨(some 207),.mov (.tmp 16),some (206,false),0⟩,
 ⟨(some 208),.len (.tmp 207),some (206,false),0⟩,
 ⟨(some 209),.faddr 0 (.tmp 4),some (206,false),0⟩,
 ⟨(some 210),.load none (.tmp 209),some (206,false),0⟩,
 ⟨(some 211),.bin .add (.tmp 210) (.cst (.c (.int .i64 1))),some (206,false),0⟩,
 ⟨(some 212),.bin .neq (.tmp 208) (.tmp 211),some (206,false),0⟩,
 ⟨(some 213),.pick (.tmp 206) (.cst (.c (.bool true))) (.tmp 212),none,0⟩,
 ⟨(some 214),.mov (.tmp 213),none,0⟩,
 ⟨(some 215),.mov (.tmp 18),some (214,false),0⟩,
 ⟨(some 216),.len (.tmp 215),some (214,false),0⟩,
 ⟨(some 217),.mov (.tmp 16),some (214,false),0⟩,
 ⟨(some 218),.len (.tmp 217),some (214,false),0⟩,
 ⟨(some 219),.bin .neq (.tmp 216) (.tmp 218),some (214,false),0⟩,
 ⟨(some 220),.pick (.tmp 214) (.cst (.c (.bool true))) (.tmp 219),none,0⟩,
 ⟨(some 221),.mov (.tmp 220),none,0⟩,
 ⟨(some 222),.mov (.tmp 20),some (221,false),0⟩,
 ⟨(some 223),.len (.tmp 222),some (221,false),0⟩,
 ⟨(some 224),.mov (.tmp 16),some (221,false),0⟩,
 ⟨(some 225),.len (.tmp 224),some (221,false),0⟩,
 ⟨(some 226),.bin .neq (.tmp 223) (.tmp 225),some (221,false),0⟩,
 ⟨(some 227),.pick (.tmp 221) (.cst (.c (.bool true))) (.tmp 226),none,0⟩])
 (.cond (.tmp 227)
 (.seq (.region 0 [] [
 ⟨(some 8),.mov (.cst (.c (.bool false))),none,0⟩])
 .ret)
 .skip))
 (.seq (.seq (.region 0 [] [
 ⟨(some 31),.mov (.cst (.c (.int .i64 0))),none,0⟩])
 (.block 2 (.loop ⟨[8,228,229,230,231,232,233,234,235,236,237,238,239,240,241,242,243,244,245,246,247,248,249,250,251,252,253,254,255,256,257,258,259,260,261,262,263,264,265,266,267,268,269,270],false,[]⟩
 (.seq (.seq (.region 0 [] [
 ⟨(some 228),.mov (.tmp 31),none,0⟩,
 ⟨(some 229),.mov (.tmp 16),none,0⟩,
 ⟨(some 230),.len (.tmp 229),none,0⟩,
 ⟨(some 231),.bin .lss (.tmp 228) (.tmp 230),none,0⟩])
 (.cond (.tmp 231)
 .skip
 (.exit 2)))
 (.seq (.block 3 (.seq (.region 0 [(0,1),(0,5),(1,5),(2,5),(3,5),(4,5),(0,6),(1,6),(2,6),(3,6),(4,6),(5,6),(0,7),(1,7),(2,7),(3,7),(4,7),(0,8),(1,8),(2,8),(3,8),(4,8),(0,9),(1,9),(2,9),(3,9),(4,9),(12,13),(12,17),(13,17),(14,17),(15,17),(16,17),(12,18),(13,18),(14,18),(15,18),(16,18),(17,18),(12,19),(13,19),(14,19),(15,19),(16,19),(12,20),(13,20),(14,20),(15,20),(16,20),(12,21),(13,21),(14,21),(15,21),(16,21),(25,26),(25,30),(26,30),(27,30),(28,30),(29,30),(25,31),(26,31),(27,31),(28,31),(29,31),(30,31),(25,32),(26,32),(27,32),(28,32),(29,32),(25,33),(26,33),(27,33),(28,33),(29,33),(25,34),(26,34),(27,34),(28,34),(29,34)] [
 ⟨(some 234),.mov (.tmp 18),none,0⟩,
 ⟨(some 235),.mov (.tmp 31),none,0⟩,
 ⟨(some 236),.iaddr 3 (.tmp 234) (.tmp 235),none,0⟩,
 ⟨(some 237),.faddr 0 (.tmp 236),none,0⟩,
 ⟨(some 238),.load none (.tmp 237),none,0⟩,
 ⟨(some 239),.mov (.tmp 16),none,0⟩,
 ⟨(some 240),.mov (.tmp 31),none,0⟩,
 ⟨(some 241),.iaddr 3 (.tmp 239) (.tmp 240),none,0⟩,
 ⟨(some 242),.faddr 0 (.tmp 241),none,0⟩,
 ⟨(some 243),.load none (.tmp 242),none,0⟩,
 ⟨(some 244),.bin .lss (.tmp 238) (.tmp 243),none,0⟩,
 ⟨(some 245),.mov (.tmp 244),none,0⟩,
 ⟨(some 246),.mov (.tmp 20),some (245,false),0⟩,
 ⟨(some 247),.mov (.tmp 31),some (245,false),0⟩,
 ⟨(some 248),.iaddr 3 (.tmp 246) (.tmp 247),some (245,false),0⟩,
 ⟨(some 249),.faddr 0 (.tmp 248),some (245,false),0⟩,
 ⟨(some 250),.load none (.tmp 249),some (245,false),0⟩,
 ⟨(some 251),.mov (.tmp 16),some (245,false),0⟩,
 ⟨(some 252),.mov (.tmp 31),some (245,false),0⟩,
 ⟨(some 253),.iaddr 3 (.tmp 251) (.tmp 252),some (245,false),0⟩,
 ⟨(some 254),.faddr 0 (.tmp 253),some (245,false),0⟩,
 ⟨(some 255),.load none (.tmp 254),some (245,false),0⟩,
 ⟨(some 256),.bin .neq (.tmp 250) (.tmp 255),some (245,false),0⟩,
 ⟨(some 257),.pick (.tmp 245) (.cst (.c (.bool true))) (.tmp 256),none,0⟩,
 ⟨(some 258),.mov (.tmp 257),none,0⟩,
 ⟨(some 259),.mov (.tmp 20),some (258,false),0⟩,
 ⟨(some 260),.mov (.tmp 31),some (258,false),0⟩,
 ⟨(some 261),.iaddr 3 (.tmp 259) (.tmp 260),some (258,false),0⟩,
 ⟨(some 262),.faddr 2 (.tmp 261),some (258,false),0⟩,
 ⟨(some 263),.load none (.tmp 262),some (258,false),0⟩,
 ⟨(some 264),.mov (.tmp 16),some (258,false),0⟩,
 ⟨(some 265),.mov (.tmp 31),some (258,false),0⟩,
 ⟨(some 266),.iaddr 3 (.tmp 264) (.tmp 265),some (258,false),0⟩,
 ⟨(some 267),.faddr 2 (.tmp 266),some (258,false),0⟩,
 ⟨(some 268),.load none (.tmp 267),some (258,false),0⟩,
 ⟨(some 269),.bin .lss (.tmp 263) (.tmp 268),some (258,false),0⟩,
 ⟨(some 270),.pick (.tmp 258) (.cst (.c (.bool true))) (.tmp 269),none,0⟩])
 (.cond (.tmp 270)
 (.seq (.region 0 [] [
 ⟨(some 8),.mov (.cst (.c (.bool false))),none,0⟩])
 .ret)
 .skip)))
 (.region 0 [] [
 ⟨(some 232),.mov (.tmp 31),none,0⟩,
 ⟨(some 233),.bin .add (.tmp 232) (.cst (.c (.int .i64 1))),none,0⟩,
 ⟨(some 31),.mov (.tmp 233),none,0⟩]))))))
 (.seq (.region 0 [] [
 ⟨(some 271),.call 5 true [],none,0⟩,
 ⟨(some 8),.mov (.tmp 271),none,0⟩])
 .ret)))))))))))))))))))))⟩
def f4 : AFunc:=⟨10,[.tmp 2],false,
 (.seq (.region 1 [] [
 ⟨(some 1),.box (.tmp 0),none,0⟩,
 ⟨(some 2),.mov (.cst (.c (.bool false))),none,1⟩])
 (.seq (.region 0 [] [
 ⟨(some 3),.load (some 7) (.tmp 1),none,0⟩,
 ⟨(some 4),.call 12 true [(.tmp 3)],none,0⟩,
 ⟨(some 5),.mov (.tmp 4),none,0⟩,
 ⟨(some 6),.load (some 7) (.tmp 1),some (5,true),0⟩,
 ⟨(some 7),.call 13 true [(.tmp 6)],some (5,true),0⟩,
 ⟨(some 8),.bin .eql (.tmp 7) (.cst (.c (.int .i64 0))),some (5,true),0⟩,
 ⟨(some 9),.pick (.tmp 5) (.tmp 8) (.cst (.c (.bool false))),none,0⟩,
 ⟨(some 2),.mov (.tmp 9),none,0⟩])
 .ret))⟩
def f5 : AFunc:=⟨137,[.tmp 0],false,
 (.seq (.region 0 [] [
 ⟨(some 0),.mov (.cst (.c (.bool false))),none,0⟩])
 (.seq (.region 2 [] [
 ⟨(some 19),.call 14 true [(.cst (.c (.int .i64 10)))],none,0⟩,
 ⟨(some 20),.bslice 1 3 [(.int .i64 0)] [(0,(.cst (.c (.int .i64 0)))),(1,(.cst (.c (.int .i64 0)))),(2,(.cst (.c (.int .i64 1))))],none,0⟩,
 ⟨(some 21),.bslice 1 1 [(.int .i64 0)] [(0,(.cst (.c (.int .i64 2))))],none,1⟩,
 ⟨(some 22),.call 9 true [(.tmp 19),(.tmp 20),(.tmp 21)],none,2⟩,
 ⟨(some 18),.mov (.tmp 22),none,2⟩,
 ⟨(some 23),.extract 0 (.tmp 18),none,2⟩,
 ⟨(some 24),.extract 1 (.tmp 18),none,2⟩,
 ⟨(some 1),.mov (.tmp 23),none,2⟩,
 ⟨(some 2),.mov (.tmp 24),none,2⟩])
 (.seq (.region 1 [] [
 ⟨(some 26),.call 14 true [(.cst (.c (.int .i64 10)))],none,0⟩,
 ⟨(some 27),.bslice 1 3 [(.int .i64 0)] [(0,(.cst (.c (.int .i64 0)))),(1,(.cst (.c (.int .i64 1)))),(2,(.cst (.c (.int .i64 0))))],none,0⟩,
 ⟨(some 28),.call 15 true [(.tmp 26),(.tmp 27)],none,1⟩,
 ⟨(some 25),.mov (.tmp 28),none,1⟩,
 ⟨(some 29),.extract 0 (.tmp 25),none,1⟩,
 ⟨(some 30),.extract 1 (.tmp 25),none,1⟩,
 ⟨(some 31),.extract 2 (.tmp 25),none,1⟩,
 ⟨(some 3),.mov (.tmp 29),none,1⟩,
 ⟨(some 4),.mov (.tmp 30),none,1⟩,
 ⟨(some 5),.mov (.tmp 31),none,1⟩])
 (.seq (.region 0 [] [
 ⟨(some 33),.call 14 true [(.cst (.c (.int .i64 10)))],none,0⟩,
 ⟨(some 34),.call 16 true [(.tmp 33)],none,0⟩,
 ⟨(some 32),.mov (.tmp 34),none,0⟩,
 ⟨(some 35),.extract 0 (.tmp 32),none,0⟩,
 ⟨(some 36),.extract 1 (.tmp 32),none,0⟩,
 ⟨(some 37),.extract 2 (.tmp 32),none,0⟩,
 ⟨(some 6),.mov (.tmp 35),none,0⟩,
 ⟨(some 7),.mov (.tmp 36),none,0⟩,
 ⟨(some 8),.mov (.tmp 37),none,0⟩])
 (.seq (.region 0 [] [
 ⟨(some 39),.call 14 true [(.cst (.c (.int .i64 10)))],none,0⟩,
 ⟨(some 40),.call 17 true [(.tmp 39)],none,0⟩,
 ⟨(some 38),.mov (.tmp 40),none,0⟩,
 ⟨(some 41),.extract 0 (.tmp 38),none,0⟩,
 ⟨(some 42),.extract 1 (.tmp 38),none,0⟩,
 ⟨(some 9),.mov (.tmp 41),none,0⟩,
 ⟨(some 10),.mov (.tmp 42),none,0⟩])
 (.seq (.region 0 [] [
 ⟨(some 44),.call 14 true [(.cst (.c (.int .i64 10)))],none,0⟩,
 ⟨(some 45),.call 18 true [(.tmp 44)],none,0⟩,
 ⟨(some 43),.mov (.tmp 45),none,0⟩,
 ⟨(some 46),.extract 0 (.tmp 43),none,0⟩,
 ⟨(some 47),.extract 1 (.tmp 43),none,0⟩,
 ⟨(some 11),.mov (.tmp 46),none,0⟩,
 ⟨(some 12),.mov (.tmp 47),none,0⟩])
 (.seq (.region 0 [] [
 ⟨(some 49),.call 14 true [(.cst (.c (.int .i64 10)))],none,0⟩,
 ⟨(some 50),.call 19 true [(.tmp 49),(.cst (.c (.int .i64 0)))],none,0⟩,
 ⟨(some 48),.mov (.tmp 50),none,0⟩,
 ⟨(some 51),.extract 0 (.tmp 48),none,0⟩,
 ⟨(some 52),.extract 1 (.tmp 48),none,0⟩,
 ⟨(some 13),.mov (.tmp 51),none,0⟩,
 ⟨(some 14),.mov (.tmp 52),none,0⟩])
 (.seq (.region 2 [] [
 ⟨(some 54),.call 14 true [(.cst (.c (.int .i64 10)))],none,0⟩,
 ⟨(some 55),.bslice 1 1 [(.int .i64 0)] [(0,(.cst (.c (.int .i64 0))))],none,0⟩,
 ⟨(some 56),.bslice 1 1 [(.int .i64 0)] [(0,(.cst (.c (.int .i64 0))))],none,1⟩,
 ⟨(some 57),.call 20 true [(.tmp 54),(.tmp 55),(.tmp 56)],none,2⟩,
 ⟨(some 53),.mov (.tmp 57),none,2⟩,
 ⟨(some 58),.extract 0 (.tmp 53),none,2⟩,
 ⟨(some 59),.extract 1 (.tmp 53),none,2⟩,
 ⟨(some 60),.extract 2 (.tmp 53),none,2⟩,
 ⟨(some 15),.mov (.tmp 58),none,2⟩,
 ⟨(some 16),.mov (.tmp 59),none,2⟩,
 ⟨(some 17),.mov (.tmp 60),none,2⟩])
 (.seq (.region 2 [(8,11),(9,11),(10,11),(23,24),(32,33)] [
 ⟨(some 61),.mov (.tmp 2),none,0⟩,
 ⟨(some 62),.bin .eql (.tmp 61) (.cst (.c (.int .i64 0))),none,0⟩,
 ⟨(some 63),.mov (.tmp 62),none,0⟩,
 ⟨(some 64),.mov (.tmp 1),some (63,true),0⟩,
 ⟨(some 65),.len (.tmp 64),some (63,true),0⟩,
 ⟨(some 66),.bin .eql (.tmp 65) (.cst (.c (.int .i64 3))),some (63,true),0⟩,
 ⟨(some 67),.pick (.tmp 63) (.tmp 66) (.cst (.c (.bool false))),none,0⟩,
 ⟨(some 68),.mov (.tmp 67),none,0⟩,
 ⟨(some 69),.mov (.tmp 1),some (68,true),0⟩,
 ⟨(some 70),.iaddr 3 (.tmp 69) (.cst (.c (.int .i64 2))),some (68,true),0⟩,
 ⟨(some 71),.load (some 3) (.tmp 70),some (68,true),0⟩,
 ⟨(some 72),.call 21 true [(.cst (.c (.int .i64 15))),(.cst (.c (.int .i64 9))),(.cst (.c (.int .i64 44)))],some (68,true),0⟩,
 ⟨(some 73),.eqA false [(some .i64),(some .i64),(some .i64)] (.tmp 71) (.tmp 72),some (68,true),0⟩,
 ⟨(some 74),.pick (.tmp 68) (.tmp 73) (.cst (.c (.bool false))),none,0⟩,
 ⟨(some 75),.mov (.tmp 74),none,0⟩,
 ⟨(some 76),.mov (.tmp 5),some (75,true),0⟩,
 ⟨(some 77),.bin .eql (.tmp 76) (.cst (.c (.int .i64 0))),some (75,true),0⟩,
 ⟨(some 78),.pick (.tmp 75) (.tmp 77) (.cst (.c (.bool false))),none,0⟩,
 ⟨(some 79),.mov (.tmp 78),none,0⟩,
 ⟨(some 80),.mov (.tmp 3),some (79,true),0⟩,
 ⟨(some 81),.bin .eql (.tmp 80) (.cst (.c (.int .i64 29))),some (79,true),0⟩,
 ⟨(some 82),.pick (.tmp 79) (.tmp 81) (.cst (.c (.bool false))),none,0⟩,
 ⟨(some 83),.mov (.tmp 82),none,0⟩,
 ⟨(some 84),.mov (.tmp 4),some (83,true),0⟩,
 ⟨(some 85),.bslice 1 1 [(.int .i64 0)] [(0,(.cst (.c (.int .i64 1))))],some (83,true),0⟩,
 ⟨(some 86),.call 22 true [(.tmp 84),(.tmp 85)],some (83,true),1⟩,
 ⟨(some 87),.pick (.tmp 83) (.tmp 86) (.cst (.c (.bool false))),none,1⟩,
 ⟨(some 88),.mov (.tmp 87),none,1⟩,
 ⟨(some 89),.mov (.tmp 8),some (88,true),1⟩,
 ⟨(some 90),.bin .eql (.tmp 89) (.cst (.c (.int .i64 0))),some (88,true),1⟩,
 ⟨(some 91),.pick (.tmp 88) (.tmp 90) (.cst (.c (.bool false))),none,1⟩,
 ⟨(some 92),.mov (.tmp 91),none,1⟩,
 ⟨(some 93),.mov (.tmp 6),some (92,true),1⟩,
 ⟨(some 94),.bslice 1 3 [(.int .i64 0)] [(0,(.cst (.c (.int .i64 0)))),(1,(.cst (.c (.int .i64 0)))),(2,(.cst (.c (.int .i64 1))))],some (92,true),1⟩,
 ⟨(some 95),.call 22 true [(.tmp 93),(.tmp 94)],some (92,true),2⟩,
 ⟨(some 96),.pick (.tmp 92) (.tmp 95) (.cst (.c (.bool false))),none,2⟩,
 ⟨(some 97),.mov (.tmp 96),none,2⟩,
 ⟨(some 98),.mov (.tmp 7),some (97,true),2⟩,
 ⟨(some 99),.bin .eql (.tmp 98) (.cst (.c (.int .i64 34))),some (97,true),2⟩,
 ⟨(some 100),.pick (.tmp 97) (.tmp 99) (.cst (.c (.bool false))),none,2⟩,
 ⟨(some 101),.mov (.tmp 100),none,2⟩,
 ⟨(some 102),.mov (.tmp 10),some (101,true),2⟩,
 ⟨(some 103),.bin .eql (.tmp 102) (.cst (.c (.int .i64 0))),some (101,true),2⟩,
 ⟨(some 104),.pick (.tmp 101) (.tmp 103) (.cst (.c (.bool false))),none,2⟩,
 ⟨(some 105),.mov (.tmp 104),none,2⟩,
 ⟨(some 106),.mov (.tmp 9),some (105,true),2⟩,
 ⟨(some 107),.bin .eql (.tmp 106) (.cst (.c (.int .i64 34))),some (105,true),2⟩,
 ⟨(some 108),.pick (.tmp 105) (.tmp 107) (.cst (.c (.bool false))),none,2⟩,
 ⟨(some 109),.mov (.tmp 108),none,2⟩,
 ⟨(some 110),.mov (.tmp 12),some (109,true),2⟩,
 ⟨(some 111),.bin .eql (.tmp 110) (.cst (.c (.int .i64 0))),some (109,true),2⟩,
 ⟨(some 112),.pick (.tmp 109) (.tmp 111) (.cst (.c (.bool false))),none,2⟩,
 ⟨(some 113),.mov (.tmp 112),none,2⟩,
 ⟨(some 114),.mov (.tmp 11),some (113,true),2⟩,
 ⟨(some 115),.bin .eql (.tmp 114) (.cst (.c (.int .i64 2))),some (113,true),2⟩,
 ⟨(some 116),.pick (.tmp 113) (.tmp 115) (.cst (.c (.bool false))),none,2⟩,
 ⟨(some 117),.mov (.tmp 116),none,2⟩,
 ⟨(some 118),.mov (.tmp 14),some (117,true),2⟩,
 ⟨(some 119),.bin .eql (.tmp 118) (.cst (.c (.int .i64 0))),some (117,true),2⟩,
 ⟨(some 120),.pick (.tmp 117) (.tmp 119) (.cst (.c (.bool false))),none,2⟩,
 ⟨(some 121),.mov (.tmp 120),none,2⟩,
 ⟨(some 122),.mov (.tmp 13),some (121,true),2⟩,
 ⟨(some 123),.bin .eql (.tmp 122) (.cst (.c (.int .i64 26))),some (121,true),2⟩,
 ⟨(some 124),.pick (.tmp 121) (.tmp 123) (.cst (.c (.bool false))),none,2⟩,
 ⟨(some 125),.mov (.tmp 124),none,2⟩,
 ⟨(some 126),.mov (.tmp 17),some (125,true),2⟩,
 ⟨(some 127),.bin .eql (.tmp 126) (.cst (.c (.int .i64 0))),some (125,true),2⟩,
 ⟨(some 128),.pick (.tmp 125) (.tmp 127) (.cst (.c (.bool false))),none,2⟩,
 ⟨(some 129),.mov (.tmp 128),none,2⟩,
 ⟨(some 130),.mov (.tmp 15),some (129,true),2⟩,
 ⟨(some 131),.bin .eql (.tmp 130) (.cst (.c (.int .i64 0))),some (129,true),2⟩,
 ⟨(some 132),.pick (.tmp 129) (.tmp 131) (.cst (.c (.bool false))),none,2⟩,
 ⟨(some 133),.mov (.tmp 132),none,2⟩,
 ⟨(some 134),.mov (.tmp 16),some (133,true),2⟩,
 ⟨(some 135),.bin .eql (.tmp 134) (.cst (.c (.int .i64 39))),some (133,true),2⟩,
 ⟨(some 136),.pick (.tmp 133) (.tmp 135) (.cst (.c (.bool false))),none,2⟩,
 ⟨(some 0),.mov (.tmp 136),none,2⟩])
 .ret)))))))))⟩
def f6 : AFunc:=⟨12,[.tmp 4],false,
 (.seq (.region 1 [] [
 ⟨(some 2),.box (.tmp 0),none,0⟩,
 ⟨(some 4),.mov (.cst (.c .nils)),none,1⟩])
 (.seq (.region 0 [(0,1),(0,2),(0,3),(1,3),(2,3),(0,4),(1,4),(2,4),(0,5)] [
 ⟨(some 5),.load (some 7) (.tmp 2),none,0⟩,
 ⟨(some 6),.mov (.tmp 1),none,0⟩,
 ⟨(some 7),.conv .i64 (.tmp 6),none,0⟩,
 ⟨(some 8),.load (some 7) (.tmp 2),none,0⟩,
 ⟨(some 9),.call 24 true [(.tmp 8)],none,0⟩,
 ⟨(some 10),.bin .rem (.tmp 7) (.tmp 9),none,0⟩,
 ⟨(some 11),.call 23 true [(.tmp 5),(.tmp 10)],none,0⟩,
 ⟨(some 4),.mov (.tmp 11),none,0⟩])
 .ret))⟩
def f7 : AFunc:=⟨16,[.tmp 4],false,
 (.seq (.region 1 [] [
 ⟨(some 2),.box (.tmp 0),none,0⟩,
 ⟨(some 4),.mov (.cst (.c .nils)),none,1⟩])
 (.seq (.region 0 [] [
 ⟨(some 6),.load (some 7) (.tmp 2),none,0⟩,
 ⟨(some 7),.call 25 true [(.tmp 6)],none,0⟩,
 ⟨(some 5),.mov (.tmp 7),none,0⟩])
 (.seq (.region 0 [] [
 ⟨(some 8),.mov (.tmp 5),none,0⟩,
 ⟨(some 9),.mov (.tmp 1),none,0⟩,
 ⟨(some 10),.conv .i64 (.tmp 9),none,0⟩,
 ⟨(some 11),.mov (.tmp 5),none,0⟩,
 ⟨(some 12),.len (.tmp 11),none,0⟩,
 ⟨(some 13),.bin .rem (.tmp 10) (.tmp 12),none,0⟩,
 ⟨(some 14),.iaddr 1 (.tmp 8) (.tmp 13),none,0⟩,
 ⟨(some 15),.load none (.tmp 14),none,0⟩,
 ⟨(some 4),.mov (.tmp 15),none,0⟩])
 .ret)))⟩
def f8 : AFunc:=⟨6,[.tmp 2],false,
 (.seq (.region 0 [] [
 ⟨(some 2),.mov (.cst (.c .nils)),none,0⟩])
 (.seq (.region 2 [] [
 ⟨(some 3),.bslice 1 0 [(.int .i64 0)] [],none,0⟩,
 ⟨(some 4),.mov (.tmp 0),none,1⟩,
 ⟨(some 5),.append 1 8 (.tmp 3) (.tmp 4),none,1⟩,
 ⟨(some 2),.mov (.tmp 5),none,2⟩])
 .ret))⟩
def f9 : AFunc:=⟨41,[.tmp 6,.tmp 7],false,
 (.seq (.region 1 [] [
 ⟨(some 3),.box (.tmp 0),none,0⟩,
 ⟨(some 6),.mov (.cst (.c .nils)),none,1⟩,
 ⟨(some 7),.mov (.cst (.c (.int .i64 0))),none,1⟩])
 (.seq (.seq (.region 0 [] [
 ⟨(some 12),.load (some 7) (.tmp 3),none,0⟩,
 ⟨(some 13),.call 26 true [(.tmp 12)],none,0⟩,
 ⟨(some 8),.mov (.tmp 13),none,0⟩])
 (.seq (.region 0 [] [
 ⟨(some 14),.mov (.tmp 8),none,0⟩,
 ⟨(some 15),.bin .neq (.tmp 14) (.cst (.c (.int .i64 0))),none,0⟩])
 (.cond (.tmp 15)
 (.seq (.region 0 [] [
 ⟨(some 16),.mov (.tmp 8),none,0⟩,
 ⟨(some 6),.mov (.cst (.c .nils)),none,0⟩,
 ⟨(some 7),.mov (.tmp 16),none,0⟩])
 .ret)
 .skip)))
 (.seq (.seq (.region 0 [] [
 ⟨(some 17),.load (some 7) (.tmp 3),none,0⟩,
 ⟨(some 18),.mov (.tmp 1),none,0⟩,
 ⟨(some 19),.call 27 true [(.tmp 17),(.tmp 18)],none,0⟩,
 ⟨(some 20),.not (.tmp 19),none,0⟩,
 ⟨(some 21),.mov (.tmp 20),none,0⟩,
 ⟨(some 22),.load (some 7) (.tmp 3),some (21,false),0⟩,
 ⟨(some 23),.mov (.tmp 2),some (21,false),0⟩,
 ⟨(some 24),.faddr 0 (.tmp 3),some (21,false),0⟩,
 ⟨(some 25),.load none (.tmp 24),some (21,false),0⟩,
 ⟨(some 26),.bin .add (.tmp 25) (.cst (.c (.int .i64 1))),some (21,false),0⟩,
 ⟨(some 27),.call 28 true [(.tmp 22),(.tmp 23),(.tmp 26)],some (21,false),0⟩,
 ⟨(some 28),.not (.tmp 27),some (21,false),0⟩,
 ⟨(some 29),.pick (.tmp 21) (.cst (.c (.bool true))) (.tmp 28),none,0⟩])
 (.cond (.tmp 29)
 (.seq (.region 0 [] [
 ⟨(some 6),.mov (.cst (.c .nils)),none,0⟩,
 ⟨(some 7),.mov (.cst (.c (.int .i64 2))),none,0⟩])
 .ret)
 .skip))
 (.seq (.region 1 [] [
 ⟨(some 31),.load (some 7) (.tmp 3),none,0⟩,
 ⟨(some 32),.mov (.tmp 1),none,0⟩,
 ⟨(some 33),.mov (.tmp 2),none,0⟩,
 ⟨(some 34),.call 29 true [(.tmp 31),(.tmp 32),(.tmp 33)],none,0⟩,
 ⟨(some 30),.mov (.tmp 34),none,0⟩,
 ⟨(some 35),.extract 0 (.tmp 30),none,0⟩,
 ⟨(some 36),.extract 1 (.tmp 30),none,0⟩,
 ⟨(some 37),.extract 2 (.tmp 30),none,0⟩,
 ⟨(some 10),.alloc [(.int .i64 0),(.int .i64 0),(.int .i64 0),(.int .i64 0),(.int .i64 0),(.int .i64 0),(.int .i64 0),(.int .i64 0),(.int .i64 0),(.int .i64 0),(.int .i64 0)],none,0⟩,
 ⟨(some 9),.mov (.tmp 35),none,1⟩,
 ⟨none,.store (some 11) (.tmp 10) (.tmp 36),none,1⟩,
 ⟨(some 11),.mov (.tmp 37),none,1⟩])
 (.seq (.seq (.region 0 [] [
 ⟨(some 38),.mov (.tmp 11),none,0⟩,
 ⟨(some 39),.not (.tmp 38),none,0⟩])
 (.cond (.tmp 39)
 (.seq (.region 0 [] [
 ⟨(some 6),.mov (.cst (.c .nils)),none,0⟩,
 ⟨(some 7),.mov (.cst (.c (.int .i64 9))),none,0⟩])
 .ret)
 .skip))
 (.seq (.region 0 [] [
 ⟨(some 40),.mov (.tmp 9),none,0⟩,
 ⟨(some 6),.mov (.tmp 40),none,0⟩,
 ⟨(some 7),.mov (.cst (.c (.int .i64 0))),none,0⟩])
 .ret))))))⟩
def f10 : AFunc:=⟨61,[.cell 2 (some 7)],false,
 (.seq (.region 2 [] [
 ⟨(some 1),.box (.tmp 0),none,0⟩,
 ⟨(some 2),.alloc [(.int .i64 0),(.int .i64 0),(.int .i64 0),(.int .i64 0),(.int .i64 0),.nils,.nils],none,1⟩])
 (.seq (.region 1 [] [
 ⟨(some 7),.faddr 0 (.tmp 1),none,0⟩,
 ⟨(some 8),.load none (.tmp 7),none,0⟩,
 ⟨(some 9),.faddr 1 (.tmp 1),none,0⟩,
 ⟨(some 10),.load none (.tmp 9),none,0⟩,
 ⟨(some 11),.faddr 2 (.tmp 1),none,0⟩,
 ⟨(some 12),.load none (.tmp 11),none,0⟩,
 ⟨(some 13),.faddr 3 (.tmp 1),none,0⟩,
 ⟨(some 14),.load none (.tmp 13),none,0⟩,
 ⟨(some 15),.faddr 4 (.tmp 1),none,0⟩,
 ⟨(some 16),.load none (.tmp 15),none,0⟩,
 ⟨(some 17),.build [(.int .i64 0),(.int .i64 0),(.int .i64 0),(.int .i64 0),(.int .i64 0),.nils,.nils] [(0,1,(.tmp 8)),(1,1,(.tmp 10)),(2,1,(.tmp 12)),(3,1,(.tmp 14)),(4,1,(.tmp 16))],none,0⟩,
 ⟨(some 3),.alloc [(.int .i64 0),(.int .i64 0),(.int .i64 0),(.int .i64 0),(.int .i64 0),.nils,.nils],none,0⟩,
 ⟨none,.store (some 7) (.tmp 3) (.tmp 17),none,1⟩])
 (.seq (.seq (.region 0 [] [
 ⟨(some 4),.mov (.cst (.c (.int .i64 0))),none,0⟩])
 (.block 0 (.loop ⟨[5,18,19,20,21,22,23,24,25,26,27,28,29,30,31,32,33,34,35,36,37,38,39,40,41],true,[(3,(some 5),3)]⟩
 (.seq (.seq (.region 0 [] [
 ⟨(some 18),.mov (.tmp 4),none,0⟩,
 ⟨(some 19),.faddr 5 (.tmp 1),none,0⟩,
 ⟨(some 20),.load none (.tmp 19),none,0⟩,
 ⟨(some 21),.len (.tmp 20),none,0⟩,
 ⟨(some 22),.bin .lss (.tmp 18) (.tmp 21),none,0⟩])
 (.cond (.tmp 22)
 .skip
 (.exit 0)))
 (.seq (.block 1 (.seq (.region 1 [] [
 ⟨(some 25),.faddr 5 (.tmp 1),none,0⟩,
 ⟨(some 26),.load none (.tmp 25),none,0⟩,
 ⟨(some 27),.mov (.tmp 4),none,0⟩,
 ⟨(some 28),.iaddr 3 (.tmp 26) (.tmp 27),none,0⟩,
 ⟨(some 29),.load (some 3) (.tmp 28),none,0⟩,
 ⟨(some 5),.alloc [(.int .i64 0),(.int .i64 0),(.int .i64 0)],none,0⟩,
 ⟨none,.store (some 3) (.tmp 5) (.tmp 29),none,1⟩])
 (.region 2 [] [
 ⟨(some 30),.faddr 5 (.tmp 3),none,0⟩,
 ⟨(some 31),.load none (.tmp 30),none,0⟩,
 ⟨(some 32),.faddr 0 (.tmp 5),none,0⟩,
 ⟨(some 33),.load none (.tmp 32),none,0⟩,
 ⟨(some 34),.faddr 1 (.tmp 5),none,0⟩,
 ⟨(some 35),.load none (.tmp 34),none,0⟩,
 ⟨(some 36),.faddr 2 (.tmp 5),none,0⟩,
 ⟨(some 37),.load none (.tmp 36),none,0⟩,
 ⟨(some 38),.build [(.int .i64 0),(.int .i64 0),(.int .i64 0)] [(0,1,(.tmp 33)),(1,1,(.tmp 35)),(2,1,(.tmp 37))],none,0⟩,
 ⟨(some 39),.bslice 3 1 [(.int .i64 0),(.int .i64 0),(.int .i64 0)] [(0,(.tmp 38))],none,0⟩,
 ⟨(some 40),.append 3 24 (.tmp 31) (.tmp 39),none,1⟩,
 ⟨(some 41),.faddr 5 (.tmp 3),none,2⟩,
 ⟨none,.store none (.tmp 41) (.tmp 40),none,2⟩])))
 (.region 0 [] [
 ⟨(some 23),.mov (.tmp 4),none,0⟩,
 ⟨(some 24),.bin .add (.tmp 23) (.cst (.c (.int .i64 1))),none,0⟩,
 ⟨(some 4),.mov (.tmp 24),none,0⟩]))))))
 (.seq (.seq (.region 0 [] [
 ⟨(some 6),.mov (.cst (.c (.int .i64 0))),none,0⟩])
 (.block 2 (.loop ⟨[42,43,44,45,46,47,48,49,50,51,52,53,54,55,56,57,58,59],true,[(3,(some 6),1)]⟩
 (.seq (.seq (.region 0 [] [
 ⟨(some 42),.mov (.tmp 6),none,0⟩,
 ⟨(some 43),.faddr 6 (.tmp 1),none,0⟩,
 ⟨(some 44),.load none (.tmp 43),none,0⟩,
 ⟨(some 45),.len (.tmp 44),none,0⟩,
 ⟨(some 46),.bin .lss (.tmp 42) (.tmp 45),none,0⟩])
 (.cond (.tmp 46)
 .skip
 (.exit 2)))
 (.seq (.block 3 (.region 2 [(0,2),(1,2),(0,3),(1,3),(0,4),(1,4),(2,4),(3,4),(0,5),(1,5),(0,6),(1,6),(0,7),(1,7),(0,8),(1,8)] [
 ⟨(some 49),.faddr 6 (.tmp 3),none,0⟩,
 ⟨(some 50),.load none (.tmp 49),none,0⟩,
 ⟨(some 51),.faddr 6 (.tmp 1),none,0⟩,
 ⟨(some 52),.load none (.tmp 51),none,0⟩,
 ⟨(some 53),.mov (.tmp 6),none,0⟩,
 ⟨(some 54),.iaddr 1 (.tmp 52) (.tmp 53),none,0⟩,
 ⟨(some 55),.load none (.tmp 54),none,0⟩,
 ⟨(some 56),.call 8 true [(.tmp 55)],none,0⟩,
 ⟨(some 57),.bslice 1 1 [.nils] [(0,(.tmp 56))],none,0⟩,
 ⟨(some 58),.append 1 24 (.tmp 50) (.tmp 57),none,1⟩,
 ⟨(some 59),.faddr 6 (.tmp 3),none,2⟩,
 ⟨none,.store none (.tmp 59) (.tmp 58),none,2⟩]))
 (.region 0 [] [
 ⟨(some 47),.mov (.tmp 6),none,0⟩,
 ⟨(some 48),.bin .add (.tmp 47) (.cst (.c (.int .i64 1))),none,0⟩,
 ⟨(some 6),.mov (.tmp 48),none,0⟩]))))))
 (.seq (.region 0 [] [
 ⟨(some 60),.load (some 7) (.tmp 3),none,0⟩,
 ⟨none,.store (some 7) (.tmp 2) (.tmp 60),none,0⟩])
 .ret)))))⟩
def f11 : AFunc:=⟨43,[.tmp 2,.tmp 3,.tmp 4],false,
 (.seq (.region 1 [] [
 ⟨(some 1),.box (.tmp 0),none,0⟩,
 ⟨(some 2),.mov (.cst (.c (.int .i64 0))),none,1⟩,
 ⟨(some 3),.mov (.cst (.c (.int .i64 0))),none,1⟩,
 ⟨(some 4),.mov (.cst (.c (.bool false))),none,1⟩])
 (.seq (.region 0 [] [
 ⟨(some 11),.load (some 7) (.tmp 1),none,0⟩,
 ⟨(some 12),.call 10 true [(.tmp 11)],none,0⟩,
 ⟨(some 13),.call 16 true [(.tmp 12)],none,0⟩,
 ⟨(some 10),.mov (.tmp 13),none,0⟩,
 ⟨(some 14),.extract 0 (.tmp 10),none,0⟩,
 ⟨(some 15),.extract 1 (.tmp 10),none,0⟩,
 ⟨(some 16),.extract 2 (.tmp 10),none,0⟩,
 ⟨(some 5),.mov (.tmp 14),none,0⟩,
 ⟨(some 6),.mov (.tmp 15),none,0⟩,
 ⟨(some 7),.mov (.tmp 16),none,0⟩])
 (.seq (.region 0 [] [
 ⟨(some 18),.load (some 7) (.tmp 1),none,0⟩,
 ⟨(some 19),.call 10 true [(.tmp 18)],none,0⟩,
 ⟨(some 20),.call 17 true [(.tmp 19)],none,0⟩,
 ⟨(some 17),.mov (.tmp 20),none,0⟩,
 ⟨(some 21),.extract 0 (.tmp 17),none,0⟩,
 ⟨(some 22),.extract 1 (.tmp 17),none,0⟩,
 ⟨(some 8),.mov (.tmp 21),none,0⟩,
 ⟨(some 9),.mov (.tmp 22),none,0⟩])
 (.seq (.seq (.region 0 [] [
 ⟨(some 23),.mov (.tmp 7),none,0⟩,
 ⟨(some 24),.bin .neq (.tmp 23) (.cst (.c (.int .i64 0))),none,0⟩])
 (.cond (.tmp 24)
 (.region 0 [] [
 ⟨(some 6),.mov (.cst (.c (.int .i64 (-1000)))),none,0⟩])
 .skip))
 (.seq (.seq (.region 0 [] [
 ⟨(some 25),.mov (.tmp 9),none,0⟩,
 ⟨(some 26),.bin .neq (.tmp 25) (.cst (.c (.int .i64 0))),none,0⟩])
 (.cond (.tmp 26)
 (.region 0 [] [
 ⟨(some 8),.mov (.cst (.c (.int .i64 (-1000)))),none,0⟩])
 .skip))
 (.seq (.region 0 [] [
 ⟨(some 27),.mov (.tmp 6),none,0⟩,
 ⟨(some 28),.mov (.tmp 8),none,0⟩,
 ⟨(some 29),.mov (.tmp 7),none,0⟩,
 ⟨(some 30),.bin .eql (.tmp 29) (.cst (.c (.int .i64 0))),none,0⟩,
 ⟨(some 31),.mov (.tmp 30),none,0⟩,
 ⟨(some 32),.mov (.tmp 7),some (31,false),0⟩,
 ⟨(some 33),.bin .eql (.tmp 32) (.cst (.c (.int .i64 10))),some (31,false),0⟩,
 ⟨(some 34),.pick (.tmp 31) (.cst (.c (.bool true))) (.tmp 33),none,0⟩,
 ⟨(some 35),.mov (.tmp 34),none,0⟩,
 ⟨(some 36),.mov (.tmp 9),some (35,true),0⟩,
 ⟨(some 37),.bin .eql (.tmp 36) (.cst (.c (.int .i64 0))),some (35,true),0⟩,
 ⟨(some 38),.mov (.tmp 37),some (35,true),0⟩,
 ⟨(some 39),.mov (.tmp 9),some (38,false),0⟩,
 ⟨(some 40),.bin .eql (.tmp 39) (.cst (.c (.int .i64 10))),some (38,false),0⟩,
 ⟨(some 41),.pick (.tmp 38) (.cst (.c (.bool true))) (.tmp 40),some (35,true),0⟩,
 ⟨(some 42),.pick (.tmp 35) (.tmp 41) (.cst (.c (.bool false))),none,0⟩,
 ⟨(some 2),.mov (.tmp 27),none,0⟩,
 ⟨(some 3),.mov (.tmp 28),none,0⟩,
 ⟨(some 4),.mov (.tmp 42),none,0⟩])
 .ret))))))⟩
def f12 : AFunc:=⟨36,[.tmp 2],false,
 (.seq (.region 1 [] [
 ⟨(some 1),.box (.tmp 0),none,0⟩,
 ⟨(some 2),.mov (.cst (.c (.bool false))),none,1⟩])
 (.seq (.seq (.region 0 [] [
 ⟨(some 4),.faddr 5 (.tmp 1),none,0⟩,
 ⟨(some 5),.load none (.tmp 4),none,0⟩,
 ⟨(some 6),.len (.tmp 5),none,0⟩,
 ⟨(some 7),.bin .gtr (.tmp 6) (.cst (.c (.int .i64 6))),none,0⟩,
 ⟨(some 8),.mov (.tmp 7),none,0⟩,
 ⟨(some 9),.faddr 6 (.tmp 1),some (8,false),0⟩,
 ⟨(some 10),.load none (.tmp 9),some (8,false),0⟩,
 ⟨(some 11),.len (.tmp 10),some (8,false),0⟩,
 ⟨(some 12),.bin .gtr (.tmp 11) (.cst (.c (.int .i64 6))),some (8,false),0⟩,
 ⟨(some 13),.pick (.tmp 8) (.cst (.c (.bool true))) (.tmp 12),none,0⟩])
 (.cond (.tmp 13)
 (.seq (.region 0 [] [
 ⟨(some 2),.mov (.cst (.c (.bool false))),none,0⟩])
 .ret)
 .skip))
 (.seq (.seq (.region 0 [] [
 ⟨(some 3),.mov (.cst (.c (.int .i64 0))),none,0⟩])
 (.block 0 (.loop ⟨[2,14,15,16,17,18,19,20,21,22,23,24,25,26,27],false,[]⟩
 (.seq (.seq (.region 0 [] [
 ⟨(some 14),.mov (.tmp 3),none,0⟩,
 ⟨(some 15),.faddr 6 (.tmp 1),none,0⟩,
 ⟨(some 16),.load none (.tmp 15),none,0⟩,
 ⟨(some 17),.len (.tmp 16),none,0⟩,
 ⟨(some 18),.bin .lss (.tmp 14) (.tmp 17),none,0⟩])
 (.cond (.tmp 18)
 .skip
 (.exit 0)))
 (.seq (.block 1 (.seq (.region 0 [] [
 ⟨(some 21),.faddr 6 (.tmp 1),none,0⟩,
 ⟨(some 22),.load none (.tmp 21),none,0⟩,
 ⟨(some 23),.mov (.tmp 3),none,0⟩,
 ⟨(some 24),.iaddr 1 (.tmp 22) (.tmp 23),none,0⟩,
 ⟨(some 25),.load none (.tmp 24),none,0⟩,
 ⟨(some 26),.len (.tmp 25),none,0⟩,
 ⟨(some 27),.bin .gtr (.tmp 26) (.cst (.c (.int .i64 6))),none,0⟩])
 (.cond (.tmp 27)
 (.seq (.region 0 [] [
 ⟨(some 2),.mov (.cst (.c (.bool false))),none,0⟩])
 .ret)
 .skip)))
 (.region 0 [] [
 ⟨(some 19),.mov (.tmp 3),none,0⟩,
 ⟨(some 20),.bin .add (.tmp 19) (.cst (.c (.int .i64 1))),none,0⟩,
 ⟨(some 3),.mov (.tmp 20),none,0⟩]))))))
 (.seq (.region 0 [] [
 ⟨(some 28),.load (some 7) (.tmp 1),none,0⟩,
 ⟨(some 29),.call 30 true [(.tmp 28)],none,0⟩,
 ⟨(some 30),.bin .neq (.tmp 29) (.cst (.c (.int .i64 0))),none,0⟩,
 ⟨(some 31),.mov (.tmp 30),none,0⟩,
 ⟨(some 32),.load (some 7) (.tmp 1),some (31,false),0⟩,
 ⟨(some 33),.call 24 true [(.tmp 32)],some (31,false),0⟩,
 ⟨(some 34),.bin .leq (.tmp 33) (.cst (.c (.int .i64 256))),some (31,false),0⟩,
 ⟨(some 35),.pick (.tmp 31) (.cst (.c (.bool true))) (.tmp 34),none,0⟩,
 ⟨(some 2),.mov (.tmp 35),none,0⟩])
 .ret))))⟩
def f13 : AFunc:=⟨5,[.tmp 2],false,
 (.seq (.region 1 [] [
 ⟨(some 1),.box (.tmp 0),none,0⟩,
 ⟨(some 2),.mov (.cst (.c (.int .i64 0))),none,1⟩])
 (.seq (.region 0 [] [
 ⟨(some 3),.load (some 7) (.tmp 1),none,0⟩,
 ⟨(some 4),.call 30 true [(.tmp 3)],none,0⟩,
 ⟨(some 2),.mov (.tmp 4),none,0⟩])
 .ret))⟩
def f14 : AFunc:=⟨11,[.cell 2 (some 7)],false,
 (.seq (.region 1 [] [
 ⟨(some 2),.alloc [(.int .i64 0),(.int .i64 0),(.int .i64 0),(.int .i64 0),(.int .i64 0),.nils,.nils],none,0⟩])
 (.seq (.region 3 [] [
 ⟨(some 3),.mov (.tmp 0),none,0⟩,
 ⟨(some 4),.build [(.int .i64 0),(.int .i64 0),(.int .i64 0)] [(0,1,(.cst (.c (.int .i64 20)))),(1,1,(.cst (.c (.int .i64 12)))),(2,1,(.cst (.c (.int .i64 2))))],none,0⟩,
 ⟨(some 5),.build [(.int .i64 0),(.int .i64 0),(.int .i64 0)] [(0,1,(.cst (.c (.int .i64 30)))),(1,1,(.cst (.c (.int .i64 10)))),(2,1,(.cst (.c (.int .i64 4))))],none,0⟩,
 ⟨(some 6),.bslice 3 2 [(.int .i64 0),(.int .i64 0),(.int .i64 0)] [(0,(.tmp 4)),(1,(.tmp 5))],none,0⟩,
 ⟨(some 7),.bslice 1 2 [(.int .i64 0)] [(0,(.cst (.c (.int .i64 0)))),(1,(.cst (.c (.int .i64 5))))],none,1⟩,
 ⟨(some 8),.bslice 1 2 [(.int .i64 0)] [(0,(.cst (.c (.int .i64 5)))),(1,(.cst (.c (.int .i64 0))))],none,2⟩,
 ⟨(some 9),.blistc [.nils,.nils] [(0,1,(.tmp 7)),(1,1,(.tmp 8))],none,3⟩,
 ⟨(some 10),.build [(.int .i64 0),(.int .i64 0),(.int .i64 0),(.int .i64 0),(.int .i64 0),.nils,.nils] [(0,1,(.cst (.c (.int .i64 2)))),(2,1,(.tmp 3)),(3,1,(.cst (.c (.int .i64 1)))),(4,1,(.cst (.c (.int .i64 2)))),(5,1,(.tmp 6)),(6,1,(.tmp 9))],none,3⟩,
 ⟨none,.store (some 7) (.tmp 2) (.tmp 10),none,3⟩])
 .ret))⟩
def f15 : AFunc:=⟨29,[.tmp 4,.tmp 5,.tmp 6],false,
 (.seq (.region 1 [] [
 ⟨(some 2),.box (.tmp 0),none,0⟩,
 ⟨(some 4),.mov (.cst (.c (.int .i64 0))),none,1⟩,
 ⟨(some 5),.mov (.cst (.c .nils)),none,1⟩,
 ⟨(some 6),.mov (.cst (.c (.int .i64 0))),none,1⟩])
 (.seq (.seq (.region 0 [] [
 ⟨(some 9),.load (some 7) (.tmp 2),none,0⟩,
 ⟨(some 10),.call 26 true [(.tmp 9)],none,0⟩,
 ⟨(some 7),.mov (.tmp 10),none,0⟩])
 (.seq (.region 0 [] [
 ⟨(some 11),.mov (.tmp 7),none,0⟩,
 ⟨(some 12),.bin .neq (.tmp 11) (.cst (.c (.int .i64 0))),none,0⟩])
 (.cond (.tmp 12)
 (.seq (.region 0 [] [
 ⟨(some 13),.mov (.tmp 7),none,0⟩,
 ⟨(some 4),.mov (.cst (.c (.int .i64 0))),none,0⟩,
 ⟨(some 5),.mov (.cst (.c .nils)),none,0⟩,
 ⟨(some 6),.mov (.tmp 13),none,0⟩])
 .ret)
 .skip)))
 (.seq (.seq (.region 0 [] [
 ⟨(some 14),.load (some 7) (.tmp 2),none,0⟩,
 ⟨(some 15),.mov (.tmp 1),none,0⟩,
 ⟨(some 16),.call 27 true [(.tmp 14),(.tmp 15)],none,0⟩,
 ⟨(some 17),.not (.tmp 16),none,0⟩])
 (.cond (.tmp 17)
 (.seq (.region 0 [] [
 ⟨(some 4),.mov (.cst (.c (.int .i64 0))),none,0⟩,
 ⟨(some 5),.mov (.cst (.c .nils)),none,0⟩,
 ⟨(some 6),.mov (.cst (.c (.int .i64 2))),none,0⟩])
 .ret)
 .skip))
 (.seq (.region 0 [] [
 ⟨(some 19),.load (some 7) (.tmp 2),none,0⟩,
 ⟨(some 20),.mov (.tmp 1),none,0⟩,
 ⟨(some 21),.call 31 true [(.tmp 19),(.tmp 20)],none,0⟩,
 ⟨(some 18),.mov (.tmp 21),none,0⟩,
 ⟨(some 22),.extract 0 (.tmp 18),none,0⟩,
 ⟨(some 23),.extract 1 (.tmp 18),none,0⟩,
 ⟨(some 24),.extract 2 (.tmp 18),none,0⟩,
 ⟨(some 4),.mov (.tmp 22),none,0⟩,
 ⟨(some 5),.mov (.tmp 23),none,0⟩,
 ⟨(some 8),.mov (.tmp 24),none,0⟩])
 (.seq (.seq (.region 0 [] [
 ⟨(some 25),.mov (.tmp 8),none,0⟩,
 ⟨(some 26),.not (.tmp 25),none,0⟩])
 (.cond (.tmp 26)
 (.seq (.region 0 [] [
 ⟨(some 4),.mov (.cst (.c (.int .i64 0))),none,0⟩,
 ⟨(some 5),.mov (.cst (.c .nils)),none,0⟩,
 ⟨(some 6),.mov (.cst (.c (.int .i64 9))),none,0⟩])
 .ret)
 .skip))
 (.seq (.region 0 [] [
 ⟨(some 27),.mov (.tmp 4),none,0⟩,
 ⟨(some 28),.mov (.tmp 5),none,0⟩,
 ⟨(some 4),.mov (.tmp 27),none,0⟩,
 ⟨(some 5),.mov (.tmp 28),none,0⟩,
 ⟨(some 6),.mov (.cst (.c (.int .i64 0))),none,0⟩])
 .ret))))))⟩
def f16 : AFunc:=⟨22,[.tmp 2,.tmp 3,.tmp 4],false,
 (.seq (.region 1 [] [
 ⟨(some 1),.box (.tmp 0),none,0⟩,
 ⟨(some 2),.mov (.cst (.c .nils)),none,1⟩,
 ⟨(some 3),.mov (.cst (.c (.int .i64 0))),none,1⟩,
 ⟨(some 4),.mov (.cst (.c (.int .i64 0))),none,1⟩])
 (.seq (.seq (.region 0 [] [
 ⟨(some 7),.load (some 7) (.tmp 1),none,0⟩,
 ⟨(some 8),.call 26 true [(.tmp 7)],none,0⟩,
 ⟨(some 5),.mov (.tmp 8),none,0⟩])
 (.seq (.region 0 [] [
 ⟨(some 9),.mov (.tmp 5),none,0⟩,
 ⟨(some 10),.bin .neq (.tmp 9) (.cst (.c (.int .i64 0))),none,0⟩])
 (.cond (.tmp 10)
 (.seq (.region 0 [] [
 ⟨(some 11),.mov (.tmp 5),none,0⟩,
 ⟨(some 2),.mov (.cst (.c .nils)),none,0⟩,
 ⟨(some 3),.mov (.cst (.c (.int .i64 0))),none,0⟩,
 ⟨(some 4),.mov (.tmp 11),none,0⟩])
 .ret)
 .skip)))
 (.seq (.region 0 [] [
 ⟨(some 13),.load (some 7) (.tmp 1),none,0⟩,
 ⟨(some 14),.call 32 true [(.tmp 13),(.cst (.c (.int .i64 (-1))))],none,0⟩,
 ⟨(some 12),.mov (.tmp 14),none,0⟩,
 ⟨(some 15),.extract 0 (.tmp 12),none,0⟩,
 ⟨(some 16),.extract 1 (.tmp 12),none,0⟩,
 ⟨(some 17),.extract 2 (.tmp 12),none,0⟩,
 ⟨(some 2),.mov (.tmp 15),none,0⟩,
 ⟨(some 3),.mov (.tmp 16),none,0⟩,
 ⟨(some 6),.mov (.tmp 17),none,0⟩])
 (.seq (.seq (.region 0 [] [
 ⟨(some 18),.mov (.tmp 6),none,0⟩,
 ⟨(some 19),.not (.tmp 18),none,0⟩])
 (.cond (.tmp 19)
 (.seq (.region 0 [] [
 ⟨(some 2),.mov (.cst (.c .nils)),none,0⟩,
 ⟨(some 3),.mov (.cst (.c (.int .i64 0))),none,0⟩,
 ⟨(some 4),.mov (.cst (.c (.int .i64 10))),none,0⟩])
 .ret)
 .skip))
 (.seq (.region 0 [] [
 ⟨(some 20),.mov (.tmp 2),none,0⟩,
 ⟨(some 21),.mov (.tmp 3),none,0⟩,
 ⟨(some 2),.mov (.tmp 20),none,0⟩,
 ⟨(some 3),.mov (.tmp 21),none,0⟩,
 ⟨(some 4),.mov (.cst (.c (.int .i64 0))),none,0⟩])
 .ret)))))⟩
def f17 : AFunc:=⟨15,[.tmp 2,.tmp 3],false,
 (.seq (.region 1 [] [
 ⟨(some 1),.box (.tmp 0),none,0⟩,
 ⟨(some 2),.mov (.cst (.c (.int .i64 0))),none,1⟩,
 ⟨(some 3),.mov (.cst (.c (.int .i64 0))),none,1⟩])
 (.seq (.region 0 [] [
 ⟨(some 8),.load (some 7) (.tmp 1),none,0⟩,
 ⟨(some 9),.call 20 true [(.tmp 8),(.cst (.c .nils)),(.cst (.c .nils))],none,0⟩,
 ⟨(some 7),.mov (.tmp 9),none,0⟩,
 ⟨(some 10),.extract 0 (.tmp 7),none,0⟩,
 ⟨(some 11),.extract 1 (.tmp 7),none,0⟩,
 ⟨(some 12),.extract 2 (.tmp 7),none,0⟩,
 ⟨(some 4),.mov (.tmp 10),none,0⟩,
 ⟨(some 5),.mov (.tmp 11),none,0⟩,
 ⟨(some 6),.mov (.tmp 12),none,0⟩])
 (.seq (.region 0 [] [
 ⟨(some 13),.mov (.tmp 5),none,0⟩,
 ⟨(some 14),.mov (.tmp 6),none,0⟩,
 ⟨(some 2),.mov (.tmp 13),none,0⟩,
 ⟨(some 3),.mov (.tmp 14),none,0⟩])
 .ret)))⟩
def f18 : AFunc:=⟨21,[.tmp 2,.tmp 3],false,
 (.seq (.region 1 [] [
 ⟨(some 1),.box (.tmp 0),none,0⟩,
 ⟨(some 2),.mov (.cst (.c (.int .i64 0))),none,1⟩,
 ⟨(some 3),.mov (.cst (.c (.int .i64 0))),none,1⟩])
 (.seq (.region 1 [] [
 ⟨(some 9),.load (some 7) (.tmp 1),none,0⟩,
 ⟨(some 10),.call 16 true [(.tmp 9)],none,0⟩,
 ⟨(some 8),.mov (.tmp 10),none,0⟩,
 ⟨(some 11),.extract 0 (.tmp 8),none,0⟩,
 ⟨(some 12),.extract 1 (.tmp 8),none,0⟩,
 ⟨(some 13),.extract 2 (.tmp 8),none,0⟩,
 ⟨(some 5),.alloc [(.int .i64 0)],none,0⟩,
 ⟨(some 4),.mov (.tmp 11),none,1⟩,
 ⟨none,.store none (.tmp 5) (.tmp 12),none,1⟩,
 ⟨(some 6),.mov (.tmp 13),none,1⟩])
 (.seq (.seq (.region 0 [] [
 ⟨(some 14),.mov (.tmp 6),none,0⟩,
 ⟨(some 15),.bin .neq (.tmp 14) (.cst (.c (.int .i64 0))),none,0⟩])
 (.cond (.tmp 15)
 (.seq (.region 0 [] [
 ⟨(some 16),.mov (.tmp 6),none,0⟩,
 ⟨(some 2),.mov (.cst (.c (.int .i64 0))),none,0⟩,
 ⟨(some 3),.mov (.tmp 16),none,0⟩])
 .ret)
 .skip))
 (.seq (.region 1 [] [
 ⟨(some 7),.alloc [(.int .i64 0)],none,0⟩,
 ⟨none,.store none (.tmp 7) (.cst (.c (.int .i64 0))),none,1⟩])
 (.seq (.region 0 [] [
 ⟨(some 17),.load (some 7) (.tmp 1),none,0⟩,
 ⟨(some 18),.mkfn 34 none [(.tmp 1),(.tmp 5),(.tmp 7)],none,0⟩,
 ⟨(some 19),.call 33 false [(.tmp 17),(.cst (.c (.int .i64 (-1)))),(.tmp 18)],none,0⟩])
 (.seq (.region 0 [] [
 ⟨(some 20),.load none (.tmp 7),none,0⟩,
 ⟨(some 2),.mov (.tmp 20),none,0⟩,
 ⟨(some 3),.mov (.cst (.c (.int .i64 0))),none,0⟩])
 .ret))))))⟩
def f19 : AFunc:=⟨40,[.tmp 4,.tmp 5],false,
 (.seq (.region 1 [] [
 ⟨(some 2),.box (.tmp 0),none,0⟩,
 ⟨(some 4),.mov (.cst (.c (.int .i64 0))),none,1⟩,
 ⟨(some 5),.mov (.cst (.c (.int .i64 0))),none,1⟩])
 (.seq (.seq (.region 0 [] [
 ⟨(some 13),.load (some 7) (.tmp 2),none,0⟩,
 ⟨(some 14),.call 26 true [(.tmp 13)],none,0⟩,
 ⟨(some 6),.mov (.tmp 14),none,0⟩])
 (.seq (.region 0 [] [
 ⟨(some 15),.mov (.tmp 6),none,0⟩,
 ⟨(some 16),.bin .neq (.tmp 15) (.cst (.c (.int .i64 0))),none,0⟩])
 (.cond (.tmp 16)
 (.seq (.region 0 [] [
 ⟨(some 17),.mov (.tmp 6),none,0⟩,
 ⟨(some 4),.mov (.cst (.c (.int .i64 0))),none,0⟩,
 ⟨(some 5),.mov (.tmp 17),none,0⟩])
 .ret)
 .skip)))
 (.seq (.seq (.region 0 [] [
 ⟨(some 18),.load (some 7) (.tmp 2),none,0⟩,
 ⟨(some 19),.mov (.tmp 1),none,0⟩,
 ⟨(some 20),.call 36 true [(.tmp 18),(.tmp 19)],none,0⟩,
 ⟨(some 21),.not (.tmp 20),none,0⟩])
 (.cond (.tmp 21)
 (.seq (.region 0 [] [
 ⟨(some 4),.mov (.cst (.c (.int .i64 0))),none,0⟩,
 ⟨(some 5),.mov (.cst (.c (.int .i64 2))),none,0⟩])
 .ret)
 .skip))
 (.seq (.region 0 [] [
 ⟨(some 23),.load (some 7) (.tmp 2),none,0⟩,
 ⟨(some 24),.mov (.tmp 1),none,0⟩,
 ⟨(some 25),.call 32 true [(.tmp 23),(.tmp 24)],none,0⟩,
 ⟨(some 22),.mov (.tmp 25),none,0⟩,
 ⟨(some 26),.extract 0 (.tmp 22),none,0⟩,
 ⟨(some 27),.extract 1 (.tmp 22),none,0⟩,
 ⟨(some 28),.extract 2 (.tmp 22),none,0⟩,
 ⟨(some 7),.mov (.tmp 26),none,0⟩,
 ⟨(some 8),.mov (.tmp 27),none,0⟩,
 ⟨(some 9),.mov (.tmp 28),none,0⟩])
 (.seq (.seq (.region 0 [] [
 ⟨(some 29),.mov (.tmp 9),none,0⟩,
 ⟨(some 30),.not (.tmp 29),none,0⟩])
 (.cond (.tmp 30)
 (.seq (.region 0 [] [
 ⟨(some 4),.mov (.cst (.c (.int .i64 0))),none,0⟩,
 ⟨(some 5),.mov (.cst (.c (.int .i64 10))),none,0⟩])
 .ret)
 .skip))
 (.seq (.region 0 [] [
 ⟨(some 32),.load (some 7) (.tmp 2),none,0⟩,
 ⟨(some 33),.call 32 true [(.tmp 32),(.cst (.c (.int .i64 (-1))))],none,0⟩,
 ⟨(some 31),.mov (.tmp 33),none,0⟩,
 ⟨(some 34),.extract 0 (.tmp 31),none,0⟩,
 ⟨(some 35),.extract 1 (.tmp 31),none,0⟩,
 ⟨(some 36),.extract 2 (.tmp 31),none,0⟩,
 ⟨(some 10),.mov (.tmp 34),none,0⟩,
 ⟨(some 11),.mov (.tmp 35),none,0⟩,
 ⟨(some 12),.mov (.tmp 36),none,0⟩])
 (.seq (.region 0 [] [
 ⟨(some 37),.mov (.tmp 11),none,0⟩,
 ⟨(some 38),.mov (.tmp 8),none,0⟩,
 ⟨(some 39),.bin .sub (.tmp 37) (.tmp 38),none,0⟩,
 ⟨(some 4),.mov (.tmp 39),none,0⟩,
 ⟨(some 5),.mov (.cst (.c (.int .i64 0))),none,0⟩])
 .ret)))))))⟩
def f20 : AFunc:=⟨73,[.tmp 6,.tmp 7,.tmp 8],false,
 (.seq (.region 1 [] [
 ⟨(some 3),.box (.tmp 0),none,0⟩,
 ⟨(some 6),.mov (.cst (.c (.int .i64 0))),none,1⟩,
 ⟨(some 7),.mov (.cst (.c (.int .i64 0))),none,1⟩,
 ⟨(some 8),.mov (.cst (.c (.int .i64 0))),none,1⟩])
 (.seq (.seq (.region 0 [] [
 ⟨(some 15),.load (some 7) (.tmp 3),none,0⟩,
 ⟨(some 16),.call 26 true [(.tmp 15)],none,0⟩,
 ⟨(some 9),.mov (.tmp 16),none,0⟩])
 (.seq (.region 0 [] [
 ⟨(some 17),.mov (.tmp 9),none,0⟩,
 ⟨(some 18),.bin .neq (.tmp 17) (.cst (.c (.int .i64 0))),none,0⟩])
 (.cond (.tmp 18)
 (.seq (.region 0 [] [
 ⟨(some 19),.mov (.tmp 9),none,0⟩,
 ⟨(some 6),.mov (.cst (.c (.int .i64 0))),none,0⟩,
 ⟨(some 7),.mov (.cst (.c (.int .i64 0))),none,0⟩,
 ⟨(some 8),.mov (.tmp 19),none,0⟩])
 .ret)
 .skip)))
 (.seq (.region 0 [] [
 ⟨(some 20),.load (some 7) (.tmp 3),none,0⟩,
 ⟨(some 21),.mkfn 36 (some (.tmp 20)) [],none,0⟩,
 ⟨(some 10),.mov (.tmp 21),none,0⟩])
 (.seq (.seq (.region 0 [] [
 ⟨(some 22),.mov (.tmp 1),none,0⟩,
 ⟨(some 23),.len (.tmp 22),none,0⟩,
 ⟨(some 24),.faddr 0 (.tmp 3),none,0⟩,
 ⟨(some 25),.load none (.tmp 24),none,0⟩,
 ⟨(some 26),.bin .gtr (.tmp 23) (.tmp 25),none,0⟩,
 ⟨(some 27),.mov (.tmp 26),none,0⟩,
 ⟨(some 28),.mov (.tmp 1),some (27,false),0⟩,
 ⟨(some 29),.mov (.tmp 10),some (27,false),0⟩,
 ⟨(some 30),.call 37 false [(.tmp 28),(.tmp 29)],some (27,false),0⟩,
 ⟨(some 31),.not (.tmp 30),some (27,false),0⟩,
 ⟨(some 32),.pick (.tmp 27) (.cst (.c (.bool true))) (.tmp 31),none,0⟩,
 ⟨(some 33),.mov (.tmp 32),none,0⟩,
 ⟨(some 34),.load (some 7) (.tmp 3),some (33,false),0⟩,
 ⟨(some 35),.mov (.tmp 2),some (33,false),0⟩,
 ⟨(some 36),.mov (.tmp 1),some (33,false),0⟩,
 ⟨(some 37),.len (.tmp 36),some (33,false),0⟩,
 ⟨(some 38),.call 28 true [(.tmp 34),(.tmp 35),(.tmp 37)],some (33,false),0⟩,
 ⟨(some 39),.not (.tmp 38),some (33,false),0⟩,
 ⟨(some 40),.pick (.tmp 33) (.cst (.c (.bool true))) (.tmp 39),none,0⟩])
 (.cond (.tmp 40)
 (.seq (.region 0 [] [
 ⟨(some 6),.mov (.cst (.c (.int .i64 0))),none,0⟩,
 ⟨(some 7),.mov (.cst (.c (.int .i64 0))),none,0⟩,
 ⟨(some 8),.mov (.cst (.c (.int .i64 2))),none,0⟩])
 .ret)
 .skip))
 (.seq (.region 1 [] [
 ⟨(some 42),.load (some 7) (.tmp 3),none,0⟩,
 ⟨(some 43),.mov (.tmp 1),none,0⟩,
 ⟨(some 44),.mov (.tmp 2),none,0⟩,
 ⟨(some 45),.call 29 true [(.tmp 42),(.tmp 43),(.tmp 44)],none,0⟩,
 ⟨(some 41),.mov (.tmp 45),none,0⟩,
 ⟨(some 46),.extract 0 (.tmp 41),none,0⟩,
 ⟨(some 47),.extract 1 (.tmp 41),none,0⟩,
 ⟨(some 48),.extract 2 (.tmp 41),none,0⟩,
 ⟨(some 12),.alloc [(.int .i64 0),(.int .i64 0),(.int .i64 0),(.int .i64 0),(.int .i64 0),(.int .i64 0),(.int .i64 0),(.int .i64 0),(.int .i64 0),(.int .i64 0),(.int .i64 0)],none,0⟩,
 ⟨(some 11),.mov (.tmp 46),none,1⟩,
 ⟨none,.store (some 11) (.tmp 12) (.tmp 47),none,1⟩,
 ⟨(some 13),.mov (.tmp 48),none,1⟩])
 (.seq (.seq (.region 0 [] [
 ⟨(some 49),.mov (.tmp 13),none,0⟩,
 ⟨(some 50),.not (.tmp 49),none,0⟩])
 (.cond (.tmp 50)
 (.seq (.region 0 [] [
 ⟨(some 6),.mov (.cst (.c (.int .i64 0))),none,0⟩,
 ⟨(some 7),.mov (.cst (.c (.int .i64 0))),none,0⟩,
 ⟨(some 8),.mov (.cst (.c (.int .i64 9))),none,0⟩])
 .ret)
 .skip))
 (.seq (.region 3 [] [
 ⟨(some 51),.load (some 7) (.tmp 3),none,0⟩,
 ⟨(some 52),.mkmap true true [(some .i64),(some .i64),(some .i64),(some .i64),(some .i64),(some .i64),(some .i64),(some .i64),(some .i64),(some .i64),(some .i64),(some .i64)],none,0⟩,
 ⟨(some 53),.build [(.int .i64 0),(.int .i64 0),(.int .i64 0),(.int .i64 0),(.int .i64 0),.nils,.nils,.any] [(0,7,(.tmp 51)),(7,1,(.tmp 52))],none,1⟩,
 ⟨(some 54),.box (.tmp 53),none,1⟩,
 ⟨(some 55),.load (some 11) (.tmp 12),none,2⟩,
 ⟨(some 56),.faddr 3 (.tmp 3),none,2⟩,
 ⟨(some 57),.load none (.tmp 56),none,2⟩,
 ⟨(some 58),.mov (.tmp 2),none,2⟩,
 ⟨(some 59),.len (.tmp 58),none,2⟩,
 ⟨(some 60),.bin .sub (.tmp 57) (.tmp 59),none,2⟩,
 ⟨(some 61),.build [(.int .i64 0),(.int .i64 0),(.int .i64 0),(.int .i64 0),(.int .i64 0),(.int .i64 0),(.int .i64 0),(.int .i64 0),(.int .i64 0),(.int .i64 0),(.int .i64 0),(.int .i64 0)] [(0,11,(.tmp 55)),(11,1,(.tmp 60))],none,2⟩,
 ⟨(some 62),.call 38 false [(.tmp 54),(.tmp 61)],none,2⟩,
 ⟨(some 14),.alloc [(.int .i64 0),(.int .i64 0),(.bool false)],none,2⟩,
 ⟨none,.store (some 3) (.tmp 14) (.tmp 62),none,3⟩])
 (.seq (.seq (.region 0 [] [
 ⟨(some 63),.faddr 2 (.tmp 14),none,0⟩,
 ⟨(some 64),.load none (.tmp 63),none,0⟩,
 ⟨(some 65),.not (.tmp 64),none,0⟩])
 (.cond (.tmp 65)
 (.seq (.region 0 [] [
 ⟨(some 6),.mov (.cst (.c (.int .i64 0))),none,0⟩,
 ⟨(some 7),.mov (.cst (.c (.int .i64 0))),none,0⟩,
 ⟨(some 8),.mov (.cst (.c (.int .i64 10))),none,0⟩])
 .ret)
 .skip))
 (.seq (.region 0 [(0,2),(1,2),(0,3),(1,3),(0,4),(1,4),(2,4),(3,4),(0,5),(1,5),(2,5),(3,5),(0,6),(1,6),(2,7),(3,7),(4,7),(5,7),(6,7)] [
 ⟨(some 66),.faddr 0 (.tmp 14),none,0⟩,
 ⟨(some 67),.load none (.tmp 66),none,0⟩,
 ⟨(some 68),.faddr 1 (.tmp 14),none,0⟩,
 ⟨(some 69),.load none (.tmp 68),none,0⟩,
 ⟨(some 70),.faddr 2 (.tmp 3),none,0⟩,
 ⟨(some 71),.load none (.tmp 70),none,0⟩,
 ⟨(some 72),.bin .sub (.tmp 69) (.tmp 71),none,0⟩,
 ⟨(some 6),.mov (.tmp 67),none,0⟩,
 ⟨(some 7),.mov (.tmp 72),none,0⟩,
 ⟨(some 8),.mov (.cst (.c (.int .i64 0))),none,0⟩])
 .ret)))))))))⟩
def f21 : AFunc:=⟨11,[.cell 6 (some 3)],false,
 (.seq (.region 1 [] [
 ⟨(some 6),.alloc [(.int .i64 0),(.int .i64 0),(.int .i64 0)],none,0⟩])
 (.seq (.region 0 [] [
 ⟨(some 7),.mov (.tmp 0),none,0⟩,
 ⟨(some 8),.mov (.tmp 1),none,0⟩,
 ⟨(some 9),.mov (.tmp 2),none,0⟩,
 ⟨(some 10),.build [(.int .i64 0),(.int .i64 0),(.int .i64 0)] [(0,1,(.tmp 7)),(1,1,(.tmp 8)),(2,1,(.tmp 9))],none,0⟩,
 ⟨none,.store (some 3) (.tmp 6) (.tmp 10),none,0⟩])
 .ret))⟩
def f22 : AFunc:=⟨26,[.tmp 4],false,
 (.seq (.region 0 [] [
 ⟨(some 4),.mov (.cst (.c (.bool false))),none,0⟩])
 (.seq (.seq (.region 0 [] [
 ⟨(some 6),.mov (.tmp 0),none,0⟩,
 ⟨(some 7),.len (.tmp 6),none,0⟩,
 ⟨(some 8),.mov (.tmp 1),none,0⟩,
 ⟨(some 9),.len (.tmp 8),none,0⟩,
 ⟨(some 10),.bin .neq (.tmp 7) (.tmp 9),none,0⟩])
 (.cond (.tmp 10)
 (.seq (.region 0 [] [
 ⟨(some 4),.mov (.cst (.c (.bool false))),none,0⟩])
 .ret)
 .skip))
 (.seq (.seq (.region 0 [] [
 ⟨(some 5),.mov (.cst (.c (.int .i64 0))),none,0⟩])
 (.block 0 (.loop ⟨[4,11,12,13,14,15,16,17,18,19,20,21,22,23,24,25],false,[]⟩
 (.seq (.seq (.region 0 [] [
 ⟨(some 11),.mov (.tmp 5),none,0⟩,
 ⟨(some 12),.mov (.tmp 0),none,0⟩,
 ⟨(some 13),.len (.tmp 12),none,0⟩,
 ⟨(some 14),.bin .lss (.tmp 11) (.tmp 13),none,0⟩])
 (.cond (.tmp 14)
 .skip
 (.exit 0)))
 (.seq (.block 1 (.seq (.region 0 [(0,1),(0,4),(1,4),(2,4),(3,4),(0,5),(1,5),(2,5),(3,5),(4,5),(0,6),(1,6),(2,6),(3,6),(0,7),(1,7),(2,7),(3,7)] [
 ⟨(some 17),.mov (.tmp 0),none,0⟩,
 ⟨(some 18),.mov (.tmp 5),none,0⟩,
 ⟨(some 19),.iaddr 1 (.tmp 17) (.tmp 18),none,0⟩,
 ⟨(some 20),.load none (.tmp 19),none,0⟩,
 ⟨(some 21),.mov (.tmp 1),none,0⟩,
 ⟨(some 22),.mov (.tmp 5),none,0⟩,
 ⟨(some 23),.iaddr 1 (.tmp 21) (.tmp 22),none,0⟩,
 ⟨(some 24),.load none (.tmp 23),none,0⟩,
 ⟨(some 25),.bin .neq (.tmp 20) (.tmp 24),none,0⟩])
 (.cond (.tmp 25)
 (.seq (.region 0 [] [
 ⟨(some 4),.mov (.cst (.c (.bool false))),none,0⟩])
 .ret)
 .skip)))
 (.region 0 [] [
 ⟨(some 15),.mov (.tmp 5),none,0⟩,
 ⟨(some 16),.bin .add (.tmp 15) (.cst (.c (.int .i64 1))),none,0⟩,
 ⟨(some 5),.mov (.tmp 16),none,0⟩]))))))
 (.seq (.region 0 [] [
 ⟨(some 4),.mov (.cst (.c (.bool true))),none,0⟩])
 .ret))))⟩
def f23 : AFunc:=⟨31,[.tmp 4],false,
 (.seq (.region 1 [] [
 ⟨(some 2),.box (.tmp 0),none,0⟩,
 ⟨(some 4),.mov (.cst (.c .nils)),none,1⟩])
 (.seq (.region 1 [] [
 ⟨(some 7),.faddr 0 (.tmp 2),none,0⟩,
 ⟨(some 8),.load none (.tmp 7),none,0⟩,
 ⟨(some 9),.bin .add (.tmp 8) (.cst (.c (.int .i64 1))),none,0⟩,
 ⟨(some 10),.mkslice 1 8 [(.int .i64 0)] (.tmp 9),none,0⟩,
 ⟨(some 5),.mov (.tmp 10),none,1⟩])
 (.seq (.seq (.region 0 [] [
 ⟨(some 11),.faddr 0 (.tmp 2),none,0⟩,
 ⟨(some 12),.load none (.tmp 11),none,0⟩,
 ⟨(some 6),.mov (.tmp 12),none,0⟩])
 (.block 0 (.loop ⟨[13,14,15,16,17,18,19,20,21,22,23,24,25,26,27,28,29],false,[]⟩
 (.seq (.seq (.region 0 [] [
 ⟨(some 13),.mov (.tmp 6),none,0⟩,
 ⟨(some 14),.bin .geq (.tmp 13) (.cst (.c (.int .i64 0))),none,0⟩])
 (.cond (.tmp 14)
 .skip
 (.exit 0)))
 (.seq (.block 1 (.region 0 [(0,1),(0,2),(1,2),(0,3),(1,3),(2,3),(0,4),(1,4),(2,4),(0,5),(1,5),(2,5),(0,6),(1,6),(0,7),(1,7),(2,7),(3,7),(4,7),(5,7),(6,7),(0,8),(1,8),(2,8),(3,8),(4,8),(5,8),(6,8),(7,8),(0,9),(1,9),(2,9),(3,9),(4,9),(5,9),(6,9),(7,9),(0,10),(1,10),(2,10),(3,10),(4,10),(5,10),(6,10),(7,10),(0,11),(1,11),(2,11),(3,11),(4,11),(5,11),(6,11),(7,12),(8,12),(9,12),(10,12),(11,12),(7,13),(8,13),(9,13),(10,13),(11,13)] [
 ⟨(some 17),.mov (.tmp 5),none,0⟩,
 ⟨(some 18),.mov (.tmp 6),none,0⟩,
 ⟨(some 19),.mov (.tmp 1),none,0⟩,
 ⟨(some 20),.faddr 5 (.tmp 2),none,0⟩,
 ⟨(some 21),.load none (.tmp 20),none,0⟩,
 ⟨(some 22),.len (.tmp 21),none,0⟩,
 ⟨(some 23),.bin .rem (.tmp 19) (.tmp 22),none,0⟩,
 ⟨(some 24),.mov (.tmp 1),none,0⟩,
 ⟨(some 25),.faddr 5 (.tmp 2),none,0⟩,
 ⟨(some 26),.load none (.tmp 25),none,0⟩,
 ⟨(some 27),.len (.tmp 26),none,0⟩,
 ⟨(some 28),.bin .quo (.tmp 24) (.tmp 27),none,0⟩,
 ⟨(some 29),.iaddr 1 (.tmp 17) (.tmp 18),none,0⟩,
 ⟨none,.store none (.tmp 29) (.tmp 23),none,0⟩,
 ⟨(some 1),.mov (.tmp 28),none,0⟩]))
 (.region 0 [] [
 ⟨(some 15),.mov (.tmp 6),none,0⟩,
 ⟨(some 16),.bin .sub (.tmp 15) (.cst (.c (.int .i64 1))),none,0⟩,
 ⟨(some 6),.mov (.tmp 16),none,0⟩]))))))
 (.seq (.region 0 [] [
 ⟨(some 30),.mov (.tmp 5),none,0⟩,
 ⟨(some 4),.mov (.tmp 30),none,0⟩])
 .ret))))⟩
def f24 : AFunc:=⟨17,[.tmp 2],false,
 (.seq (.region 1 [] [
 ⟨(some 1),.box (.tmp 0),none,0⟩,
 ⟨(some 2),.mov (.cst (.c (.int .i64 0))),none,1⟩])
 (.seq (.region 0 [] [
 ⟨(some 3),.mov (.cst (.c (.int .i64 1))),none,0⟩])
 (.seq (.seq (.region 0 [] [
 ⟨(some 4),.mov (.cst (.c (.int .i64 0))),none,0⟩])
 (.block 0 (.loop ⟨[5,6,7,8,9,10,11,12,13,14,15],false,[]⟩
 (.seq (.seq (.region 0 [] [
 ⟨(some 5),.mov (.tmp 4),none,0⟩,
 ⟨(some 6),.faddr 0 (.tmp 1),none,0⟩,
 ⟨(some 7),.load none (.tmp 6),none,0⟩,
 ⟨(some 8),.bin .leq (.tmp 5) (.tmp 7),none,0⟩])
 (.cond (.tmp 8)
 .skip
 (.exit 0)))
 (.seq (.block 1 (.region 0 [] [
 ⟨(some 11),.mov (.tmp 3),none,0⟩,
 ⟨(some 12),.faddr 5 (.tmp 1),none,0⟩,
 ⟨(some 13),.load none (.tmp 12),none,0⟩,
 ⟨(some 14),.len (.tmp 13),none,0⟩,
 ⟨(some 15),.bin .mul (.tmp 11) (.tmp 14),none,0⟩,
 ⟨(some 3),.mov (.tmp 15),none,0⟩]))
 (.region 0 [] [
 ⟨(some 9),.mov (.tmp 4),none,0⟩,
 ⟨(some 10),.bin .add (.tmp 9) (.cst (.c (.int .i64 1))),none,0⟩,
 ⟨(some 4),.mov (.tmp 10),none,0⟩]))))))
 (.seq (.region 0 [] [
 ⟨(some 16),.mov (.tmp 3),none,0⟩,
 ⟨(some 2),.mov (.tmp 16),none,0⟩])
 .ret))))⟩
def f25 : AFunc:=⟨27,[.tmp 2],false,
 (.seq (.region 1 [] [
 ⟨(some 1),.box (.tmp 0),none,0⟩,
 ⟨(some 2),.mov (.cst (.c .nils)),none,1⟩])
 (.seq (.region 0 [] [
 ⟨(some 3),.mov (.cst (.c .nils)),none,0⟩])
 (.seq (.seq (.region 0 [] [
 ⟨(some 4),.mov (.cst (.c (.int .i64 0))),none,0⟩])
 (.block 0 (.loop ⟨[5,6,7,8,9,10,11,12,13,14,15,16,17,18,19,20,21,22,23,24,25],true,[(3,none,1)]⟩
 (.seq (.seq (.region 0 [] [
 ⟨(some 6),.mov (.tmp 4),none,0⟩,
 ⟨(some 7),.faddr 0 (.tmp 1),none,0⟩,
 ⟨(some 8),.load none (.tmp 7),none,0⟩,
 ⟨(some 9),.bin .add (.tmp 8) (.cst (.c (.int .i64 1))),none,0⟩,
 ⟨(some 10),.conv .u64 (.tmp 9),none,0⟩,
 ⟨(some 11),.bin .shl (.cst (.c (.int .i64 1))) (.tmp 10),none,0⟩,
 ⟨(some 12),.bin .lss (.tmp 6) (.tmp 11),none,0⟩])
 (.cond (.tmp 12)
 .skip
 (.exit 0)))
 (.seq (.block 1 (.seq (.region 0 [] [
 ⟨(some 15),.mov (.tmp 4),none,0⟩,
 ⟨(some 16),.call 39 true [(.tmp 15)],none,0⟩,
 ⟨(some 5),.mov (.tmp 16),none,0⟩])
 (.seq (.region 0 [] [
 ⟨(some 17),.mov (.tmp 5),none,0⟩,
 ⟨(some 18),.len (.tmp 17),none,0⟩,
 ⟨(some 19),.faddr 3 (.tmp 1),none,0⟩,
 ⟨(some 20),.load none (.tmp 19),none,0⟩,
 ⟨(some 21),.bin .leq (.tmp 18) (.tmp 20),none,0⟩])
 (.cond (.tmp 21)
 (.region 2 [] [
 ⟨(some 22),.mov (.tmp 3),none,0⟩,
 ⟨(some 23),.mov (.tmp 5),none,0⟩,
 ⟨(some 24),.bslice 1 1 [.nils] [(0,(.tmp 23))],none,0⟩,
 ⟨(some 25),.append 1 24 (.tmp 22) (.tmp 24),none,1⟩,
 ⟨(some 3),.mov (.tmp 25),none,2⟩])
 .skip))))
 (.region 0 [] [
 ⟨(some 13),.mov (.tmp 4),none,0⟩,
 ⟨(some 14),.bin .add (.tmp 13) (.cst (.c (.int .i64 1))),none,0⟩,
 ⟨(some 4),.mov (.tmp 14),none,0⟩]))))))
 (.seq (.region 0 [] [
 ⟨(some 26),.mov (.tmp 3),none,0⟩,
 ⟨(some 2),.mov (.tmp 26),none,0⟩])
 .ret))))⟩
def f26 : AFunc:=⟨66,[.tmp 2],false,
 (.seq (.region 1 [] [
 ⟨(some 1),.box (.tmp 0),none,0⟩,
 ⟨(some 2),.mov (.cst (.c (.int .i64 0))),none,1⟩])
 (.seq (.region 0 [] [
 ⟨(some 4),.load (some 7) (.tmp 1),none,0⟩,
 ⟨(some 5),.mkfn 40 (some (.tmp 4)) [],none,0⟩,
 ⟨(some 3),.mov (.tmp 5),none,0⟩])
 (.seq (.block 0 (.seq (.region 0 [] [
 ⟨(some 7),.faddr 0 (.tmp 1),none,0⟩,
 ⟨(some 8),.load none (.tmp 7),none,0⟩,
 ⟨(some 9),.bin .gtr (.tmp 8) (.cst (.c (.int .i64 4))),none,0⟩,
 ⟨(some 10),.mov (.tmp 9),none,0⟩,
 ⟨(some 11),.faddr 5 (.tmp 1),some (10,false),0⟩,
 ⟨(some 12),.load none (.tmp 11),some (10,false),0⟩,
 ⟨(some 13),.len (.tmp 12),some (10,false),0⟩,
 ⟨(some 14),.bin .gtr (.tmp 13) (.cst (.c (.int .i64 4))),some (10,false),0⟩,
 ⟨(some 15),.pick (.tmp 10) (.cst (.c (.bool true))) (.tmp 14),none,0⟩,
 ⟨(some 6),.mov (.tmp 15),none,0⟩])
 (.cond (.tmp 6)
 (.seq (.region 0 [] [
 ⟨(some 2),.mov (.cst (.c (.int .i64 3))),none,0⟩])
 .ret)
 (.seq (.region 0 [] [
 ⟨(some 17),.faddr 0 (.tmp 1),none,0⟩,
 ⟨(some 18),.load none (.tmp 17),none,0⟩,
 ⟨(some 19),.bin .lss (.tmp 18) (.cst (.c (.int .i64 0))),none,0⟩,
 ⟨(some 20),.mov (.tmp 19),none,0⟩,
 ⟨(some 21),.faddr 5 (.tmp 1),some (20,false),0⟩,
 ⟨(some 22),.load none (.tmp 21),some (20,false),0⟩,
 ⟨(some 23),.len (.tmp 22),some (20,false),0⟩,
 ⟨(some 24),.bin .eql (.tmp 23) (.cst (.c (.int .i64 0))),some (20,false),0⟩,
 ⟨(some 25),.pick (.tmp 20) (.cst (.c (.bool true))) (.tmp 24),none,0⟩,
 ⟨(some 26),.mov (.tmp 25),none,0⟩,
 ⟨(some 27),.load (some 7) (.tmp 1),some (26,false),0⟩,
 ⟨(some 28),.faddr 1 (.tmp 1),some (26,false),0⟩,
 ⟨(some 29),.load none (.tmp 28),some (26,false),0⟩,
 ⟨(some 30),.call 36 true [(.tmp 27),(.tmp 29)],some (26,false),0⟩,
 ⟨(some 31),.not (.tmp 30),some (26,false),0⟩,
 ⟨(some 32),.pick (.tmp 26) (.cst (.c (.bool true))) (.tmp 31),none,0⟩,
 ⟨(some 33),.mov (.tmp 32),none,0⟩,
 ⟨(some 34),.faddr 2 (.tmp 1),some (33,false),0⟩,
 ⟨(some 35),.load none (.tmp 34),some (33,false),0⟩,
 ⟨(some 36),.call 41 true [(.tmp 35),(.cst (.c (.int .i64 0))),(.cst (.c (.int .i64 999)))],some (33,false),0⟩,
 ⟨(some 37),.not (.tmp 36),some (33,false),0⟩,
 ⟨(some 38),.pick (.tmp 33) (.cst (.c (.bool true))) (.tmp 37),none,0⟩,
 ⟨(some 39),.mov (.tmp 38),none,0⟩,
 ⟨(some 40),.faddr 3 (.tmp 1),some (39,false),0⟩,
 ⟨(some 41),.load none (.tmp 40),some (39,false),0⟩,
 ⟨(some 42),.faddr 0 (.tmp 1),some (39,false),0⟩,
 ⟨(some 43),.load none (.tmp 42),some (39,false),0⟩,
 ⟨(some 44),.bin .add (.tmp 43) (.cst (.c (.int .i64 1))),some (39,false),0⟩,
 ⟨(some 45),.call 41 true [(.tmp 41),(.cst (.c (.int .i64 0))),(.tmp 44)],some (39,false),0⟩,
 ⟨(some 46),.not (.tmp 45),some (39,false),0⟩,
 ⟨(some 47),.pick (.tmp 39) (.cst (.c (.bool true))) (.tmp 46),none,0⟩,
 ⟨(some 48),.mov (.tmp 47),none,0⟩,
 ⟨(some 49),.faddr 4 (.tmp 1),some (48,false),0⟩,
 ⟨(some 50),.load none (.tmp 49),some (48,false),0⟩,
 ⟨(some 51),.call 41 true [(.tmp 50),(.cst (.c (.int .i64 1))),(.cst (.c (.int .i64 5)))],some (48,false),0⟩,
 ⟨(some 52),.not (.tmp 51),some (48,false),0⟩,
 ⟨(some 53),.pick (.tmp 48) (.cst (.c (.bool true))) (.tmp 52),none,0⟩,
 ⟨(some 54),.mov (.tmp 53),none,0⟩,
 ⟨(some 55),.faddr 5 (.tmp 1),some (54,false),0⟩,
 ⟨(some 56),.load none (.tmp 55),some (54,false),0⟩,
 ⟨(some 57),.mov (.tmp 3),some (54,false),0⟩,
 ⟨(some 58),.call 42 false [(.tmp 56),(.tmp 57)],some (54,false),0⟩,
 ⟨(some 59),.not (.tmp 58),some (54,false),0⟩,
 ⟨(some 60),.pick (.tmp 54) (.cst (.c (.bool true))) (.tmp 59),none,0⟩,
 ⟨(some 61),.mov (.tmp 60),none,0⟩,
 ⟨(some 62),.load (some 7) (.tmp 1),some (61,false),0⟩,
 ⟨(some 63),.call 43 true [(.tmp 62)],some (61,false),0⟩,
 ⟨(some 64),.not (.tmp 63),some (61,false),0⟩,
 ⟨(some 65),.pick (.tmp 61) (.cst (.c (.bool true))) (.tmp 64),none,0⟩,
 ⟨(some 16),.mov (.tmp 65),none,0⟩])
 (.cond (.tmp 16)
 (.seq (.region 0 [] [
 ⟨(some 2),.mov (.cst (.c (.int .i64 1))),none,0⟩])
 .ret)
 .skip)))))
 (.seq (.region 0 [] [
 ⟨(some 2),.mov (.cst (.c (.int .i64 0))),none,0⟩])
 .ret))))⟩
def f27 : AFunc:=⟨19,[.tmp 4],false,
 (.seq (.region 1 [] [
 ⟨(some 2),.box (.tmp 0),none,0⟩,
 ⟨(some 4),.mov (.cst (.c (.bool false))),none,1⟩])
 (.seq (.region 0 [] [
 ⟨(some 6),.load (some 7) (.tmp 2),none,0⟩,
 ⟨(some 7),.mkfn 36 (some (.tmp 6)) [],none,0⟩,
 ⟨(some 5),.mov (.tmp 7),none,0⟩])
 (.seq (.region 0 [] [
 ⟨(some 8),.mov (.tmp 1),none,0⟩,
 ⟨(some 9),.len (.tmp 8),none,0⟩,
 ⟨(some 10),.faddr 0 (.tmp 2),none,0⟩,
 ⟨(some 11),.load none (.tmp 10),none,0⟩,
 ⟨(some 12),.bin .add (.tmp 11) (.cst (.c (.int .i64 1))),none,0⟩,
 ⟨(some 13),.bin .eql (.tmp 9) (.tmp 12),none,0⟩,
 ⟨(some 14),.mov (.tmp 13),none,0⟩,
 ⟨(some 15),.mov (.tmp 1),some (14,true),0⟩,
 ⟨(some 16),.mov (.tmp 5),some (14,true),0⟩,
 ⟨(some 17),.call 37 false [(.tmp 15),(.tmp 16)],some (14,true),0⟩,
 ⟨(some 18),.pick (.tmp 14) (.tmp 17) (.cst (.c (.bool false))),none,0⟩,
 ⟨(some 4),.mov (.tmp 18),none,0⟩])
 .ret)))⟩
def f28 : AFunc:=⟨18,[.tmp 6],false,
 (.seq (.region 2 [] [
 ⟨(some 3),.box (.tmp 0),none,0⟩,
 ⟨(some 5),.box (.tmp 2),none,1⟩,
 ⟨(some 6),.mov (.cst (.c (.bool false))),none,2⟩])
 (.seq (.region 1 [] [
 ⟨(some 7),.alloc [(.int .i64 0)],none,0⟩,
 ⟨none,.store none (.tmp 7) (.cst (.c (.int .i64 (-1)))),none,1⟩])
 (.seq (.region 0 [] [
 ⟨(some 8),.mov (.tmp 1),none,0⟩,
 ⟨(some 9),.len (.tmp 8),none,0⟩,
 ⟨(some 10),.faddr 3 (.tmp 3),none,0⟩,
 ⟨(some 11),.load none (.tmp 10),none,0⟩,
 ⟨(some 12),.bin .leq (.tmp 9) (.tmp 11),none,0⟩,
 ⟨(some 13),.mov (.tmp 12),none,0⟩,
 ⟨(some 14),.mov (.tmp 1),some (13,true),0⟩,
 ⟨(some 15),.mkfn 44 none [(.tmp 7),(.tmp 5)],some (13,true),0⟩,
 ⟨(some 16),.call 37 false [(.tmp 14),(.tmp 15)],some (13,true),0⟩,
 ⟨(some 17),.pick (.tmp 13) (.tmp 16) (.cst (.c (.bool false))),none,0⟩,
 ⟨(some 6),.mov (.tmp 17),none,0⟩])
 .ret)))⟩
def f29 : AFunc:=⟨50,[.tmp 6,.cell 7 (some 11),.tmp 8],false,
 (.seq (.region 2 [] [
 ⟨(some 3),.box (.tmp 0),none,0⟩,
 ⟨(some 6),.mov (.cst (.c .nils)),none,1⟩,
 ⟨(some 7),.alloc [(.int .i64 0),(.int .i64 0),(.int .i64 0),(.int .i64 0),(.int .i64 0),(.int .i64 0),(.int .i64 0),(.int .i64 0),(.int .i64 0),(.int .i64 0),(.int .i64 0)],none,1⟩,
 ⟨(some 8),.mov (.cst (.c (.bool false))),none,2⟩])
 (.seq (.region 0 [] [
 ⟨(some 14),.load (some 7) (.tmp 3),none,0⟩,
 ⟨(some 15),.call 45 true [(.tmp 14)],none,0⟩,
 ⟨none,.store (some 11) (.tmp 7) (.tmp 15),none,0⟩])
 (.seq (.seq (.region 0 [] [
 ⟨(some 16),.mov (.tmp 1),none,0⟩,
 ⟨(some 17),.len (.tmp 16),none,0⟩,
 ⟨(some 18),.mov (.cst (.c (.int .i64 0))),none,0⟩])
 (.block 0 (.loop ⟨[8,9,10,11,12,13,19,20,21,22,23,24,25,26,27,28,29,30,31,32,33,34,35,36,37,38,39,40,41,42,43,44,45,46,47],true,[(6,none,3)]⟩
 (.seq (.region 0 [] [
 ⟨(some 19),.bin .lss (.tmp 18) (.tmp 17),none,0⟩])
 (.seq (.cond (.tmp 19)
 .skip
 (.exit 0))
 (.seq (.block 1 (.seq (.region 0 [] [
 ⟨(some 20),.mov (.tmp 18),none,0⟩,
 ⟨(some 21),.iaddr 1 (.tmp 16) (.tmp 18),none,0⟩,
 ⟨(some 22),.load none (.tmp 21),none,0⟩,
 ⟨(some 9),.mov (.tmp 20),none,0⟩,
 ⟨(some 10),.mov (.tmp 22),none,0⟩])
 (.seq (.seq (.region 0 [] [
 ⟨(some 24),.load (some 7) (.tmp 3),none,0⟩,
 ⟨(some 25),.load (some 11) (.tmp 7),none,0⟩,
 ⟨(some 26),.mov (.tmp 10),none,0⟩,
 ⟨(some 27),.call 46 true [(.tmp 24),(.tmp 25),(.tmp 26)],none,0⟩,
 ⟨(some 23),.mov (.tmp 27),none,0⟩,
 ⟨(some 28),.extract 0 (.tmp 23),none,0⟩,
 ⟨(some 29),.extract 1 (.tmp 23),none,0⟩,
 ⟨(some 11),.mov (.tmp 28),none,0⟩,
 ⟨(some 12),.mov (.tmp 29),none,0⟩])
 (.seq (.region 0 [] [
 ⟨(some 30),.mov (.tmp 12),none,0⟩,
 ⟨(some 31),.not (.tmp 30),none,0⟩])
 (.cond (.tmp 31)
 (.seq (.region 0 [(0,1)] [
 ⟨(some 32),.load (some 11) (.tmp 7),none,0⟩,
 ⟨(some 6),.mov (.cst (.c .nils)),none,0⟩,
 ⟨none,.store (some 11) (.tmp 7) (.tmp 32),none,0⟩,
 ⟨(some 8),.mov (.cst (.c (.bool false))),none,0⟩])
 .ret)
 .skip)))
 (.seq (.region 1 [] [
 ⟨(some 13),.alloc [(.int .i64 0),(.int .i64 0),(.int .i64 0)],none,0⟩])
 (.seq (.region 0 [(0,1),(0,2),(1,2),(0,3),(1,3),(2,3),(0,4),(1,4),(2,4),(3,4),(0,5),(1,5),(2,5),(8,9),(9,10)] [
 ⟨(some 34),.load (some 7) (.tmp 3),none,0⟩,
 ⟨(some 35),.load (some 11) (.tmp 7),none,0⟩,
 ⟨(some 36),.mov (.tmp 10),none,0⟩,
 ⟨(some 37),.mov (.tmp 2),none,0⟩,
 ⟨(some 38),.mov (.tmp 9),none,0⟩,
 ⟨(some 39),.call 48 true [(.tmp 37),(.tmp 38)],none,0⟩,
 ⟨(some 40),.call 47 true [(.tmp 34),(.tmp 35),(.tmp 36),(.tmp 39)],none,0⟩,
 ⟨(some 33),.mov (.tmp 40),none,0⟩,
 ⟨(some 41),.extract 0 (.tmp 33),none,0⟩,
 ⟨(some 42),.extract 1 (.tmp 33),none,0⟩,
 ⟨none,.store (some 11) (.tmp 7) (.tmp 41),none,0⟩,
 ⟨none,.store (some 3) (.tmp 13) (.tmp 42),none,0⟩])
 (.region 2 [] [
 ⟨(some 43),.mov (.tmp 6),none,0⟩,
 ⟨(some 44),.load (some 3) (.tmp 13),none,0⟩,
 ⟨(some 45),.bslice 3 1 [(.int .i64 0),(.int .i64 0),(.int .i64 0)] [(0,(.tmp 44))],none,0⟩,
 ⟨(some 46),.append 3 24 (.tmp 43) (.tmp 45),none,1⟩,
 ⟨(some 6),.mov (.tmp 46),none,2⟩]))))))
 (.region 0 [] [
 ⟨(some 47),.bin .add (.tmp 18) (.cst (.c (.int .i64 1))),none,0⟩,
 ⟨(some 18),.mov (.tmp 47),none,0⟩])))))))
 (.seq (.region 0 [(0,1),(1,2)] [
 ⟨(some 48),.mov (.tmp 6),none,0⟩,
 ⟨(some 49),.load (some 11) (.tmp 7),none,0⟩,
 ⟨(some 6),.mov (.tmp 48),none,0⟩,
 ⟨none,.store (some 11) (.tmp 7) (.tmp 49),none,0⟩,
 ⟨(some 8),.mov (.cst (.c (.bool true))),none,0⟩])
 .ret))))⟩
end Am.Tm
