/-
  A part of the proof: the texts VtTabA of this seat, joined.
-/
import Derived.Test.YtphjbeffckignaaGreatAmA
namespace Am.Vt
open Go Am
set_option maxRecDepth 100000
def f11 : AFunc:=⟨191,[.tmp 8],false,
 (.seq (.region 1 [] [
 ⟨(some 4),.box (.tmp 0),none,0⟩,
 ⟨(some 8),.mov (.cst (.c (.bool false))),none,1⟩])
 (.seq (.seq (.region 0 [] [
 ⟨(some 30),.load (some 17) (.tmp 4),none,0⟩,
 ⟨(some 31),.call 36 true [(.tmp 30)],none,0⟩,
 ⟨(some 32),.not (.tmp 31),none,0⟩,
 ⟨(some 33),.mov (.tmp 32),none,0⟩,
 ⟨(some 34),.faddr 13 (.tmp 4),some (33,false),0⟩,
 ⟨(some 35),.load none (.tmp 34),some (33,false),0⟩,
 ⟨(some 36),.len (.tmp 35),some (33,false),0⟩,
 ⟨(some 37),.bin .eql (.tmp 36) (.cst (.c (.int .i64 0))),some (33,false),0⟩,
 ⟨(some 38),.pick (.tmp 33) (.cst (.c (.bool true))) (.tmp 37),none,0⟩])
 (.cond (.tmp 38)
 (.seq (.region 0 [] [
 ⟨(some 39),.call 16 true [],none,0⟩,
 ⟨(some 8),.mov (.tmp 39),none,0⟩])
 .ret)
 .skip))
 (.seq (.region 1 [] [
 ⟨(some 40),.load (some 17) (.tmp 4),none,0⟩,
 ⟨(some 9),.alloc [(.int .i64 0),(.int .i64 0),(.int .i64 0),(.int .i64 0),(.int .i64 0),(.int .i64 0),(.int .i64 0),(.int .i64 0),.nils,.nils,.nils,.nils,(.int .i64 0),.nils,(.int .i64 0),(.int .i64 0),(.int .i64 0)],none,0⟩,
 ⟨none,.store (some 17) (.tmp 9) (.tmp 40),none,1⟩])
 (.seq (.region 2 [] [
 ⟨(some 41),.bslice 2 0 [(.int .i64 0),(.int .i64 0)] [],none,0⟩,
 ⟨(some 42),.faddr 13 (.tmp 4),none,1⟩,
 ⟨(some 43),.load none (.tmp 42),none,1⟩,
 ⟨(some 44),.append 2 16 (.tmp 41) (.tmp 43),none,1⟩,
 ⟨(some 45),.faddr 13 (.tmp 9),none,2⟩,
 ⟨none,.store none (.tmp 45) (.tmp 44),none,2⟩])
 (.seq (.region 0 [] [
 ⟨(some 46),.mov (.tmp 1),none,0⟩,
 ⟨(some 47),.conv .i64 (.tmp 46),none,0⟩,
 ⟨(some 48),.faddr 13 (.tmp 9),none,0⟩,
 ⟨(some 49),.load none (.tmp 48),none,0⟩,
 ⟨(some 50),.len (.tmp 49),none,0⟩,
 ⟨(some 51),.bin .rem (.tmp 47) (.tmp 50),none,0⟩,
 ⟨(some 10),.mov (.tmp 51),none,0⟩])
 (.seq (.region 0 [] [
 ⟨(some 52),.faddr 13 (.tmp 9),none,0⟩,
 ⟨(some 53),.load none (.tmp 52),none,0⟩,
 ⟨(some 54),.mov (.tmp 10),none,0⟩,
 ⟨(some 55),.iaddr 2 (.tmp 53) (.tmp 54),none,0⟩,
 ⟨(some 11),.mov (.tmp 55),none,0⟩])
 (.seq (.region 0 [(0,1),(0,2),(1,2),(0,3),(1,3),(0,4),(1,4),(0,5),(1,5),(0,6),(1,6),(2,6),(3,6),(4,6),(5,6),(0,7),(1,7),(2,7),(3,7),(4,7),(5,7),(0,8),(1,8),(2,8),(3,8),(4,8),(5,8),(0,9),(1,9),(0,10),(1,10),(0,11),(1,11),(2,11),(3,11),(4,11),(5,11),(6,11),(7,11),(8,11),(9,11),(10,11),(0,12),(1,12),(2,12),(3,12),(4,12),(5,12),(6,12),(7,12),(8,12),(9,12),(10,12),(0,13),(1,13),(2,13),(3,13),(4,13),(5,13),(6,13),(7,13),(8,13),(9,13),(10,13),(0,14),(1,14),(2,14),(3,14),(4,14),(5,14),(6,14),(7,14),(8,14),(9,14),(10,14),(0,15),(1,15),(2,15),(3,15),(4,15),(5,15),(6,15),(7,15),(8,15),(9,15),(10,15),(11,15),(12,15),(13,15),(14,15),(0,16),(1,16),(2,16),(3,16),(4,16),(5,16),(6,16),(7,16),(8,16),(9,16),(10,16),(11,16),(12,16),(13,16),(14,16),(0,17),(1,17),(2,17),(3,17),(4,17),(5,17),(6,17),(7,17),(8,17),(9,17),(10,17),(11,17),(12,17),(13,17),(14,17),(0,18),(1,18),(2,18),(3,18),(4,18),(5,18),(6,18),(7,18),(8,18),(9,18),(10,18),(11,18),(12,18),(13,18),(14,18),(0,19),(1,19),(2,19),(3,19),(4,19),(5,19),(6,19),(7,19),(8,19),(9,19),(10,19),(0,20),(1,20),(2,20),(3,20),(4,20),(5,20),(6,20),(7,20),(8,20),(9,20),(10,20),(1,21),(15,21),(16,21),(17,21),(18,21),(19,21),(20,21),(1,22),(15,22),(16,22),(17,22),(18,22),(19,22),(20,22),(1,23),(15,23),(16,23),(17,23),(18,23),(19,23),(20,23)] [
 ⟨(some 56),.mov (.tmp 11),none,0⟩,
 ⟨(some 57),.mov (.tmp 11),none,0⟩,
 ⟨(some 58),.mov (.tmp 11),none,0⟩,
 ⟨(some 59),.nilchk (.tmp 58),none,0⟩,
 ⟨(some 60),.faddr 0 (.tmp 59),none,0⟩,
 ⟨(some 61),.load none (.tmp 60),none,0⟩,
 ⟨(some 62),.mov (.tmp 2),none,0⟩,
 ⟨(some 63),.conv .i64 (.tmp 62),none,0⟩,
 ⟨(some 64),.bin .rem (.tmp 63) (.cst (.c (.int .i64 7))),none,0⟩,
 ⟨(some 65),.bin .sub (.tmp 61) (.tmp 64),none,0⟩,
 ⟨(some 66),.mm true (.cst (.c (.int .i64 0))) (.tmp 65),none,0⟩,
 ⟨(some 67),.mov (.tmp 11),none,0⟩,
 ⟨(some 68),.nilchk (.tmp 67),none,0⟩,
 ⟨(some 69),.faddr 1 (.tmp 68),none,0⟩,
 ⟨(some 70),.load none (.tmp 69),none,0⟩,
 ⟨(some 71),.mov (.tmp 2),none,0⟩,
 ⟨(some 72),.conv .i64 (.tmp 71),none,0⟩,
 ⟨(some 73),.bin .quo (.tmp 72) (.cst (.c (.int .i64 7))),none,0⟩,
 ⟨(some 74),.bin .rem (.tmp 73) (.cst (.c (.int .i64 7))),none,0⟩,
 ⟨(some 75),.bin .add (.tmp 70) (.tmp 74),none,0⟩,
 ⟨(some 76),.mm false (.cst (.c (.int .i64 9999))) (.tmp 75),none,0⟩,
 ⟨(some 77),.nilchk (.tmp 56),none,0⟩,
 ⟨(some 78),.faddr 0 (.tmp 77),none,0⟩,
 ⟨none,.store none (.tmp 78) (.tmp 66),none,0⟩,
 ⟨(some 79),.nilchk (.tmp 57),none,0⟩,
 ⟨(some 80),.faddr 1 (.tmp 79),none,0⟩,
 ⟨none,.store none (.tmp 80) (.tmp 76),none,0⟩])
 (.seq (.region 0 [] [
 ⟨(some 81),.load (some 17) (.tmp 4),none,0⟩,
 ⟨(some 82),.mov (.tmp 3),none,0⟩,
 ⟨(some 83),.call 38 true [(.tmp 81),(.tmp 82)],none,0⟩,
 ⟨(some 12),.mov (.tmp 83),none,0⟩])
 (.seq (.region 0 [] [
 ⟨(some 85),.load (some 17) (.tmp 4),none,0⟩,
 ⟨(some 86),.call 18 true [(.tmp 85)],none,0⟩,
 ⟨(some 87),.mov (.tmp 12),none,0⟩,
 ⟨(some 88),.call 19 true [(.tmp 87)],none,0⟩,
 ⟨(some 89),.mov (.tmp 10),none,0⟩,
 ⟨(some 90),.call 41 true [(.tmp 86),(.tmp 88),(.tmp 89)],none,0⟩,
 ⟨(some 84),.mov (.tmp 90),none,0⟩,
 ⟨(some 91),.extract 0 (.tmp 84),none,0⟩,
 ⟨(some 92),.extract 1 (.tmp 84),none,0⟩,
 ⟨(some 13),.mov (.tmp 91),none,0⟩,
 ⟨(some 14),.mov (.tmp 92),none,0⟩])
 (.seq (.region 0 [] [
 ⟨(some 94),.load (some 17) (.tmp 9),none,0⟩,
 ⟨(some 95),.call 18 true [(.tmp 94)],none,0⟩,
 ⟨(some 96),.mov (.tmp 12),none,0⟩,
 ⟨(some 97),.call 19 true [(.tmp 96)],none,0⟩,
 ⟨(some 98),.mov (.tmp 10),none,0⟩,
 ⟨(some 99),.call 41 true [(.tmp 95),(.tmp 97),(.tmp 98)],none,0⟩,
 ⟨(some 93),.mov (.tmp 99),none,0⟩,
 ⟨(some 100),.extract 0 (.tmp 93),none,0⟩,
 ⟨(some 101),.extract 1 (.tmp 93),none,0⟩,
 ⟨(some 15),.mov (.tmp 100),none,0⟩,
 ⟨(some 16),.mov (.tmp 101),none,0⟩])
 (.seq (.region 0 [] [
 ⟨(some 103),.load (some 17) (.tmp 4),none,0⟩,
 ⟨(some 104),.call 18 true [(.tmp 103)],none,0⟩,
 ⟨(some 105),.call 51 true [(.tmp 104)],none,0⟩,
 ⟨(some 102),.mov (.tmp 105),none,0⟩,
 ⟨(some 106),.extract 0 (.tmp 102),none,0⟩,
 ⟨(some 107),.extract 1 (.tmp 102),none,0⟩,
 ⟨(some 108),.extract 2 (.tmp 102),none,0⟩,
 ⟨(some 17),.mov (.tmp 106),none,0⟩,
 ⟨(some 18),.mov (.tmp 107),none,0⟩,
 ⟨(some 19),.mov (.tmp 108),none,0⟩])
 (.seq (.region 0 [] [
 ⟨(some 110),.load (some 17) (.tmp 9),none,0⟩,
 ⟨(some 111),.call 18 true [(.tmp 110)],none,0⟩,
 ⟨(some 112),.call 51 true [(.tmp 111)],none,0⟩,
 ⟨(some 109),.mov (.tmp 112),none,0⟩,
 ⟨(some 113),.extract 0 (.tmp 109),none,0⟩,
 ⟨(some 114),.extract 1 (.tmp 109),none,0⟩,
 ⟨(some 115),.extract 2 (.tmp 109),none,0⟩,
 ⟨(some 20),.mov (.tmp 113),none,0⟩,
 ⟨(some 21),.mov (.tmp 114),none,0⟩,
 ⟨(some 22),.mov (.tmp 115),none,0⟩])
 (.seq (.region 0 [] [
 ⟨(some 117),.load (some 17) (.tmp 4),none,0⟩,
 ⟨(some 118),.call 18 true [(.tmp 117)],none,0⟩,
 ⟨(some 119),.call 50 true [(.tmp 118)],none,0⟩,
 ⟨(some 116),.mov (.tmp 119),none,0⟩,
 ⟨(some 120),.extract 0 (.tmp 116),none,0⟩,
 ⟨(some 121),.extract 1 (.tmp 116),none,0⟩,
 ⟨(some 23),.mov (.tmp 120),none,0⟩,
 ⟨(some 24),.mov (.tmp 121),none,0⟩])
 (.seq (.region 0 [] [
 ⟨(some 123),.load (some 17) (.tmp 9),none,0⟩,
 ⟨(some 124),.call 18 true [(.tmp 123)],none,0⟩,
 ⟨(some 125),.call 50 true [(.tmp 124)],none,0⟩,
 ⟨(some 122),.mov (.tmp 125),none,0⟩,
 ⟨(some 126),.extract 0 (.tmp 122),none,0⟩,
 ⟨(some 127),.extract 1 (.tmp 122),none,0⟩,
 ⟨(some 25),.mov (.tmp 126),none,0⟩,
 ⟨(some 26),.mov (.tmp 127),none,0⟩])
 (.seq (.seq (.region 0 [] [
 ⟨(some 128),.mov (.tmp 14),none,0⟩,
 ⟨(some 129),.bin .neq (.tmp 128) (.cst (.c (.int .i64 0))),none,0⟩,
 ⟨(some 130),.mov (.tmp 129),none,0⟩,
 ⟨(some 131),.mov (.tmp 16),some (130,false),0⟩,
 ⟨(some 132),.bin .neq (.tmp 131) (.cst (.c (.int .i64 0))),some (130,false),0⟩,
 ⟨(some 133),.pick (.tmp 130) (.cst (.c (.bool true))) (.tmp 132),none,0⟩,
 ⟨(some 134),.mov (.tmp 133),none,0⟩,
 ⟨(some 135),.mov (.tmp 13),some (134,false),0⟩,
 ⟨(some 136),.bin .eql (.tmp 135) (.cst (.c (.int .i64 1))),some (134,false),0⟩,
 ⟨(some 137),.mov (.tmp 136),some (134,false),0⟩,
 ⟨(some 138),.mov (.tmp 15),some (137,true),0⟩,
 ⟨(some 139),.mov (.tmp 13),some (137,true),0⟩,
 ⟨(some 140),.bin .neq (.tmp 138) (.tmp 139),some (137,true),0⟩,
 ⟨(some 141),.pick (.tmp 137) (.tmp 140) (.cst (.c (.bool false))),some (134,false),0⟩,
 ⟨(some 142),.pick (.tmp 134) (.cst (.c (.bool true))) (.tmp 141),none,0⟩,
 ⟨(some 143),.mov (.tmp 142),none,0⟩,
 ⟨(some 144),.mov (.tmp 19),some (143,false),0⟩,
 ⟨(some 145),.bin .eql (.tmp 144) (.cst (.c (.int .i64 0))),some (143,false),0⟩,
 ⟨(some 146),.mov (.tmp 145),some (143,false),0⟩,
 ⟨(some 147),.mov (.tmp 22),some (146,true),0⟩,
 ⟨(some 148),.bin .neq (.tmp 147) (.cst (.c (.int .i64 0))),some (146,true),0⟩,
 ⟨(some 149),.mov (.tmp 148),some (146,true),0⟩,
 ⟨(some 150),.mov (.tmp 21),some (149,false),0⟩,
 ⟨(some 151),.mov (.tmp 18),some (149,false),0⟩,
 ⟨(some 152),.bin .gtr (.tmp 150) (.tmp 151),some (149,false),0⟩,
 ⟨(some 153),.pick (.tmp 149) (.cst (.c (.bool true))) (.tmp 152),some (146,true),0⟩,
 ⟨(some 154),.pick (.tmp 146) (.tmp 153) (.cst (.c (.bool false))),some (143,false),0⟩,
 ⟨(some 155),.pick (.tmp 143) (.cst (.c (.bool true))) (.tmp 154),none,0⟩,
 ⟨(some 156),.mov (.tmp 155),none,0⟩,
 ⟨(some 157),.mov (.tmp 24),some (156,false),0⟩,
 ⟨(some 158),.bin .neq (.tmp 157) (.cst (.c (.int .i64 0))),some (156,false),0⟩,
 ⟨(some 159),.pick (.tmp 156) (.cst (.c (.bool true))) (.tmp 158),none,0⟩,
 ⟨(some 160),.mov (.tmp 159),none,0⟩,
 ⟨(some 161),.mov (.tmp 26),some (160,false),0⟩,
 ⟨(some 162),.bin .neq (.tmp 161) (.cst (.c (.int .i64 0))),some (160,false),0⟩,
 ⟨(some 163),.pick (.tmp 160) (.cst (.c (.bool true))) (.tmp 162),none,0⟩])
 (.cond (.tmp 163)
 (.seq (.region 0 [] [
 ⟨(some 8),.mov (.cst (.c (.bool false))),none,0⟩])
 .ret)
 .skip))
 (.seq (.seq (.region 0 [] [
 ⟨(some 27),.mov (.cst (.c (.int .i64 0))),none,0⟩])
 (.block 0 (.loop ⟨[8,28,29,164,165,166,167,168,169,170,171,172,173,174,175,176,177,178,179,180,181,182,183,184,185,186,187,188,189],false,[]⟩
 (.seq (.seq (.region 0 [] [
 ⟨(some 164),.mov (.tmp 27),none,0⟩,
 ⟨(some 165),.mov (.tmp 25),none,0⟩,
 ⟨(some 166),.len (.tmp 165),none,0⟩,
 ⟨(some 167),.bin .lss (.tmp 164) (.tmp 166),none,0⟩])
 (.cond (.tmp 167)
 .skip
 (.exit 0)))
 (.seq (.block 1 (.seq (.region 0 [] [
 ⟨(some 28),.mov (.cst (.c (.bool false))),none,0⟩])
 (.seq (.seq (.region 0 [] [
 ⟨(some 29),.mov (.cst (.c (.int .i64 0))),none,0⟩])
 (.block 2 (.loop ⟨[170,171,172,173,174,175,176,177,178,179,180,181,182,183,184,185,186,187],false,[]⟩
 (.seq (.seq (.region 0 [] [
 ⟨(some 170),.mov (.tmp 29),none,0⟩,
 ⟨(some 171),.mov (.tmp 23),none,0⟩,
 ⟨(some 172),.len (.tmp 171),none,0⟩,
 ⟨(some 173),.bin .lss (.tmp 170) (.tmp 172),none,0⟩])
 (.cond (.tmp 173)
 .skip
 (.exit 2)))
 (.seq (.block 3 (.region 0 [(2,3),(2,6),(3,6),(4,6),(5,6),(2,7),(3,7),(4,7),(5,7),(6,7),(2,8),(3,8),(4,8),(5,8),(2,9),(3,9),(4,9),(5,9)] [
 ⟨(some 176),.mov (.tmp 28),none,0⟩,
 ⟨(some 177),.mov (.tmp 176),none,0⟩,
 ⟨(some 178),.mov (.tmp 23),some (177,false),0⟩,
 ⟨(some 179),.mov (.tmp 29),some (177,false),0⟩,
 ⟨(some 180),.iaddr 1 (.tmp 178) (.tmp 179),some (177,false),0⟩,
 ⟨(some 181),.load none (.tmp 180),some (177,false),0⟩,
 ⟨(some 182),.mov (.tmp 25),some (177,false),0⟩,
 ⟨(some 183),.mov (.tmp 27),some (177,false),0⟩,
 ⟨(some 184),.iaddr 1 (.tmp 182) (.tmp 183),some (177,false),0⟩,
 ⟨(some 185),.load none (.tmp 184),some (177,false),0⟩,
 ⟨(some 186),.bin .eql (.tmp 181) (.tmp 185),some (177,false),0⟩,
 ⟨(some 187),.pick (.tmp 177) (.cst (.c (.bool true))) (.tmp 186),none,0⟩,
 ⟨(some 28),.mov (.tmp 187),none,0⟩]))
 (.region 0 [] [
 ⟨(some 174),.mov (.tmp 29),none,0⟩,
 ⟨(some 175),.bin .add (.tmp 174) (.cst (.c (.int .i64 1))),none,0⟩,
 ⟨(some 29),.mov (.tmp 175),none,0⟩]))))))
 (.seq (.region 0 [] [
 ⟨(some 188),.mov (.tmp 28),none,0⟩,
 ⟨(some 189),.not (.tmp 188),none,0⟩])
 (.cond (.tmp 189)
 (.seq (.region 0 [] [
 ⟨(some 8),.mov (.cst (.c (.bool false))),none,0⟩])
 .ret)
 .skip)))))
 (.region 0 [] [
 ⟨(some 168),.mov (.tmp 27),none,0⟩,
 ⟨(some 169),.bin .add (.tmp 168) (.cst (.c (.int .i64 1))),none,0⟩,
 ⟨(some 27),.mov (.tmp 169),none,0⟩]))))))
 (.seq (.region 0 [] [
 ⟨(some 190),.call 16 true [],none,0⟩,
 ⟨(some 8),.mov (.tmp 190),none,0⟩])
 .ret)))))))))))))))))⟩
def f15 : AFunc:=⟨12,[.tmp 2],false,
 (.seq (.region 1 [] [
 ⟨(some 1),.box (.tmp 0),none,0⟩,
 ⟨(some 2),.mov (.cst (.c (.bool false))),none,1⟩])
 (.seq (.region 0 [] [
 ⟨(some 3),.faddr 0 (.tmp 1),none,0⟩,
 ⟨(some 4),.load (some 12) (.tmp 3),none,0⟩,
 ⟨(some 5),.call 61 true [(.tmp 4)],none,0⟩,
 ⟨(some 6),.mov (.tmp 5),none,0⟩,
 ⟨(some 7),.faddr 13 (.tmp 1),some (6,true),0⟩,
 ⟨(some 8),.load none (.tmp 7),some (6,true),0⟩,
 ⟨(some 9),.len (.tmp 8),some (6,true),0⟩,
 ⟨(some 10),.bin .leq (.tmp 9) (.cst (.c (.int .i64 6))),some (6,true),0⟩,
 ⟨(some 11),.pick (.tmp 6) (.tmp 10) (.cst (.c (.bool false))),none,0⟩,
 ⟨(some 2),.mov (.tmp 11),none,0⟩])
 .ret))⟩
def f16 : AFunc:=⟨133,[.tmp 0],false,
 (.seq (.region 0 [] [
 ⟨(some 0),.mov (.cst (.c (.bool false))),none,0⟩])
 (.seq (.region 1 [] [
 ⟨(some 20),.call 46 true [(.cst (.c .nils))],none,0⟩,
 ⟨(some 21),.call 47 true [],none,0⟩,
 ⟨(some 22),.bslice 1 4 [(.int .i64 0)] [(0,(.cst (.c (.int .i64 2)))),(1,(.cst (.c (.int .i64 1)))),(2,(.cst (.c (.int .i64 3)))),(3,(.cst (.c (.int .i64 0))))],none,0⟩,
 ⟨(some 23),.build [(.int .i64 0),(.int .i64 0),.nils] [(0,1,(.cst (.c (.int .i64 1)))),(1,1,(.cst (.c (.int .i64 100)))),(2,1,(.tmp 22))],none,1⟩,
 ⟨(some 24),.call 17 true [(.tmp 20),(.tmp 21),(.tmp 23)],none,1⟩,
 ⟨(some 19),.mov (.tmp 24),none,1⟩,
 ⟨(some 25),.extract 0 (.tmp 19),none,1⟩,
 ⟨(some 26),.extract 1 (.tmp 19),none,1⟩,
 ⟨(some 1),.mov (.tmp 25),none,1⟩,
 ⟨(some 2),.mov (.tmp 26),none,1⟩])
 (.seq (.region 0 [] [
 ⟨(some 28),.call 46 true [(.cst (.c .nils))],none,0⟩,
 ⟨(some 29),.call 28 true [(.tmp 28),(.cst (.c (.int .i64 0))),(.cst (.c (.int .i64 8)))],none,0⟩,
 ⟨(some 27),.mov (.tmp 29),none,0⟩,
 ⟨(some 30),.extract 0 (.tmp 27),none,0⟩,
 ⟨(some 31),.extract 1 (.tmp 27),none,0⟩,
 ⟨(some 3),.mov (.tmp 30),none,0⟩,
 ⟨(some 4),.mov (.tmp 31),none,0⟩])
 (.seq (.region 0 [] [
 ⟨(some 33),.call 46 true [(.cst (.c .nils))],none,0⟩,
 ⟨(some 34),.call 28 true [(.tmp 33),(.cst (.c (.int .i64 0))),(.cst (.c (.int .i64 2)))],none,0⟩,
 ⟨(some 32),.mov (.tmp 34),none,0⟩,
 ⟨(some 35),.extract 0 (.tmp 32),none,0⟩,
 ⟨(some 36),.extract 1 (.tmp 32),none,0⟩,
 ⟨(some 5),.mov (.tmp 35),none,0⟩,
 ⟨(some 6),.mov (.tmp 36),none,0⟩])
 (.seq (.region 0 [] [
 ⟨(some 38),.call 46 true [(.cst (.c .nils))],none,0⟩,
 ⟨(some 39),.call 51 true [(.tmp 38)],none,0⟩,
 ⟨(some 37),.mov (.tmp 39),none,0⟩,
 ⟨(some 40),.extract 0 (.tmp 37),none,0⟩,
 ⟨(some 41),.extract 1 (.tmp 37),none,0⟩,
 ⟨(some 42),.extract 2 (.tmp 37),none,0⟩,
 ⟨(some 7),.mov (.tmp 40),none,0⟩,
 ⟨(some 8),.mov (.tmp 41),none,0⟩,
 ⟨(some 9),.mov (.tmp 42),none,0⟩])
 (.seq (.region 0 [] [
 ⟨(some 44),.call 46 true [(.cst (.c .nils))],none,0⟩,
 ⟨(some 45),.call 49 true [(.tmp 44),(.cst (.c (.int .i64 6)))],none,0⟩,
 ⟨(some 43),.mov (.tmp 45),none,0⟩,
 ⟨(some 46),.extract 0 (.tmp 43),none,0⟩,
 ⟨(some 47),.extract 1 (.tmp 43),none,0⟩,
 ⟨(some 48),.extract 2 (.tmp 43),none,0⟩,
 ⟨(some 10),.mov (.tmp 46),none,0⟩,
 ⟨(some 11),.mov (.tmp 47),none,0⟩,
 ⟨(some 12),.mov (.tmp 48),none,0⟩])
 (.seq (.region 0 [] [
 ⟨(some 50),.call 46 true [(.cst (.c .nils))],none,0⟩,
 ⟨(some 51),.call 47 true [],none,0⟩,
 ⟨(some 52),.call 39 true [(.tmp 50),(.tmp 51),(.cst (.c (.int .i64 0))),(.cst (.c (.int .i64 2)))],none,0⟩,
 ⟨(some 49),.mov (.tmp 52),none,0⟩,
 ⟨(some 53),.extract 0 (.tmp 49),none,0⟩,
 ⟨(some 54),.extract 1 (.tmp 49),none,0⟩,
 ⟨(some 13),.mov (.tmp 53),none,0⟩,
 ⟨(some 14),.mov (.tmp 54),none,0⟩])
 (.seq (.region 0 [] [
 ⟨(some 56),.call 46 true [(.cst (.c .nils))],none,0⟩,
 ⟨(some 57),.call 47 true [],none,0⟩,
 ⟨(some 58),.call 40 true [(.tmp 56),(.tmp 57),(.cst (.c (.int .i64 0)))],none,0⟩,
 ⟨(some 55),.mov (.tmp 58),none,0⟩,
 ⟨(some 59),.extract 0 (.tmp 55),none,0⟩,
 ⟨(some 60),.extract 1 (.tmp 55),none,0⟩,
 ⟨(some 15),.mov (.tmp 59),none,0⟩,
 ⟨(some 16),.mov (.tmp 60),none,0⟩])
 (.seq (.region 1 [] [
 ⟨(some 62),.call 48 true [(.cst (.c (.int .i64 91))),(.cst (.c (.int .i64 99)))],none,0⟩,
 ⟨(some 63),.bslice 2 1 [(.int .i64 0),(.int .i64 0)] [(0,(.tmp 62))],none,0⟩,
 ⟨(some 64),.call 46 true [(.tmp 63)],none,1⟩,
 ⟨(some 65),.call 50 true [(.tmp 64)],none,1⟩,
 ⟨(some 61),.mov (.tmp 65),none,1⟩,
 ⟨(some 66),.extract 0 (.tmp 61),none,1⟩,
 ⟨(some 67),.extract 1 (.tmp 61),none,1⟩,
 ⟨(some 17),.mov (.tmp 66),none,1⟩,
 ⟨(some 18),.mov (.tmp 67),none,1⟩])
 (.seq (.region 2 [] [
 ⟨(some 68),.mov (.tmp 2),none,0⟩,
 ⟨(some 69),.bin .eql (.tmp 68) (.cst (.c (.int .i64 0))),none,0⟩,
 ⟨(some 70),.mov (.tmp 69),none,0⟩,
 ⟨(some 71),.mov (.tmp 1),some (70,true),0⟩,
 ⟨(some 72),.bslice 1 3 [(.int .i64 0)] [(0,(.cst (.c (.int .i64 18)))),(1,(.cst (.c (.int .i64 31)))),(2,(.cst (.c (.int .i64 16))))],some (70,true),0⟩,
 ⟨(some 73),.call 25 true [(.tmp 71),(.tmp 72)],some (70,true),1⟩,
 ⟨(some 74),.pick (.tmp 70) (.tmp 73) (.cst (.c (.bool false))),none,1⟩,
 ⟨(some 75),.mov (.tmp 74),none,1⟩,
 ⟨(some 76),.mov (.tmp 4),some (75,true),1⟩,
 ⟨(some 77),.bin .eql (.tmp 76) (.cst (.c (.int .i64 0))),some (75,true),1⟩,
 ⟨(some 78),.pick (.tmp 75) (.tmp 77) (.cst (.c (.bool false))),none,1⟩,
 ⟨(some 79),.mov (.tmp 78),none,1⟩,
 ⟨(some 80),.mov (.tmp 3),some (79,true),1⟩,
 ⟨(some 81),.bin .eql (.tmp 80) (.cst (.c (.int .i64 4))),some (79,true),1⟩,
 ⟨(some 82),.pick (.tmp 79) (.tmp 81) (.cst (.c (.bool false))),none,1⟩,
 ⟨(some 83),.mov (.tmp 82),none,1⟩,
 ⟨(some 84),.mov (.tmp 6),some (83,true),1⟩,
 ⟨(some 85),.bin .eql (.tmp 84) (.cst (.c (.int .i64 10))),some (83,true),1⟩,
 ⟨(some 86),.pick (.tmp 83) (.tmp 85) (.cst (.c (.bool false))),none,1⟩,
 ⟨(some 87),.mov (.tmp 86),none,1⟩,
 ⟨(some 88),.mov (.tmp 9),some (87,true),1⟩,
 ⟨(some 89),.bin .eql (.tmp 88) (.cst (.c (.int .i64 0))),some (87,true),1⟩,
 ⟨(some 90),.pick (.tmp 87) (.tmp 89) (.cst (.c (.bool false))),none,1⟩,
 ⟨(some 91),.mov (.tmp 90),none,1⟩,
 ⟨(some 92),.mov (.tmp 8),some (91,true),1⟩,
 ⟨(some 93),.bin .eql (.tmp 92) (.cst (.c (.int .i64 9))),some (91,true),1⟩,
 ⟨(some 94),.pick (.tmp 91) (.tmp 93) (.cst (.c (.bool false))),none,1⟩,
 ⟨(some 95),.mov (.tmp 94),none,1⟩,
 ⟨(some 96),.call 46 true [(.cst (.c .nils))],some (95,true),1⟩,
 ⟨(some 97),.mov (.tmp 7),some (95,true),1⟩,
 ⟨(some 98),.call 34 true [(.tmp 96),(.tmp 97),(.cst (.c (.int .i64 9)))],some (95,true),1⟩,
 ⟨(some 99),.pick (.tmp 95) (.tmp 98) (.cst (.c (.bool false))),none,1⟩,
 ⟨(some 100),.mov (.tmp 99),none,1⟩,
 ⟨(some 101),.mov (.tmp 12),some (100,true),1⟩,
 ⟨(some 102),.bin .eql (.tmp 101) (.cst (.c (.int .i64 0))),some (100,true),1⟩,
 ⟨(some 103),.pick (.tmp 100) (.tmp 102) (.cst (.c (.bool false))),none,1⟩,
 ⟨(some 104),.mov (.tmp 103),none,1⟩,
 ⟨(some 105),.mov (.tmp 11),some (104,true),1⟩,
 ⟨(some 106),.bin .eql (.tmp 105) (.cst (.c (.int .i64 2))),some (104,true),1⟩,
 ⟨(some 107),.pick (.tmp 104) (.tmp 106) (.cst (.c (.bool false))),none,1⟩,
 ⟨(some 108),.mov (.tmp 107),none,1⟩,
 ⟨(some 109),.mov (.tmp 14),some (108,true),1⟩,
 ⟨(some 110),.bin .eql (.tmp 109) (.cst (.c (.int .i64 0))),some (108,true),1⟩,
 ⟨(some 111),.pick (.tmp 108) (.tmp 110) (.cst (.c (.bool false))),none,1⟩,
 ⟨(some 112),.mov (.tmp 111),none,1⟩,
 ⟨(some 113),.mov (.tmp 13),some (112,true),1⟩,
 ⟨(some 114),.bin .eql (.tmp 113) (.cst (.c (.int .i64 1))),some (112,true),1⟩,
 ⟨(some 115),.pick (.tmp 112) (.tmp 114) (.cst (.c (.bool false))),none,1⟩,
 ⟨(some 116),.mov (.tmp 115),none,1⟩,
 ⟨(some 117),.mov (.tmp 16),some (116,true),1⟩,
 ⟨(some 118),.bin .eql (.tmp 117) (.cst (.c (.int .i64 0))),some (116,true),1⟩,
 ⟨(some 119),.pick (.tmp 116) (.tmp 118) (.cst (.c (.bool false))),none,1⟩,
 ⟨(some 120),.mov (.tmp 119),none,1⟩,
 ⟨(some 121),.mov (.tmp 15),some (120,true),1⟩,
 ⟨(some 122),.bin .eql (.tmp 121) (.cst (.c (.int .i64 3))),some (120,true),1⟩,
 ⟨(some 123),.pick (.tmp 120) (.tmp 122) (.cst (.c (.bool false))),none,1⟩,
 ⟨(some 124),.mov (.tmp 123),none,1⟩,
 ⟨(some 125),.mov (.tmp 18),some (124,true),1⟩,
 ⟨(some 126),.bin .eql (.tmp 125) (.cst (.c (.int .i64 0))),some (124,true),1⟩,
 ⟨(some 127),.pick (.tmp 124) (.tmp 126) (.cst (.c (.bool false))),none,1⟩,
 ⟨(some 128),.mov (.tmp 127),none,1⟩,
 ⟨(some 129),.mov (.tmp 17),some (128,true),1⟩,
 ⟨(some 130),.bslice 1 1 [(.int .i64 0)] [(0,(.cst (.c (.int .i64 3))))],some (128,true),1⟩,
 ⟨(some 131),.call 25 true [(.tmp 129),(.tmp 130)],some (128,true),2⟩,
 ⟨(some 132),.pick (.tmp 128) (.tmp 131) (.cst (.c (.bool false))),none,2⟩,
 ⟨(some 0),.mov (.tmp 132),none,2⟩])
 .ret))))))))))⟩
def f17 : AFunc:=⟨40,[.tmp 6,.tmp 7],false,
 (.seq (.region 2 [] [
 ⟨(some 3),.box (.tmp 0),none,0⟩,
 ⟨(some 5),.box (.tmp 2),none,1⟩,
 ⟨(some 6),.mov (.cst (.c .nils)),none,2⟩,
 ⟨(some 7),.mov (.cst (.c (.int .i64 0))),none,2⟩])
 (.seq (.seq (.region 0 [] [
 ⟨(some 13),.load (some 17) (.tmp 3),none,0⟩,
 ⟨(some 14),.call 22 true [(.tmp 13)],none,0⟩,
 ⟨(some 8),.mov (.tmp 14),none,0⟩])
 (.seq (.region 0 [] [
 ⟨(some 15),.mov (.tmp 8),none,0⟩,
 ⟨(some 16),.bin .neq (.tmp 15) (.cst (.c (.int .i64 0))),none,0⟩])
 (.cond (.tmp 16)
 (.seq (.region 0 [] [
 ⟨(some 17),.mov (.tmp 8),none,0⟩,
 ⟨(some 6),.mov (.cst (.c .nils)),none,0⟩,
 ⟨(some 7),.mov (.tmp 17),none,0⟩])
 .ret)
 .skip)))
 (.seq (.region 1 [] [
 ⟨(some 19),.load (some 17) (.tmp 3),none,0⟩,
 ⟨(some 20),.load (some 3) (.tmp 5),none,0⟩,
 ⟨(some 21),.call 62 true [(.tmp 19),(.tmp 20)],none,0⟩,
 ⟨(some 18),.mov (.tmp 21),none,0⟩,
 ⟨(some 22),.extract 0 (.tmp 18),none,0⟩,
 ⟨(some 23),.extract 1 (.tmp 18),none,0⟩,
 ⟨(some 9),.alloc [(.int .i64 0),(.int .i64 0),(.int .i64 0),(.int .i64 0),(.int .i64 0),(.int .i64 0),(.int .i64 0),(.int .i64 0),(.int .i64 0),(.int .i64 0),(.int .i64 0),(.int .i64 0),(.int .i64 0),(.int .i64 0),(.int .i64 0),(.int .i64 0),(.int .i64 0),(.int .i64 0),(.int .i64 0),(.int .i64 0)],none,0⟩,
 ⟨none,.store (some 20) (.tmp 9) (.tmp 22),none,1⟩,
 ⟨(some 10),.mov (.tmp 23),none,1⟩])
 (.seq (.seq (.region 0 [] [
 ⟨(some 25),.load (some 17) (.tmp 3),none,0⟩,
 ⟨(some 26),.mov (.tmp 1),none,0⟩,
 ⟨(some 27),.call 63 true [(.tmp 25),(.tmp 26)],none,0⟩,
 ⟨(some 24),.mov (.tmp 27),none,0⟩,
 ⟨(some 28),.extract 0 (.tmp 24),none,0⟩,
 ⟨(some 29),.extract 1 (.tmp 24),none,0⟩,
 ⟨(some 11),.mov (.tmp 28),none,0⟩,
 ⟨(some 12),.mov (.tmp 29),none,0⟩])
 (.seq (.region 0 [] [
 ⟨(some 30),.mov (.tmp 12),none,0⟩,
 ⟨(some 31),.not (.tmp 30),none,0⟩,
 ⟨(some 32),.mov (.tmp 31),none,0⟩,
 ⟨(some 33),.mov (.tmp 10),some (32,false),0⟩,
 ⟨(some 34),.not (.tmp 33),some (32,false),0⟩,
 ⟨(some 35),.pick (.tmp 32) (.cst (.c (.bool true))) (.tmp 34),none,0⟩])
 (.cond (.tmp 35)
 (.seq (.region 0 [] [
 ⟨(some 6),.mov (.cst (.c .nils)),none,0⟩,
 ⟨(some 7),.mov (.cst (.c (.int .i64 2))),none,0⟩])
 .ret)
 .skip)))
 (.seq (.region 0 [] [
 ⟨(some 36),.load (some 20) (.tmp 9),none,0⟩,
 ⟨(some 37),.load (some 17) (.tmp 3),none,0⟩,
 ⟨(some 38),.mov (.tmp 1),none,0⟩,
 ⟨(some 39),.call 64 true [(.tmp 36),(.tmp 37),(.tmp 38)],none,0⟩,
 ⟨(some 6),.mov (.tmp 39),none,0⟩,
 ⟨(some 7),.mov (.cst (.c (.int .i64 0))),none,0⟩])
 .ret)))))⟩
def f18 : AFunc:=⟨35,[.cell 2 (some 17)],false,
 (.seq (.region 2 [] [
 ⟨(some 1),.box (.tmp 0),none,0⟩,
 ⟨(some 2),.alloc [(.int .i64 0),(.int .i64 0),(.int .i64 0),(.int .i64 0),(.int .i64 0),(.int .i64 0),(.int .i64 0),(.int .i64 0),.nils,.nils,.nils,.nils,(.int .i64 0),.nils,(.int .i64 0),(.int .i64 0),(.int .i64 0)],none,1⟩])
 (.seq (.region 1 [(0,3),(1,3),(2,3),(0,4),(1,4),(2,4),(0,5),(1,5),(2,5),(3,5),(4,5),(0,6),(1,6),(2,6),(3,6),(4,6),(0,7),(1,7),(2,7),(3,7),(4,7),(5,7),(6,7),(0,8),(1,8),(2,8),(3,8),(4,8),(5,8),(6,8),(3,9),(4,9),(5,9),(6,9),(0,11),(1,11),(2,11),(3,11),(4,11),(5,11),(6,11),(7,11),(8,11),(9,11),(10,11)] [
 ⟨(some 5),.faddr 0 (.tmp 1),none,0⟩,
 ⟨(some 6),.load (some 12) (.tmp 5),none,0⟩,
 ⟨(some 7),.call 58 true [(.tmp 6)],none,0⟩,
 ⟨(some 8),.faddr 12 (.tmp 1),none,0⟩,
 ⟨(some 9),.load none (.tmp 8),none,0⟩,
 ⟨(some 10),.faddr 14 (.tmp 1),none,0⟩,
 ⟨(some 11),.load none (.tmp 10),none,0⟩,
 ⟨(some 12),.faddr 15 (.tmp 1),none,0⟩,
 ⟨(some 13),.load (some 2) (.tmp 12),none,0⟩,
 ⟨(some 14),.call 65 true [(.tmp 13)],none,0⟩,
 ⟨(some 15),.build [(.int .i64 0),(.int .i64 0),(.int .i64 0),(.int .i64 0),(.int .i64 0),(.int .i64 0),(.int .i64 0),(.int .i64 0),.nils,.nils,.nils,.nils,(.int .i64 0),.nils,(.int .i64 0),(.int .i64 0),(.int .i64 0)] [(0,12,(.tmp 7)),(12,1,(.tmp 9)),(14,1,(.tmp 11)),(15,2,(.tmp 14))],none,0⟩,
 ⟨(some 3),.alloc [(.int .i64 0),(.int .i64 0),(.int .i64 0),(.int .i64 0),(.int .i64 0),(.int .i64 0),(.int .i64 0),(.int .i64 0),.nils,.nils,.nils,.nils,(.int .i64 0),.nils,(.int .i64 0),(.int .i64 0),(.int .i64 0)],none,0⟩,
 ⟨none,.store (some 17) (.tmp 3) (.tmp 15),none,1⟩])
 (.seq (.seq (.region 0 [] [
 ⟨(some 4),.mov (.cst (.c (.int .i64 0))),none,0⟩])
 (.block 0 (.loop ⟨[16,17,18,19,20,21,22,23,24,25,26,27,28,29,30,31,32,33],true,[(3,(some 13),2)]⟩
 (.seq (.seq (.region 0 [] [
 ⟨(some 16),.mov (.tmp 4),none,0⟩,
 ⟨(some 17),.faddr 13 (.tmp 1),none,0⟩,
 ⟨(some 18),.load none (.tmp 17),none,0⟩,
 ⟨(some 19),.len (.tmp 18),none,0⟩,
 ⟨(some 20),.bin .lss (.tmp 16) (.tmp 19),none,0⟩])
 (.cond (.tmp 20)
 .skip
 (.exit 0)))
 (.seq (.block 1 (.region 2 [(0,2),(1,2),(0,3),(1,3),(0,4),(1,4),(2,4),(3,4),(0,5),(1,5),(0,6),(1,6),(0,7),(1,7),(0,8),(1,8)] [
 ⟨(some 23),.faddr 13 (.tmp 3),none,0⟩,
 ⟨(some 24),.load none (.tmp 23),none,0⟩,
 ⟨(some 25),.faddr 13 (.tmp 1),none,0⟩,
 ⟨(some 26),.load none (.tmp 25),none,0⟩,
 ⟨(some 27),.mov (.tmp 4),none,0⟩,
 ⟨(some 28),.iaddr 2 (.tmp 26) (.tmp 27),none,0⟩,
 ⟨(some 29),.load (some 2) (.tmp 28),none,0⟩,
 ⟨(some 30),.call 65 true [(.tmp 29)],none,0⟩,
 ⟨(some 31),.bslice 2 1 [(.int .i64 0),(.int .i64 0)] [(0,(.tmp 30))],none,0⟩,
 ⟨(some 32),.append 2 16 (.tmp 24) (.tmp 31),none,1⟩,
 ⟨(some 33),.faddr 13 (.tmp 3),none,2⟩,
 ⟨none,.store none (.tmp 33) (.tmp 32),none,2⟩]))
 (.region 0 [] [
 ⟨(some 21),.mov (.tmp 4),none,0⟩,
 ⟨(some 22),.bin .add (.tmp 21) (.cst (.c (.int .i64 1))),none,0⟩,
 ⟨(some 4),.mov (.tmp 22),none,0⟩]))))))
 (.seq (.region 0 [] [
 ⟨(some 34),.load (some 17) (.tmp 3),none,0⟩,
 ⟨none,.store (some 17) (.tmp 2) (.tmp 34),none,0⟩])
 .ret))))⟩
def f19 : AFunc:=⟨27,[.tmp 2],false,
 (.seq (.region 0 [] [
 ⟨(some 2),.mov (.cst (.c .nils)),none,0⟩])
 (.seq (.region 1 [] [
 ⟨(some 5),.bslice 2 0 [(.int .i64 0),(.int .i64 0)] [],none,0⟩,
 ⟨(some 3),.mov (.tmp 5),none,1⟩])
 (.seq (.seq (.region 0 [] [
 ⟨(some 4),.mov (.cst (.c (.int .i64 0))),none,0⟩])
 (.block 0 (.loop ⟨[6,7,8,9,10,11,12,13,14,15,16,17,18,19,20,21,22,23,24,25],true,[(3,none,2)]⟩
 (.seq (.seq (.region 0 [] [
 ⟨(some 6),.mov (.tmp 4),none,0⟩,
 ⟨(some 7),.mov (.tmp 0),none,0⟩,
 ⟨(some 8),.len (.tmp 7),none,0⟩,
 ⟨(some 9),.bin .lss (.tmp 6) (.tmp 8),none,0⟩])
 (.cond (.tmp 9)
 .skip
 (.exit 0)))
 (.seq (.block 1 (.region 2 [(0,1),(0,2),(1,2),(0,3),(0,4),(0,5),(0,6),(1,6),(2,6),(3,6),(4,6),(5,6),(0,7),(1,7),(2,7),(3,7),(4,7),(5,7),(6,7),(0,8),(1,8),(2,8),(3,8),(4,8),(5,8),(0,9),(1,9),(2,9),(3,9),(4,9),(5,9),(0,10),(1,10),(2,10),(3,10),(4,10),(5,10),(0,11),(0,12)] [
 ⟨(some 12),.mov (.tmp 3),none,0⟩,
 ⟨(some 13),.mov (.tmp 0),none,0⟩,
 ⟨(some 14),.mov (.tmp 4),none,0⟩,
 ⟨(some 15),.iaddr 2 (.tmp 13) (.tmp 14),none,0⟩,
 ⟨(some 16),.faddr 0 (.tmp 15),none,0⟩,
 ⟨(some 17),.load none (.tmp 16),none,0⟩,
 ⟨(some 18),.mov (.tmp 0),none,0⟩,
 ⟨(some 19),.mov (.tmp 4),none,0⟩,
 ⟨(some 20),.iaddr 2 (.tmp 18) (.tmp 19),none,0⟩,
 ⟨(some 21),.faddr 1 (.tmp 20),none,0⟩,
 ⟨(some 22),.load none (.tmp 21),none,0⟩,
 ⟨(some 23),.build [(.int .i64 0),(.int .i64 0)] [(0,1,(.tmp 17)),(1,1,(.tmp 22))],none,0⟩,
 ⟨(some 24),.bslice 2 1 [(.int .i64 0),(.int .i64 0)] [(0,(.tmp 23))],none,0⟩,
 ⟨(some 25),.append 2 16 (.tmp 12) (.tmp 24),none,1⟩,
 ⟨(some 3),.mov (.tmp 25),none,2⟩]))
 (.region 0 [] [
 ⟨(some 10),.mov (.tmp 4),none,0⟩,
 ⟨(some 11),.bin .add (.tmp 10) (.cst (.c (.int .i64 1))),none,0⟩,
 ⟨(some 4),.mov (.tmp 11),none,0⟩]))))))
 (.seq (.region 0 [] [
 ⟨(some 26),.mov (.tmp 3),none,0⟩,
 ⟨(some 2),.mov (.tmp 26),none,0⟩])
 .ret))))⟩
def f21 : AFunc:=⟨5,[.tmp 2],false,
 (.seq (.region 1 [] [
 ⟨(some 1),.box (.tmp 0),none,0⟩,
 ⟨(some 2),.mov (.cst (.c (.int .i64 0))),none,1⟩])
 (.seq (.region 0 [] [
 ⟨(some 3),.load (some 17) (.tmp 1),none,0⟩,
 ⟨(some 4),.call 67 true [(.tmp 3)],none,0⟩,
 ⟨(some 2),.mov (.tmp 4),none,0⟩])
 .ret))⟩
def f22 : AFunc:=⟨43,[.tmp 2],false,
 (.seq (.region 1 [] [
 ⟨(some 1),.box (.tmp 0),none,0⟩,
 ⟨(some 2),.mov (.cst (.c (.int .i64 0))),none,1⟩])
 (.seq (.seq (.region 0 [] [
 ⟨(some 5),.faddr 13 (.tmp 1),none,0⟩,
 ⟨(some 6),.load none (.tmp 5),none,0⟩,
 ⟨(some 7),.len (.tmp 6),none,0⟩,
 ⟨(some 8),.bin .gtr (.tmp 7) (.cst (.c (.int .i64 4))),none,0⟩])
 (.cond (.tmp 8)
 (.seq (.region 0 [] [
 ⟨(some 2),.mov (.cst (.c (.int .i64 3))),none,0⟩])
 .ret)
 .skip))
 (.seq (.seq (.region 0 [] [
 ⟨(some 10),.faddr 0 (.tmp 1),none,0⟩,
 ⟨(some 11),.load (some 12) (.tmp 10),none,0⟩,
 ⟨(some 12),.call 68 true [(.tmp 11)],none,0⟩,
 ⟨(some 9),.mov (.tmp 12),none,0⟩,
 ⟨(some 13),.extract 0 (.tmp 9),none,0⟩,
 ⟨(some 14),.extract 1 (.tmp 9),none,0⟩,
 ⟨(some 3),.mov (.tmp 13),none,0⟩,
 ⟨(some 4),.mov (.tmp 14),none,0⟩])
 (.seq (.region 0 [] [
 ⟨(some 15),.mov (.tmp 4),none,0⟩,
 ⟨(some 16),.bin .neq (.tmp 15) (.cst (.c (.int .i64 0))),none,0⟩])
 (.cond (.tmp 16)
 (.seq (.region 0 [] [
 ⟨(some 17),.mov (.tmp 4),none,0⟩,
 ⟨(some 2),.mov (.tmp 17),none,0⟩])
 .ret)
 .skip)))
 (.seq (.seq (.region 0 [] [
 ⟨(some 18),.faddr 12 (.tmp 1),none,0⟩,
 ⟨(some 19),.load none (.tmp 18),none,0⟩,
 ⟨(some 20),.faddr 0 (.tmp 1),none,0⟩,
 ⟨(some 21),.faddr 0 (.tmp 20),none,0⟩,
 ⟨(some 22),.load none (.tmp 21),none,0⟩,
 ⟨(some 23),.call 69 true [(.tmp 19),(.cst (.c (.int .i64 0))),(.tmp 22)],none,0⟩,
 ⟨(some 24),.not (.tmp 23),none,0⟩,
 ⟨(some 25),.mov (.tmp 24),none,0⟩,
 ⟨(some 26),.faddr 13 (.tmp 1),some (25,false),0⟩,
 ⟨(some 27),.load none (.tmp 26),some (25,false),0⟩,
 ⟨(some 28),.call 70 false [(.tmp 27),(.cst (.c (.fn 71 false [] [])))],some (25,false),0⟩,
 ⟨(some 29),.not (.tmp 28),some (25,false),0⟩,
 ⟨(some 30),.pick (.tmp 25) (.cst (.c (.bool true))) (.tmp 29),none,0⟩,
 ⟨(some 31),.mov (.tmp 30),none,0⟩,
 ⟨(some 32),.faddr 14 (.tmp 1),some (31,false),0⟩,
 ⟨(some 33),.load none (.tmp 32),some (31,false),0⟩,
 ⟨(some 34),.call 69 true [(.tmp 33),(.cst (.c (.int .i64 0))),(.cst (.c (.int .i64 9999)))],some (31,false),0⟩,
 ⟨(some 35),.not (.tmp 34),some (31,false),0⟩,
 ⟨(some 36),.pick (.tmp 31) (.cst (.c (.bool true))) (.tmp 35),none,0⟩,
 ⟨(some 37),.mov (.tmp 36),none,0⟩,
 ⟨(some 38),.faddr 15 (.tmp 1),some (37,false),0⟩,
 ⟨(some 39),.load (some 2) (.tmp 38),some (37,false),0⟩,
 ⟨(some 40),.call 71 true [(.tmp 39)],some (37,false),0⟩,
 ⟨(some 41),.not (.tmp 40),some (37,false),0⟩,
 ⟨(some 42),.pick (.tmp 37) (.cst (.c (.bool true))) (.tmp 41),none,0⟩])
 (.cond (.tmp 42)
 (.seq (.region 0 [] [
 ⟨(some 2),.mov (.cst (.c (.int .i64 1))),none,0⟩])
 .ret)
 .skip))
 (.seq (.region 0 [] [
 ⟨(some 2),.mov (.cst (.c (.int .i64 0))),none,0⟩])
 .ret)))))⟩
end Am.Vt
