/-
  A part of the proof: the texts CrTabA of this seat, joined.
-/
import Derived.Test.YtiblicjmmippnaaAmA
namespace Am.Cr
open Go Am
set_option maxRecDepth 100000
def f5 : AFunc:=⟨176,[.tmp 10],false,
 (.seq (.region 1 [] [
 ⟨(some 5),.box (.tmp 0),none,0⟩,
 ⟨(some 10),.mov (.cst (.c (.bool false))),none,1⟩])
 (.seq (.region 0 [] [
 ⟨(some 21),.mov (.tmp 3),none,0⟩,
 ⟨(some 22),.conv .i64 (.tmp 21),none,0⟩,
 ⟨(some 23),.faddr 2 (.tmp 5),none,0⟩,
 ⟨(some 24),.load none (.tmp 23),none,0⟩,
 ⟨(some 25),.len (.tmp 24),none,0⟩,
 ⟨(some 26),.mm true (.cst (.c (.int .i64 1))) (.tmp 25),none,0⟩,
 ⟨(some 27),.bin .rem (.tmp 22) (.tmp 26),none,0⟩,
 ⟨(some 11),.mov (.tmp 27),none,0⟩])
 (.seq (.region 1 [] [
 ⟨(some 28),.load (some 9) (.tmp 5),none,0⟩,
 ⟨(some 12),.alloc [(.int .i64 0),.nils,.nils,.nils,.nils,(.int .i64 0),(.int .i64 0),(.int .i64 0),.nils],none,0⟩,
 ⟨none,.store (some 9) (.tmp 12) (.tmp 28),none,1⟩])
 (.seq (.region 2 [] [
 ⟨(some 29),.bslice 1 0 [(.int .i64 0)] [],none,0⟩,
 ⟨(some 30),.faddr 2 (.tmp 5),none,1⟩,
 ⟨(some 31),.load none (.tmp 30),none,1⟩,
 ⟨(some 32),.append 1 8 (.tmp 29) (.tmp 31),none,1⟩,
 ⟨(some 33),.faddr 2 (.tmp 12),none,2⟩,
 ⟨none,.store none (.tmp 33) (.tmp 32),none,2⟩])
 (.seq (.seq (.region 0 [] [
 ⟨(some 34),.faddr 2 (.tmp 12),none,0⟩,
 ⟨(some 35),.load none (.tmp 34),none,0⟩,
 ⟨(some 36),.len (.tmp 35),none,0⟩,
 ⟨(some 37),.bin .gtr (.tmp 36) (.cst (.c (.int .i64 0))),none,0⟩])
 (.cond (.tmp 37)
 (.region 0 [] [
 ⟨(some 38),.faddr 2 (.tmp 12),none,0⟩,
 ⟨(some 39),.load none (.tmp 38),none,0⟩,
 ⟨(some 40),.mov (.tmp 11),none,0⟩,
 ⟨(some 41),.iaddr 1 (.tmp 39) (.tmp 40),none,0⟩,
 ⟨none,.store none (.tmp 41) (.cst (.c (.int .i64 2))),none,0⟩])
 .skip))
 (.seq (.seq (.region 0 [] [
 ⟨(some 42),.load (some 9) (.tmp 5),none,0⟩,
 ⟨(some 43),.call 26 true [(.tmp 42)],none,0⟩,
 ⟨(some 44),.not (.tmp 43),none,0⟩,
 ⟨(some 45),.mov (.tmp 44),none,0⟩,
 ⟨(some 46),.load (some 9) (.tmp 12),some (45,false),0⟩,
 ⟨(some 47),.call 26 true [(.tmp 46)],some (45,false),0⟩,
 ⟨(some 48),.not (.tmp 47),some (45,false),0⟩,
 ⟨(some 49),.pick (.tmp 45) (.cst (.c (.bool true))) (.tmp 48),none,0⟩])
 (.cond (.tmp 49)
 (.seq (.region 0 [] [
 ⟨(some 50),.call 13 true [],none,0⟩,
 ⟨(some 10),.mov (.tmp 50),none,0⟩])
 .ret)
 .skip))
 (.seq (.region 1 [(0,1),(0,2),(0,3),(1,3),(2,3),(0,4),(1,4),(2,4),(0,5),(0,7),(1,7),(2,7),(3,7),(4,7),(5,7),(6,7)] [
 ⟨(some 51),.load (some 9) (.tmp 12),none,0⟩,
 ⟨(some 52),.mov (.tmp 1),none,0⟩,
 ⟨(some 53),.conv .i64 (.tmp 52),none,0⟩,
 ⟨(some 54),.load (some 9) (.tmp 12),none,0⟩,
 ⟨(some 55),.call 28 true [(.tmp 54)],none,0⟩,
 ⟨(some 56),.bin .rem (.tmp 53) (.tmp 55),none,0⟩,
 ⟨(some 57),.call 27 true [(.tmp 51),(.tmp 56)],none,0⟩,
 ⟨(some 13),.alloc [.nils,.nils],none,0⟩,
 ⟨none,.store (some 2) (.tmp 13) (.tmp 57),none,1⟩])
 (.seq (.region 1 [(0,3),(1,3),(2,3),(0,4),(1,4),(2,4),(0,7),(1,7),(3,7),(4,7),(6,7)] [
 ⟨(some 58),.faddr 0 (.tmp 13),none,0⟩,
 ⟨(some 59),.load none (.tmp 58),none,0⟩,
 ⟨(some 60),.call 17 false [(.tmp 59)],none,0⟩,
 ⟨(some 61),.faddr 1 (.tmp 13),none,0⟩,
 ⟨(some 62),.load none (.tmp 61),none,0⟩,
 ⟨(some 63),.call 17 false [(.tmp 62)],none,0⟩,
 ⟨(some 64),.build [.nils,.nils] [(0,1,(.tmp 60)),(1,1,(.tmp 63))],none,0⟩,
 ⟨(some 14),.alloc [.nils,.nils],none,0⟩,
 ⟨none,.store (some 2) (.tmp 14) (.tmp 64),none,1⟩])
 (.seq (.region 0 [(0,2),(1,2),(0,3),(1,3),(2,3),(0,4),(1,4),(2,4),(0,5),(1,5),(2,5),(3,5),(4,5),(0,6),(1,6),(2,6),(0,7),(1,7),(2,7),(0,8),(1,8),(2,8),(0,9),(1,9),(2,9),(3,9),(4,9),(5,9),(6,9),(7,9),(8,9),(0,10),(1,10),(2,10),(3,10),(4,10),(5,10),(6,10),(7,10),(8,10),(0,11),(1,11),(2,11),(3,11),(4,11),(5,11),(6,11),(7,11),(8,11),(9,11),(10,11),(0,12),(1,12),(2,12),(3,12),(4,12),(5,12),(6,12),(7,12),(8,12),(0,13),(1,13),(2,13),(3,13),(4,13),(5,13),(6,13),(7,13),(8,13),(0,14),(1,14),(2,14),(3,14),(4,14),(5,14),(6,14),(7,14),(8,14),(9,14),(10,14),(11,14),(12,14),(13,14),(0,15),(1,15),(2,15),(3,15),(4,15),(5,15),(6,15),(7,15),(8,15),(9,15),(10,15),(11,15),(12,15),(13,15),(0,16),(1,16),(2,16),(3,16),(4,16),(5,16),(6,16),(7,16),(8,16),(9,16),(10,16),(11,16),(12,16),(13,16),(0,17),(1,17),(2,17),(3,17),(4,17),(5,17),(6,17),(7,17),(8,17),(0,18),(1,18),(2,18)] [
 ⟨(some 65),.faddr 0 (.tmp 14),none,0⟩,
 ⟨(some 66),.load none (.tmp 65),none,0⟩,
 ⟨(some 67),.mov (.tmp 11),none,0⟩,
 ⟨(some 68),.faddr 1 (.tmp 12),none,0⟩,
 ⟨(some 69),.load none (.tmp 68),none,0⟩,
 ⟨(some 70),.mov (.tmp 11),none,0⟩,
 ⟨(some 71),.iaddr 2 (.tmp 69) (.tmp 70),none,0⟩,
 ⟨(some 72),.faddr 1 (.tmp 71),none,0⟩,
 ⟨(some 73),.load none (.tmp 72),none,0⟩,
 ⟨(some 74),.faddr 0 (.tmp 13),none,0⟩,
 ⟨(some 75),.load none (.tmp 74),none,0⟩,
 ⟨(some 76),.mov (.tmp 11),none,0⟩,
 ⟨(some 77),.iaddr 1 (.tmp 75) (.tmp 76),none,0⟩,
 ⟨(some 78),.load none (.tmp 77),none,0⟩,
 ⟨(some 79),.mov (.tmp 4),none,0⟩,
 ⟨(some 80),.conv .i64 (.tmp 79),none,0⟩,
 ⟨(some 81),.bin .rem (.tmp 80) (.cst (.c (.int .i64 4))),none,0⟩,
 ⟨(some 82),.bin .add (.tmp 78) (.tmp 81),none,0⟩,
 ⟨(some 83),.mm false (.tmp 73) (.tmp 82),none,0⟩,
 ⟨(some 84),.iaddr 1 (.tmp 66) (.tmp 67),none,0⟩,
 ⟨none,.store none (.tmp 84) (.tmp 83),none,0⟩])
 (.seq (.region 0 [] [
 ⟨(some 85),.faddr 1 (.tmp 14),none,0⟩,
 ⟨(some 86),.load none (.tmp 85),none,0⟩,
 ⟨(some 87),.mov (.tmp 11),none,0⟩,
 ⟨(some 88),.iaddr 1 (.tmp 86) (.tmp 87),none,0⟩,
 ⟨none,.store none (.tmp 88) (.cst (.c (.int .i64 0))),none,0⟩])
 (.seq (.region 0 [] [
 ⟨(some 89),.load (some 9) (.tmp 5),none,0⟩,
 ⟨(some 90),.mov (.tmp 2),none,0⟩,
 ⟨(some 91),.call 29 true [(.tmp 89),(.tmp 90)],none,0⟩,
 ⟨(some 15),.mov (.tmp 91),none,0⟩])
 (.seq (.region 0 [(0,2),(1,2),(0,4),(1,4),(2,4),(3,4),(8,9),(9,10)] [
 ⟨(some 93),.load (some 9) (.tmp 12),none,0⟩,
 ⟨(some 94),.call 15 true [(.tmp 93)],none,0⟩,
 ⟨(some 95),.load (some 2) (.tmp 13),none,0⟩,
 ⟨(some 96),.call 16 true [(.tmp 95)],none,0⟩,
 ⟨(some 97),.mov (.tmp 15),none,0⟩,
 ⟨(some 98),.call 17 false [(.tmp 97)],none,0⟩,
 ⟨(some 99),.call 14 true [(.tmp 94),(.tmp 96),(.tmp 98)],none,0⟩,
 ⟨(some 92),.mov (.tmp 99),none,0⟩,
 ⟨(some 100),.extract 0 (.tmp 92),none,0⟩,
 ⟨(some 101),.extract 1 (.tmp 92),none,0⟩,
 ⟨(some 16),.mov (.tmp 100),none,0⟩,
 ⟨(some 17),.mov (.tmp 101),none,0⟩])
 (.seq (.region 0 [(0,2),(1,2),(0,4),(1,4),(2,4),(3,4),(8,9),(9,10)] [
 ⟨(some 103),.load (some 9) (.tmp 12),none,0⟩,
 ⟨(some 104),.call 15 true [(.tmp 103)],none,0⟩,
 ⟨(some 105),.load (some 2) (.tmp 14),none,0⟩,
 ⟨(some 106),.call 16 true [(.tmp 105)],none,0⟩,
 ⟨(some 107),.mov (.tmp 15),none,0⟩,
 ⟨(some 108),.call 17 false [(.tmp 107)],none,0⟩,
 ⟨(some 109),.call 14 true [(.tmp 104),(.tmp 106),(.tmp 108)],none,0⟩,
 ⟨(some 102),.mov (.tmp 109),none,0⟩,
 ⟨(some 110),.extract 0 (.tmp 102),none,0⟩,
 ⟨(some 111),.extract 1 (.tmp 102),none,0⟩,
 ⟨(some 18),.mov (.tmp 110),none,0⟩,
 ⟨(some 19),.mov (.tmp 111),none,0⟩])
 (.seq (.seq (.region 0 [] [
 ⟨(some 112),.mov (.tmp 17),none,0⟩,
 ⟨(some 113),.bin .neq (.tmp 112) (.cst (.c (.int .i64 0))),none,0⟩,
 ⟨(some 114),.mov (.tmp 113),none,0⟩,
 ⟨(some 115),.mov (.tmp 19),some (114,false),0⟩,
 ⟨(some 116),.bin .neq (.tmp 115) (.cst (.c (.int .i64 0))),some (114,false),0⟩,
 ⟨(some 117),.pick (.tmp 114) (.cst (.c (.bool true))) (.tmp 116),none,0⟩,
 ⟨(some 118),.mov (.tmp 117),none,0⟩,
 ⟨(some 119),.mov (.tmp 16),some (118,false),0⟩,
 ⟨(some 120),.len (.tmp 119),some (118,false),0⟩,
 ⟨(some 121),.mov (.tmp 15),some (118,false),0⟩,
 ⟨(some 122),.len (.tmp 121),some (118,false),0⟩,
 ⟨(some 123),.bin .neq (.tmp 120) (.tmp 122),some (118,false),0⟩,
 ⟨(some 124),.pick (.tmp 118) (.cst (.c (.bool true))) (.tmp 123),none,0⟩,
 ⟨(some 125),.mov (.tmp 124),none,0⟩,
 ⟨(some 126),.mov (.tmp 18),some (125,false),0⟩,
 ⟨(some 127),.len (.tmp 126),some (125,false),0⟩,
 ⟨(some 128),.mov (.tmp 15),some (125,false),0⟩,
 ⟨(some 129),.len (.tmp 128),some (125,false),0⟩,
 ⟨(some 130),.bin .neq (.tmp 127) (.tmp 129),some (125,false),0⟩,
 ⟨(some 131),.pick (.tmp 125) (.cst (.c (.bool true))) (.tmp 130),none,0⟩])
 (.cond (.tmp 131)
 (.seq (.region 0 [] [
 ⟨(some 10),.mov (.cst (.c (.bool false))),none,0⟩])
 .ret)
 .skip))
 (.seq (.seq (.region 0 [] [
 ⟨(some 20),.mov (.cst (.c (.int .i64 0))),none,0⟩])
 (.block 0 (.loop ⟨[10,132,133,134,135,136,137,138,139,140,141,142,143,144,145,146,147,148,149,150,151,152,153,154,155,156,157,158,159,160,161,162,163,164,165,166,167,168,169,170,171,172,173,174],false,[]⟩
 (.seq (.seq (.region 0 [] [
 ⟨(some 132),.mov (.tmp 20),none,0⟩,
 ⟨(some 133),.mov (.tmp 15),none,0⟩,
 ⟨(some 134),.len (.tmp 133),none,0⟩,
 ⟨(some 135),.bin .lss (.tmp 132) (.tmp 134),none,0⟩])
 (.cond (.tmp 135)
 .skip
 (.exit 0)))
 (.seq (.block 1 (.seq (.region 0 [(0,1),(0,5),(1,5),(2,5),(3,5),(4,5),(0,6),(1,6),(2,6),(3,6),(4,6),(5,6),(0,7),(1,7),(2,7),(3,7),(4,7),(0,8),(1,8),(2,8),(3,8),(4,8),(0,9),(1,9),(2,9),(3,9),(4,9),(12,13),(12,17),(13,17),(14,17),(15,17),(16,17),(12,18),(13,18),(14,18),(15,18),(16,18),(17,18),(12,19),(13,19),(14,19),(15,19),(16,19),(12,20),(13,20),(14,20),(15,20),(16,20),(12,21),(13,21),(14,21),(15,21),(16,21),(25,26),(25,30),(26,30),(27,30),(28,30),(29,30),(25,31),(26,31),(27,31),(28,31),(29,31),(30,31),(25,32),(26,32),(27,32),(28,32),(29,32),(25,33),(26,33),(27,33),(28,33),(29,33),(25,34),(26,34),(27,34),(28,34),(29,34)] [
 ⟨(some 138),.mov (.tmp 18),none,0⟩,
 ⟨(some 139),.mov (.tmp 20),none,0⟩,
 ⟨(some 140),.iaddr 3 (.tmp 138) (.tmp 139),none,0⟩,
 ⟨(some 141),.faddr 0 (.tmp 140),none,0⟩,
 ⟨(some 142),.load none (.tmp 141),none,0⟩,
 ⟨(some 143),.mov (.tmp 16),none,0⟩,
 ⟨(some 144),.mov (.tmp 20),none,0⟩,
 ⟨(some 145),.iaddr 3 (.tmp 143) (.tmp 144),none,0⟩,
 ⟨(some 146),.faddr 0 (.tmp 145),none,0⟩,
 ⟨(some 147),.load none (.tmp 146),none,0⟩,
 ⟨(some 148),.bin .lss (.tmp 142) (.tmp 147),none,0⟩,
 ⟨(some 149),.mov (.tmp 148),none,0⟩,
 ⟨(some 150),.mov (.tmp 18),some (149,false),0⟩,
 ⟨(some 151),.mov (.tmp 20),some (149,false),0⟩,
 ⟨(some 152),.iaddr 3 (.tmp 150) (.tmp 151),some (149,false),0⟩,
 ⟨(some 153),.faddr 2 (.tmp 152),some (149,false),0⟩,
 ⟨(some 154),.load none (.tmp 153),some (149,false),0⟩,
 ⟨(some 155),.mov (.tmp 16),some (149,false),0⟩,
 ⟨(some 156),.mov (.tmp 20),some (149,false),0⟩,
 ⟨(some 157),.iaddr 3 (.tmp 155) (.tmp 156),some (149,false),0⟩,
 ⟨(some 158),.faddr 2 (.tmp 157),some (149,false),0⟩,
 ⟨(some 159),.load none (.tmp 158),some (149,false),0⟩,
 ⟨(some 160),.bin .lss (.tmp 154) (.tmp 159),some (149,false),0⟩,
 ⟨(some 161),.pick (.tmp 149) (.cst (.c (.bool true))) (.tmp 160),none,0⟩,
 ⟨(some 162),.mov (.tmp 161),none,0⟩,
 ⟨(some 163),.mov (.tmp 18),some (162,false),0⟩,
 ⟨(some 164),.mov (.tmp 20),some (162,false),0⟩,
 ⟨(some 165),.iaddr 3 (.tmp 163) (.tmp 164),some (162,false),0⟩,
 ⟨(some 166),.faddr 1 (.tmp 165),some (162,false),0⟩,
 ⟨(some 167),.load none (.tmp 166),some (162,false),0⟩,
 ⟨(some 168),.mov (.tmp 16),some (162,false),0⟩,
 ⟨(some 169),.mov (.tmp 20),some (162,false),0⟩,
 ⟨(some 170),.iaddr 3 (.tmp 168) (.tmp 169),some (162,false),0⟩,
 ⟨(some 171),.faddr 1 (.tmp 170),some (162,false),0⟩,
 ⟨(some 172),.load none (.tmp 171),some (162,false),0⟩,
 ⟨(some 173),.bin .neq (.tmp 167) (.tmp 172),some (162,false),0⟩,
 ⟨(some 174),.pick (.tmp 162) (.cst (.c (.bool true))) (.tmp 173),none,0⟩])
 (.cond (.tmp 174)
 (.seq (.region 0 [] [
 ⟨(some 10),.mov (.cst (.c (.bool false))),none,0⟩])
 .ret)
 .skip)))
 (.region 0 [] [
 ⟨(some 136),.mov (.tmp 20),none,0⟩,
 ⟨(some 137),.bin .add (.tmp 136) (.cst (.c (.int .i64 1))),none,0⟩,
 ⟨(some 20),.mov (.tmp 137),none,0⟩]))))))
 (.seq (.region 0 [] [
 ⟨(some 175),.call 13 true [],none,0⟩,
 ⟨(some 10),.mov (.tmp 175),none,0⟩])
 .ret))))))))))))))))⟩
def f12 : AFunc:=⟨41,[.tmp 2],false,
 (.seq (.region 1 [] [
 ⟨(some 1),.box (.tmp 0),none,0⟩,
 ⟨(some 2),.mov (.cst (.c (.bool false))),none,1⟩])
 (.seq (.region 0 [] [
 ⟨(some 3),.faddr 1 (.tmp 1),none,0⟩,
 ⟨(some 4),.load none (.tmp 3),none,0⟩,
 ⟨(some 5),.len (.tmp 4),none,0⟩,
 ⟨(some 6),.bin .leq (.tmp 5) (.cst (.c (.int .i64 12))),none,0⟩,
 ⟨(some 7),.mov (.tmp 6),none,0⟩,
 ⟨(some 8),.faddr 2 (.tmp 1),some (7,true),0⟩,
 ⟨(some 9),.load none (.tmp 8),some (7,true),0⟩,
 ⟨(some 10),.len (.tmp 9),some (7,true),0⟩,
 ⟨(some 11),.bin .leq (.tmp 10) (.cst (.c (.int .i64 12))),some (7,true),0⟩,
 ⟨(some 12),.pick (.tmp 7) (.tmp 11) (.cst (.c (.bool false))),none,0⟩,
 ⟨(some 13),.mov (.tmp 12),none,0⟩,
 ⟨(some 14),.faddr 3 (.tmp 1),some (13,true),0⟩,
 ⟨(some 15),.load none (.tmp 14),some (13,true),0⟩,
 ⟨(some 16),.len (.tmp 15),some (13,true),0⟩,
 ⟨(some 17),.bin .leq (.tmp 16) (.cst (.c (.int .i64 5))),some (13,true),0⟩,
 ⟨(some 18),.pick (.tmp 13) (.tmp 17) (.cst (.c (.bool false))),none,0⟩,
 ⟨(some 19),.mov (.tmp 18),none,0⟩,
 ⟨(some 20),.faddr 4 (.tmp 1),some (19,true),0⟩,
 ⟨(some 21),.load none (.tmp 20),some (19,true),0⟩,
 ⟨(some 22),.len (.tmp 21),some (19,true),0⟩,
 ⟨(some 23),.bin .leq (.tmp 22) (.cst (.c (.int .i64 12))),some (19,true),0⟩,
 ⟨(some 24),.pick (.tmp 19) (.tmp 23) (.cst (.c (.bool false))),none,0⟩,
 ⟨(some 25),.mov (.tmp 24),none,0⟩,
 ⟨(some 26),.faddr 8 (.tmp 1),some (25,true),0⟩,
 ⟨(some 27),.load none (.tmp 26),some (25,true),0⟩,
 ⟨(some 28),.len (.tmp 27),some (25,true),0⟩,
 ⟨(some 29),.bin .leq (.tmp 28) (.cst (.c (.int .i64 7))),some (25,true),0⟩,
 ⟨(some 30),.pick (.tmp 25) (.tmp 29) (.cst (.c (.bool false))),none,0⟩,
 ⟨(some 31),.mov (.tmp 30),none,0⟩,
 ⟨(some 32),.load (some 9) (.tmp 1),some (31,true),0⟩,
 ⟨(some 33),.call 46 true [(.tmp 32)],some (31,true),0⟩,
 ⟨(some 34),.bin .neq (.tmp 33) (.cst (.c (.int .i64 0))),some (31,true),0⟩,
 ⟨(some 35),.mov (.tmp 34),some (31,true),0⟩,
 ⟨(some 36),.load (some 9) (.tmp 1),some (35,false),0⟩,
 ⟨(some 37),.call 28 true [(.tmp 36)],some (35,false),0⟩,
 ⟨(some 38),.bin .leq (.tmp 37) (.cst (.c (.int .i64 100))),some (35,false),0⟩,
 ⟨(some 39),.pick (.tmp 35) (.cst (.c (.bool true))) (.tmp 38),some (31,true),0⟩,
 ⟨(some 40),.pick (.tmp 31) (.tmp 39) (.cst (.c (.bool false))),none,0⟩,
 ⟨(some 2),.mov (.tmp 40),none,0⟩])
 .ret))⟩
def f13 : AFunc:=⟨160,[.tmp 0],false,
 (.seq (.region 0 [] [
 ⟨(some 0),.mov (.cst (.c (.bool false))),none,0⟩])
 (.seq (.region 1 [] [
 ⟨(some 19),.call 41 true [(.cst (.c (.int .i64 0)))],none,0⟩,
 ⟨(some 20),.call 40 true [],none,0⟩,
 ⟨(some 21),.bslice 1 2 [(.int .i64 0)] [(0,(.cst (.c (.int .i64 1)))),(1,(.cst (.c (.int .i64 3))))],none,0⟩,
 ⟨(some 22),.call 14 true [(.tmp 19),(.tmp 20),(.tmp 21)],none,1⟩,
 ⟨(some 18),.mov (.tmp 22),none,1⟩,
 ⟨(some 23),.extract 0 (.tmp 18),none,1⟩,
 ⟨(some 24),.extract 1 (.tmp 18),none,1⟩,
 ⟨(some 1),.mov (.tmp 23),none,1⟩,
 ⟨(some 2),.mov (.tmp 24),none,1⟩])
 (.seq (.region 1 [] [
 ⟨(some 26),.call 41 true [(.cst (.c (.int .i64 0)))],none,0⟩,
 ⟨(some 27),.bslice 1 2 [(.int .i64 0)] [(0,(.cst (.c (.int .i64 2)))),(1,(.cst (.c (.int .i64 4))))],none,0⟩,
 ⟨(some 28),.call 45 true [(.tmp 26),(.tmp 27)],none,1⟩,
 ⟨(some 25),.mov (.tmp 28),none,1⟩,
 ⟨(some 29),.extract 0 (.tmp 25),none,1⟩,
 ⟨(some 30),.extract 1 (.tmp 25),none,1⟩,
 ⟨(some 3),.mov (.tmp 29),none,1⟩,
 ⟨(some 4),.mov (.tmp 30),none,1⟩])
 (.seq (.region 2 [] [
 ⟨(some 32),.call 41 true [(.cst (.c (.int .i64 0)))],none,0⟩,
 ⟨(some 33),.bslice 1 2 [(.int .i64 0)] [(0,(.cst (.c (.int .i64 1)))),(1,(.cst (.c (.int .i64 3))))],none,0⟩,
 ⟨(some 34),.call 31 true [(.tmp 32),(.tmp 33)],none,1⟩,
 ⟨(some 31),.mov (.tmp 34),none,1⟩,
 ⟨(some 35),.extract 0 (.tmp 31),none,1⟩,
 ⟨(some 36),.extract 1 (.tmp 31),none,1⟩,
 ⟨(some 5),.alloc [(.int .i64 0),(.int .i64 0)],none,1⟩,
 ⟨none,.store (some 2) (.tmp 5) (.tmp 35),none,2⟩,
 ⟨(some 6),.mov (.tmp 36),none,2⟩])
 (.seq (.region 0 [] [
 ⟨(some 38),.call 41 true [(.cst (.c (.int .i64 0)))],none,0⟩,
 ⟨(some 39),.call 32 true [(.tmp 38)],none,0⟩,
 ⟨(some 37),.mov (.tmp 39),none,0⟩,
 ⟨(some 40),.extract 0 (.tmp 37),none,0⟩,
 ⟨(some 41),.extract 1 (.tmp 37),none,0⟩,
 ⟨(some 42),.extract 2 (.tmp 37),none,0⟩,
 ⟨(some 7),.mov (.tmp 40),none,0⟩,
 ⟨(some 8),.mov (.tmp 41),none,0⟩,
 ⟨(some 9),.mov (.tmp 42),none,0⟩])
 (.seq (.region 1 [] [
 ⟨(some 44),.call 41 true [(.cst (.c (.int .i64 0)))],none,0⟩,
 ⟨(some 45),.call 42 true [(.tmp 44),(.cst (.c (.int .i64 4)))],none,0⟩,
 ⟨(some 43),.mov (.tmp 45),none,0⟩,
 ⟨(some 46),.extract 0 (.tmp 43),none,0⟩,
 ⟨(some 47),.extract 1 (.tmp 43),none,0⟩,
 ⟨(some 10),.alloc [(.int .i64 0),(.int .i64 0)],none,0⟩,
 ⟨none,.store (some 2) (.tmp 10) (.tmp 46),none,1⟩,
 ⟨(some 11),.mov (.tmp 47),none,1⟩])
 (.seq (.region 2 [] [
 ⟨(some 49),.call 41 true [(.cst (.c (.int .i64 0)))],none,0⟩,
 ⟨(some 50),.bslice 1 2 [(.int .i64 0)] [(0,(.cst (.c (.int .i64 1)))),(1,(.cst (.c (.int .i64 3))))],none,0⟩,
 ⟨(some 51),.call 47 true [(.tmp 49),(.tmp 50)],none,1⟩,
 ⟨(some 48),.mov (.tmp 51),none,1⟩,
 ⟨(some 52),.extract 0 (.tmp 48),none,1⟩,
 ⟨(some 53),.extract 1 (.tmp 48),none,1⟩,
 ⟨(some 12),.alloc [.nils,.nils],none,1⟩,
 ⟨none,.store (some 2) (.tmp 12) (.tmp 52),none,2⟩,
 ⟨(some 13),.mov (.tmp 53),none,2⟩])
 (.seq (.region 0 [] [
 ⟨(some 55),.call 41 true [(.cst (.c (.int .i64 2)))],none,0⟩,
 ⟨(some 56),.call 34 true [(.tmp 55)],none,0⟩,
 ⟨(some 54),.mov (.tmp 56),none,0⟩,
 ⟨(some 57),.extract 0 (.tmp 54),none,0⟩,
 ⟨(some 58),.extract 1 (.tmp 54),none,0⟩,
 ⟨(some 14),.mov (.tmp 57),none,0⟩,
 ⟨(some 15),.mov (.tmp 58),none,0⟩])
 (.seq (.region 0 [] [
 ⟨(some 60),.call 41 true [(.cst (.c (.int .i64 2)))],none,0⟩,
 ⟨(some 61),.call 30 true [(.tmp 60)],none,0⟩,
 ⟨(some 59),.mov (.tmp 61),none,0⟩,
 ⟨(some 62),.extract 0 (.tmp 59),none,0⟩,
 ⟨(some 63),.extract 1 (.tmp 59),none,0⟩,
 ⟨(some 16),.mov (.tmp 62),none,0⟩,
 ⟨(some 17),.mov (.tmp 63),none,0⟩])
 (.seq (.region 2 [(8,11),(9,11),(10,11),(15,18),(16,18),(17,18),(31,34),(32,34),(33,34),(31,35),(32,35),(33,35),(31,36),(32,36),(33,36),(44,45),(53,54),(66,67),(75,76),(92,93)] [
 ⟨(some 64),.mov (.tmp 2),none,0⟩,
 ⟨(some 65),.bin .eql (.tmp 64) (.cst (.c (.int .i64 0))),none,0⟩,
 ⟨(some 66),.mov (.tmp 65),none,0⟩,
 ⟨(some 67),.mov (.tmp 1),some (66,true),0⟩,
 ⟨(some 68),.len (.tmp 67),some (66,true),0⟩,
 ⟨(some 69),.bin .eql (.tmp 68) (.cst (.c (.int .i64 2))),some (66,true),0⟩,
 ⟨(some 70),.pick (.tmp 66) (.tmp 69) (.cst (.c (.bool false))),none,0⟩,
 ⟨(some 71),.mov (.tmp 70),none,0⟩,
 ⟨(some 72),.mov (.tmp 1),some (71,true),0⟩,
 ⟨(some 73),.iaddr 3 (.tmp 72) (.cst (.c (.int .i64 0))),some (71,true),0⟩,
 ⟨(some 74),.load (some 3) (.tmp 73),some (71,true),0⟩,
 ⟨(some 75),.build [(.int .i64 0),(.int .i64 0),(.int .i64 0)] [(0,1,(.cst (.c (.int .i64 18)))),(1,1,(.cst (.c (.int .i64 20)))),(2,1,(.cst (.c (.int .i64 360))))],some (71,true),0⟩,
 ⟨(some 76),.eqA false [(some .i64),(some .i64),(some .i64)] (.tmp 74) (.tmp 75),some (71,true),0⟩,
 ⟨(some 77),.pick (.tmp 71) (.tmp 76) (.cst (.c (.bool false))),none,0⟩,
 ⟨(some 78),.mov (.tmp 77),none,0⟩,
 ⟨(some 79),.mov (.tmp 1),some (78,true),0⟩,
 ⟨(some 80),.iaddr 3 (.tmp 79) (.cst (.c (.int .i64 1))),some (78,true),0⟩,
 ⟨(some 81),.load (some 3) (.tmp 80),some (78,true),0⟩,
 ⟨(some 82),.build [(.int .i64 0),(.int .i64 0),(.int .i64 0)] [(0,1,(.cst (.c (.int .i64 5)))),(1,1,(.cst (.c (.int .i64 15)))),(2,1,(.cst (.c (.int .i64 75))))],some (78,true),0⟩,
 ⟨(some 83),.eqA false [(some .i64),(some .i64),(some .i64)] (.tmp 81) (.tmp 82),some (78,true),0⟩,
 ⟨(some 84),.pick (.tmp 78) (.tmp 83) (.cst (.c (.bool false))),none,0⟩,
 ⟨(some 85),.mov (.tmp 84),none,0⟩,
 ⟨(some 86),.mov (.tmp 4),some (85,true),0⟩,
 ⟨(some 87),.bin .eql (.tmp 86) (.cst (.c (.int .i64 0))),some (85,true),0⟩,
 ⟨(some 88),.pick (.tmp 85) (.tmp 87) (.cst (.c (.bool false))),none,0⟩,
 ⟨(some 89),.mov (.tmp 88),none,0⟩,
 ⟨(some 90),.mov (.tmp 3),some (89,true),0⟩,
 ⟨(some 91),.len (.tmp 90),some (89,true),0⟩,
 ⟨(some 92),.bin .eql (.tmp 91) (.cst (.c (.int .i64 2))),some (89,true),0⟩,
 ⟨(some 93),.pick (.tmp 89) (.tmp 92) (.cst (.c (.bool false))),none,0⟩,
 ⟨(some 94),.mov (.tmp 93),none,0⟩,
 ⟨(some 95),.mov (.tmp 3),some (94,true),0⟩,
 ⟨(some 96),.iaddr 5 (.tmp 95) (.cst (.c (.int .i64 0))),some (94,true),0⟩,
 ⟨(some 97),.load (some 5) (.tmp 96),some (94,true),0⟩,
 ⟨(some 98),.call 43 true [(.cst (.c (.int .i64 24))),(.cst (.c (.int .i64 26)))],some (94,true),0⟩,
 ⟨(some 99),.call 43 true [(.cst (.c (.int .i64 384))),(.cst (.c (.int .i64 416)))],some (94,true),0⟩,
 ⟨(some 100),.build [(.int .i64 0),(.int .i64 0),(.int .i64 0),(.int .i64 0),(.int .i64 0)] [(0,2,(.tmp 98)),(2,1,(.cst (.c (.int .i64 16)))),(3,2,(.tmp 99))],some (94,true),0⟩,
 ⟨(some 101),.eqA false [(some .i64),(some .i64),(some .i64),(some .i64),(some .i64)] (.tmp 97) (.tmp 100),some (94,true),0⟩,
 ⟨(some 102),.pick (.tmp 94) (.tmp 101) (.cst (.c (.bool false))),none,0⟩,
 ⟨(some 103),.mov (.tmp 102),none,0⟩,
 ⟨(some 104),.mov (.tmp 6),some (103,true),0⟩,
 ⟨(some 105),.bin .eql (.tmp 104) (.cst (.c (.int .i64 0))),some (103,true),0⟩,
 ⟨(some 106),.pick (.tmp 103) (.tmp 105) (.cst (.c (.bool false))),none,0⟩,
 ⟨(some 107),.mov (.tmp 106),none,0⟩,
 ⟨(some 108),.load (some 2) (.tmp 5),some (107,true),0⟩,
 ⟨(some 109),.call 43 true [(.cst (.c (.int .i64 255))),(.cst (.c (.int .i64 490)))],some (107,true),0⟩,
 ⟨(some 110),.eqA false [(some .i64),(some .i64)] (.tmp 108) (.tmp 109),some (107,true),0⟩,
 ⟨(some 111),.pick (.tmp 107) (.tmp 110) (.cst (.c (.bool false))),none,0⟩,
 ⟨(some 112),.mov (.tmp 111),none,0⟩,
 ⟨(some 113),.mov (.tmp 9),some (112,true),0⟩,
 ⟨(some 114),.bin .eql (.tmp 113) (.cst (.c (.int .i64 0))),some (112,true),0⟩,
 ⟨(some 115),.pick (.tmp 112) (.tmp 114) (.cst (.c (.bool false))),none,0⟩,
 ⟨(some 116),.mov (.tmp 115),none,0⟩,
 ⟨(some 117),.mov (.tmp 7),some (116,true),0⟩,
 ⟨(some 118),.bslice 1 2 [(.int .i64 0)] [(0,(.cst (.c (.int .i64 2)))),(1,(.cst (.c (.int .i64 4))))],some (116,true),0⟩,
 ⟨(some 119),.call 48 true [(.tmp 117),(.tmp 118)],some (116,true),1⟩,
 ⟨(some 120),.pick (.tmp 116) (.tmp 119) (.cst (.c (.bool false))),none,1⟩,
 ⟨(some 121),.mov (.tmp 120),none,1⟩,
 ⟨(some 122),.mov (.tmp 8),some (121,true),1⟩,
 ⟨(some 123),.bin .eql (.tmp 122) (.cst (.c (.int .i64 474))),some (121,true),1⟩,
 ⟨(some 124),.pick (.tmp 121) (.tmp 123) (.cst (.c (.bool false))),none,1⟩,
 ⟨(some 125),.mov (.tmp 124),none,1⟩,
 ⟨(some 126),.mov (.tmp 11),some (125,true),1⟩,
 ⟨(some 127),.bin .eql (.tmp 126) (.cst (.c (.int .i64 0))),some (125,true),1⟩,
 ⟨(some 128),.pick (.tmp 125) (.tmp 127) (.cst (.c (.bool false))),none,1⟩,
 ⟨(some 129),.mov (.tmp 128),none,1⟩,
 ⟨(some 130),.load (some 2) (.tmp 10),some (129,true),1⟩,
 ⟨(some 131),.call 43 true [(.cst (.c (.int .i64 30))),(.cst (.c (.int .i64 33)))],some (129,true),1⟩,
 ⟨(some 132),.eqA false [(some .i64),(some .i64)] (.tmp 130) (.tmp 131),some (129,true),1⟩,
 ⟨(some 133),.pick (.tmp 129) (.tmp 132) (.cst (.c (.bool false))),none,1⟩,
 ⟨(some 134),.mov (.tmp 133),none,1⟩,
 ⟨(some 135),.mov (.tmp 13),some (134,true),1⟩,
 ⟨(some 136),.bin .eql (.tmp 135) (.cst (.c (.int .i64 0))),some (134,true),1⟩,
 ⟨(some 137),.pick (.tmp 134) (.tmp 136) (.cst (.c (.bool false))),none,1⟩,
 ⟨(some 138),.mov (.tmp 137),none,1⟩,
 ⟨(some 139),.call 41 true [(.cst (.c (.int .i64 0)))],some (138,true),1⟩,
 ⟨(some 140),.load (some 2) (.tmp 12),some (138,true),1⟩,
 ⟨(some 141),.call 18 true [(.tmp 139),(.tmp 140)],some (138,true),1⟩,
 ⟨(some 142),.pick (.tmp 138) (.tmp 141) (.cst (.c (.bool false))),none,1⟩,
 ⟨(some 143),.mov (.tmp 142),none,1⟩,
 ⟨(some 144),.mov (.tmp 15),some (143,true),1⟩,
 ⟨(some 145),.bin .eql (.tmp 144) (.cst (.c (.int .i64 0))),some (143,true),1⟩,
 ⟨(some 146),.pick (.tmp 143) (.tmp 145) (.cst (.c (.bool false))),none,1⟩,
 ⟨(some 147),.mov (.tmp 146),none,1⟩,
 ⟨(some 148),.mov (.tmp 14),some (147,true),1⟩,
 ⟨(some 149),.bin .eql (.tmp 148) (.cst (.c (.int .i64 1))),some (147,true),1⟩,
 ⟨(some 150),.pick (.tmp 147) (.tmp 149) (.cst (.c (.bool false))),none,1⟩,
 ⟨(some 151),.mov (.tmp 150),none,1⟩,
 ⟨(some 152),.mov (.tmp 17),some (151,true),1⟩,
 ⟨(some 153),.bin .eql (.tmp 152) (.cst (.c (.int .i64 0))),some (151,true),1⟩,
 ⟨(some 154),.pick (.tmp 151) (.tmp 153) (.cst (.c (.bool false))),none,1⟩,
 ⟨(some 155),.mov (.tmp 154),none,1⟩,
 ⟨(some 156),.mov (.tmp 16),some (155,true),1⟩,
 ⟨(some 157),.bslice 1 1 [(.int .i64 0)] [(0,(.cst (.c (.int .i64 0))))],some (155,true),1⟩,
 ⟨(some 158),.call 48 true [(.tmp 156),(.tmp 157)],some (155,true),2⟩,
 ⟨(some 159),.pick (.tmp 155) (.tmp 158) (.cst (.c (.bool false))),none,2⟩,
 ⟨(some 0),.mov (.tmp 159),none,2⟩])
 .ret))))))))))⟩
def f14 : AFunc:=⟨29,[.tmp 6,.tmp 7],false,
 (.seq (.region 2 [] [
 ⟨(some 3),.box (.tmp 0),none,0⟩,
 ⟨(some 4),.box (.tmp 1),none,1⟩,
 ⟨(some 6),.mov (.cst (.c .nils)),none,2⟩,
 ⟨(some 7),.mov (.cst (.c (.int .i64 0))),none,2⟩])
 (.seq (.seq (.region 0 [] [
 ⟨(some 9),.load (some 9) (.tmp 3),none,0⟩,
 ⟨(some 10),.call 20 true [(.tmp 9)],none,0⟩,
 ⟨(some 8),.mov (.tmp 10),none,0⟩])
 (.seq (.region 0 [] [
 ⟨(some 11),.mov (.tmp 8),none,0⟩,
 ⟨(some 12),.bin .neq (.tmp 11) (.cst (.c (.int .i64 0))),none,0⟩])
 (.cond (.tmp 12)
 (.seq (.region 0 [] [
 ⟨(some 13),.mov (.tmp 8),none,0⟩,
 ⟨(some 6),.mov (.cst (.c .nils)),none,0⟩,
 ⟨(some 7),.mov (.tmp 13),none,0⟩])
 .ret)
 .skip)))
 (.seq (.seq (.region 0 [] [
 ⟨(some 14),.load (some 9) (.tmp 3),none,0⟩,
 ⟨(some 15),.load (some 2) (.tmp 4),none,0⟩,
 ⟨(some 16),.call 49 true [(.tmp 14),(.tmp 15)],none,0⟩,
 ⟨(some 17),.not (.tmp 16),none,0⟩,
 ⟨(some 18),.mov (.tmp 17),none,0⟩,
 ⟨(some 19),.load (some 9) (.tmp 3),some (18,false),0⟩,
 ⟨(some 20),.mov (.tmp 2),some (18,false),0⟩,
 ⟨(some 21),.call 50 true [(.tmp 19),(.tmp 20)],some (18,false),0⟩,
 ⟨(some 22),.not (.tmp 21),some (18,false),0⟩,
 ⟨(some 23),.pick (.tmp 18) (.cst (.c (.bool true))) (.tmp 22),none,0⟩])
 (.cond (.tmp 23)
 (.seq (.region 0 [] [
 ⟨(some 6),.mov (.cst (.c .nils)),none,0⟩,
 ⟨(some 7),.mov (.cst (.c (.int .i64 2))),none,0⟩])
 .ret)
 .skip))
 (.seq (.region 0 [(0,2),(1,2),(0,3),(1,3),(2,3)] [
 ⟨(some 24),.load (some 9) (.tmp 3),none,0⟩,
 ⟨(some 25),.call 51 false [(.tmp 24)],none,0⟩,
 ⟨(some 26),.load (some 2) (.tmp 4),none,0⟩,
 ⟨(some 27),.mov (.tmp 2),none,0⟩,
 ⟨(some 28),.call 52 false [(.tmp 25),(.tmp 26),(.tmp 27)],none,0⟩,
 ⟨(some 6),.mov (.tmp 28),none,0⟩,
 ⟨(some 7),.mov (.cst (.c (.int .i64 0))),none,0⟩])
 .ret))))⟩
def f15 : AFunc:=⟨69,[.cell 2 (some 9)],false,
 (.seq (.region 2 [] [
 ⟨(some 1),.box (.tmp 0),none,0⟩,
 ⟨(some 2),.alloc [(.int .i64 0),.nils,.nils,.nils,.nils,(.int .i64 0),(.int .i64 0),(.int .i64 0),.nils],none,1⟩])
 (.seq (.region 1 [(0,2),(1,2),(0,3),(1,3),(0,4),(1,4),(0,5),(1,5),(2,5),(3,5),(4,5),(0,6),(1,6),(2,6),(3,6),(4,6),(0,7),(1,7),(0,8),(1,8),(2,8),(3,8),(4,8),(5,8),(6,8),(7,8),(0,9),(1,9),(2,9),(3,9),(4,9),(5,9),(6,9),(7,9),(0,10),(1,10),(0,11),(1,11),(2,11),(3,11),(4,11),(5,11),(6,11),(7,11),(8,11),(9,11),(10,11),(0,12),(1,12),(2,12),(3,12),(4,12),(5,12),(6,12),(7,12),(8,12),(9,12),(10,12),(0,13),(1,13),(2,13),(3,13),(4,13),(5,13),(6,13),(7,13),(8,13),(9,13),(10,13),(11,13),(12,13),(0,14),(1,14),(2,14),(3,14),(4,14),(5,14),(6,14),(7,14),(8,14),(9,14),(10,14),(11,14),(12,14),(0,15),(1,15),(2,15),(3,15),(4,15),(5,15),(6,15),(7,15),(8,15),(9,15),(10,15),(11,15),(12,15),(13,15),(14,15),(0,16),(1,16),(2,16),(3,16),(4,16),(5,16),(6,16),(7,16),(8,16),(9,16),(10,16),(11,16),(12,16),(13,16),(14,16),(0,18),(1,18),(2,18),(3,18),(4,18),(5,18),(6,18),(7,18),(8,18),(9,18),(10,18),(11,18),(12,18),(13,18),(14,18),(15,18),(16,18),(17,18)] [
 ⟨(some 6),.faddr 0 (.tmp 1),none,0⟩,
 ⟨(some 7),.load none (.tmp 6),none,0⟩,
 ⟨(some 8),.faddr 2 (.tmp 1),none,0⟩,
 ⟨(some 9),.load none (.tmp 8),none,0⟩,
 ⟨(some 10),.call 17 true [(.tmp 9)],none,0⟩,
 ⟨(some 11),.faddr 3 (.tmp 1),none,0⟩,
 ⟨(some 12),.load none (.tmp 11),none,0⟩,
 ⟨(some 13),.call 17 true [(.tmp 12)],none,0⟩,
 ⟨(some 14),.faddr 4 (.tmp 1),none,0⟩,
 ⟨(some 15),.load none (.tmp 14),none,0⟩,
 ⟨(some 16),.call 17 true [(.tmp 15)],none,0⟩,
 ⟨(some 17),.faddr 5 (.tmp 1),none,0⟩,
 ⟨(some 18),.load none (.tmp 17),none,0⟩,
 ⟨(some 19),.faddr 6 (.tmp 1),none,0⟩,
 ⟨(some 20),.load none (.tmp 19),none,0⟩,
 ⟨(some 21),.faddr 7 (.tmp 1),none,0⟩,
 ⟨(some 22),.load none (.tmp 21),none,0⟩,
 ⟨(some 23),.build [(.int .i64 0),.nils,.nils,.nils,.nils,(.int .i64 0),(.int .i64 0),(.int .i64 0),.nils] [(0,1,(.tmp 7)),(2,1,(.tmp 10)),(3,1,(.tmp 13)),(4,1,(.tmp 16)),(5,1,(.tmp 18)),(6,1,(.tmp 20)),(7,1,(.tmp 22))],none,0⟩,
 ⟨(some 3),.alloc [(.int .i64 0),.nils,.nils,.nils,.nils,(.int .i64 0),(.int .i64 0),(.int .i64 0),.nils],none,0⟩,
 ⟨none,.store (some 9) (.tmp 3) (.tmp 23),none,1⟩])
 (.seq (.seq (.region 0 [] [
 ⟨(some 4),.mov (.cst (.c (.int .i64 0))),none,0⟩])
 (.block 0 (.loop ⟨[24,25,26,27,28,29,30,31,32,33,34,35,36,37,38,39,40,41],true,[(3,(some 1),2)]⟩
 (.seq (.seq (.region 0 [] [
 ⟨(some 24),.mov (.tmp 4),none,0⟩,
 ⟨(some 25),.faddr 1 (.tmp 1),none,0⟩,
 ⟨(some 26),.load none (.tmp 25),none,0⟩,
 ⟨(some 27),.len (.tmp 26),none,0⟩,
 ⟨(some 28),.bin .lss (.tmp 24) (.tmp 27),none,0⟩])
 (.cond (.tmp 28)
 .skip
 (.exit 0)))
 (.seq (.block 1 (.region 2 [(0,2),(1,2),(0,3),(1,3),(0,4),(1,4),(2,4),(3,4),(0,5),(1,5),(0,6),(1,6),(0,7),(1,7),(0,8),(1,8)] [
 ⟨(some 31),.faddr 1 (.tmp 3),none,0⟩,
 ⟨(some 32),.load none (.tmp 31),none,0⟩,
 ⟨(some 33),.faddr 1 (.tmp 1),none,0⟩,
 ⟨(some 34),.load none (.tmp 33),none,0⟩,
 ⟨(some 35),.mov (.tmp 4),none,0⟩,
 ⟨(some 36),.iaddr 2 (.tmp 34) (.tmp 35),none,0⟩,
 ⟨(some 37),.load (some 2) (.tmp 36),none,0⟩,
 ⟨(some 38),.call 53 true [(.tmp 37)],none,0⟩,
 ⟨(some 39),.bslice 2 1 [(.int .i64 0),(.int .i64 0)] [(0,(.tmp 38))],none,0⟩,
 ⟨(some 40),.append 2 16 (.tmp 32) (.tmp 39),none,1⟩,
 ⟨(some 41),.faddr 1 (.tmp 3),none,2⟩,
 ⟨none,.store none (.tmp 41) (.tmp 40),none,2⟩]))
 (.region 0 [] [
 ⟨(some 29),.mov (.tmp 4),none,0⟩,
 ⟨(some 30),.bin .add (.tmp 29) (.cst (.c (.int .i64 1))),none,0⟩,
 ⟨(some 4),.mov (.tmp 30),none,0⟩]))))))
 (.seq (.seq (.region 0 [] [
 ⟨(some 5),.mov (.cst (.c (.int .i64 0))),none,0⟩])
 (.block 2 (.loop ⟨[42,43,44,45,46,47,48,49,50,51,52,53,54,55,56,57,58,59,60,61,62,63,64,65,66,67],true,[(3,(some 8),3)]⟩
 (.seq (.seq (.region 0 [] [
 ⟨(some 42),.mov (.tmp 5),none,0⟩,
 ⟨(some 43),.faddr 8 (.tmp 1),none,0⟩,
 ⟨(some 44),.load none (.tmp 43),none,0⟩,
 ⟨(some 45),.len (.tmp 44),none,0⟩,
 ⟨(some 46),.bin .lss (.tmp 42) (.tmp 45),none,0⟩])
 (.cond (.tmp 46)
 .skip
 (.exit 2)))
 (.seq (.block 3 (.region 2 [(0,2),(1,2),(0,3),(1,3),(0,4),(1,4),(2,4),(3,4),(0,5),(1,5),(0,6),(1,6),(0,7),(1,7),(0,8),(1,8),(2,8),(3,8),(4,8),(5,8),(6,8),(7,8),(0,9),(1,9),(2,9),(3,9),(4,9),(5,9),(6,9),(7,9),(0,10),(1,10),(2,10),(3,10),(4,10),(5,10),(6,10),(7,10),(8,10),(9,10),(0,11),(1,11),(2,11),(3,11),(4,11),(5,11),(6,11),(7,11),(0,12),(1,12),(2,12),(3,12),(4,12),(5,12),(6,12),(7,12),(0,13),(1,13),(2,13),(3,13),(4,13),(5,13),(6,13),(7,13),(0,14),(1,14),(2,14),(3,14),(4,14),(5,14),(6,14),(7,14),(0,15),(1,15),(0,16),(1,16)] [
 ⟨(some 49),.faddr 8 (.tmp 3),none,0⟩,
 ⟨(some 50),.load none (.tmp 49),none,0⟩,
 ⟨(some 51),.faddr 8 (.tmp 1),none,0⟩,
 ⟨(some 52),.load none (.tmp 51),none,0⟩,
 ⟨(some 53),.mov (.tmp 5),none,0⟩,
 ⟨(some 54),.iaddr 3 (.tmp 52) (.tmp 53),none,0⟩,
 ⟨(some 55),.faddr 0 (.tmp 54),none,0⟩,
 ⟨(some 56),.load none (.tmp 55),none,0⟩,
 ⟨(some 57),.faddr 8 (.tmp 1),none,0⟩,
 ⟨(some 58),.load none (.tmp 57),none,0⟩,
 ⟨(some 59),.mov (.tmp 5),none,0⟩,
 ⟨(some 60),.iaddr 3 (.tmp 58) (.tmp 59),none,0⟩,
 ⟨(some 61),.faddr 1 (.tmp 60),none,0⟩,
 ⟨(some 62),.load (some 2) (.tmp 61),none,0⟩,
 ⟨(some 63),.call 53 true [(.tmp 62)],none,0⟩,
 ⟨(some 64),.build [(.int .i64 0),(.int .i64 0),(.int .i64 0)] [(0,1,(.tmp 56)),(1,2,(.tmp 63))],none,0⟩,
 ⟨(some 65),.bslice 3 1 [(.int .i64 0),(.int .i64 0),(.int .i64 0)] [(0,(.tmp 64))],none,0⟩,
 ⟨(some 66),.append 3 24 (.tmp 50) (.tmp 65),none,1⟩,
 ⟨(some 67),.faddr 8 (.tmp 3),none,2⟩,
 ⟨none,.store none (.tmp 67) (.tmp 66),none,2⟩]))
 (.region 0 [] [
 ⟨(some 47),.mov (.tmp 5),none,0⟩,
 ⟨(some 48),.bin .add (.tmp 47) (.cst (.c (.int .i64 1))),none,0⟩,
 ⟨(some 5),.mov (.tmp 48),none,0⟩]))))))
 (.seq (.region 0 [] [
 ⟨(some 68),.load (some 9) (.tmp 3),none,0⟩,
 ⟨none,.store (some 9) (.tmp 2) (.tmp 68),none,0⟩])
 .ret)))))⟩
def f16 : AFunc:=⟨10,[.cell 2 (some 2)],false,
 (.seq (.region 2 [] [
 ⟨(some 1),.box (.tmp 0),none,0⟩,
 ⟨(some 2),.alloc [.nils,.nils],none,1⟩])
 (.seq (.region 0 [(0,3),(1,3),(2,3),(0,4),(1,4),(2,4)] [
 ⟨(some 3),.faddr 0 (.tmp 1),none,0⟩,
 ⟨(some 4),.load none (.tmp 3),none,0⟩,
 ⟨(some 5),.call 17 true [(.tmp 4)],none,0⟩,
 ⟨(some 6),.faddr 1 (.tmp 1),none,0⟩,
 ⟨(some 7),.load none (.tmp 6),none,0⟩,
 ⟨(some 8),.call 17 true [(.tmp 7)],none,0⟩,
 ⟨(some 9),.build [.nils,.nils] [(0,1,(.tmp 5)),(1,1,(.tmp 8))],none,0⟩,
 ⟨none,.store (some 2) (.tmp 2) (.tmp 9),none,0⟩])
 .ret))⟩
def f17 : AFunc:=⟨5,[.tmp 2],false,
 (.seq (.region 0 [] [
 ⟨(some 2),.mov (.cst (.c .nils)),none,0⟩])
 (.seq (.region 1 [] [
 ⟨(some 3),.mov (.tmp 0),none,0⟩,
 ⟨(some 4),.append 1 8 (.cst (.c .nils)) (.tmp 3),none,0⟩,
 ⟨(some 2),.mov (.tmp 4),none,1⟩])
 .ret))⟩
def f18 : AFunc:=⟨25,[.tmp 4],false,
 (.seq (.region 2 [] [
 ⟨(some 2),.box (.tmp 0),none,0⟩,
 ⟨(some 3),.box (.tmp 1),none,1⟩,
 ⟨(some 4),.mov (.cst (.c (.bool false))),none,2⟩])
 (.seq (.seq (.region 0 [] [
 ⟨(some 6),.load (some 9) (.tmp 2),none,0⟩,
 ⟨(some 7),.call 20 true [(.tmp 6)],none,0⟩,
 ⟨(some 8),.bin .neq (.tmp 7) (.cst (.c (.int .i64 0))),none,0⟩,
 ⟨(some 9),.mov (.tmp 8),none,0⟩,
 ⟨(some 10),.load (some 9) (.tmp 2),some (9,false),0⟩,
 ⟨(some 11),.load (some 2) (.tmp 3),some (9,false),0⟩,
 ⟨(some 12),.call 49 true [(.tmp 10),(.tmp 11)],some (9,false),0⟩,
 ⟨(some 13),.not (.tmp 12),some (9,false),0⟩,
 ⟨(some 14),.pick (.tmp 9) (.cst (.c (.bool true))) (.tmp 13),none,0⟩])
 (.cond (.tmp 14)
 (.seq (.region 0 [] [
 ⟨(some 4),.mov (.cst (.c (.bool false))),none,0⟩])
 .ret)
 .skip))
 (.seq (.region 1 [(0,2),(1,2),(0,3),(1,3),(2,3),(0,4),(1,4),(2,4),(0,6),(1,6),(2,6),(3,6),(4,6),(5,6)] [
 ⟨(some 15),.load (some 9) (.tmp 2),none,0⟩,
 ⟨(some 16),.call 51 true [(.tmp 15)],none,0⟩,
 ⟨(some 17),.load (some 2) (.tmp 3),none,0⟩,
 ⟨(some 18),.faddr 4 (.tmp 2),none,0⟩,
 ⟨(some 19),.load none (.tmp 18),none,0⟩,
 ⟨(some 20),.call 54 true [(.tmp 16),(.tmp 17),(.tmp 19)],none,0⟩,
 ⟨(some 5),.alloc [(.int .i64 0),(.int .i64 0),(.int .i64 0),(.int .i64 0),(.int .i64 0),(.int .i64 0),(.int .i64 0),(.int .i64 0),(.int .i64 0),(.int .i64 0)],none,0⟩,
 ⟨none,.store (some 10) (.tmp 5) (.tmp 20),none,1⟩])
 (.seq (.region 0 [] [
 ⟨(some 21),.faddr 8 (.tmp 2),none,0⟩,
 ⟨(some 22),.load none (.tmp 21),none,0⟩,
 ⟨(some 23),.mkfn 56 none [(.tmp 5)],none,0⟩,
 ⟨(some 24),.call 55 false [(.tmp 22),(.tmp 23)],none,0⟩,
 ⟨(some 4),.mov (.tmp 24),none,0⟩])
 .ret))))⟩
def f20 : AFunc:=⟨92,[.tmp 2],false,
 (.seq (.region 1 [] [
 ⟨(some 1),.box (.tmp 0),none,0⟩,
 ⟨(some 2),.mov (.cst (.c (.int .i64 0))),none,1⟩])
 (.seq (.region 0 [] [
 ⟨(some 7),.load (some 9) (.tmp 1),none,0⟩,
 ⟨(some 8),.mkfn 58 (some (.tmp 7)) [],none,0⟩,
 ⟨(some 3),.mov (.tmp 8),none,0⟩])
 (.seq (.block 0 (.seq (.region 0 [] [
 ⟨(some 10),.faddr 0 (.tmp 1),none,0⟩,
 ⟨(some 11),.load none (.tmp 10),none,0⟩,
 ⟨(some 12),.bin .gtr (.tmp 11) (.cst (.c (.int .i64 9))),none,0⟩,
 ⟨(some 13),.mov (.tmp 12),none,0⟩,
 ⟨(some 14),.faddr 3 (.tmp 1),some (13,false),0⟩,
 ⟨(some 15),.load none (.tmp 14),some (13,false),0⟩,
 ⟨(some 16),.len (.tmp 15),some (13,false),0⟩,
 ⟨(some 17),.bin .gtr (.tmp 16) (.cst (.c (.int .i64 3))),some (13,false),0⟩,
 ⟨(some 18),.pick (.tmp 13) (.cst (.c (.bool true))) (.tmp 17),none,0⟩,
 ⟨(some 19),.mov (.tmp 18),none,0⟩,
 ⟨(some 20),.faddr 8 (.tmp 1),some (19,false),0⟩,
 ⟨(some 21),.load none (.tmp 20),some (19,false),0⟩,
 ⟨(some 22),.len (.tmp 21),some (19,false),0⟩,
 ⟨(some 23),.bin .gtr (.tmp 22) (.cst (.c (.int .i64 5))),some (19,false),0⟩,
 ⟨(some 24),.pick (.tmp 19) (.cst (.c (.bool true))) (.tmp 23),none,0⟩,
 ⟨(some 9),.mov (.tmp 24),none,0⟩])
 (.cond (.tmp 9)
 (.seq (.region 0 [] [
 ⟨(some 2),.mov (.cst (.c (.int .i64 3))),none,0⟩])
 .ret)
 (.seq (.region 0 [(4,7),(5,7),(6,7),(4,8),(5,8),(6,8),(12,15),(13,15),(14,15),(12,16),(13,16),(14,16),(25,26),(25,27),(44,46),(45,46)] [
 ⟨(some 26),.load (some 9) (.tmp 1),none,0⟩,
 ⟨(some 27),.call 59 true [(.tmp 26)],none,0⟩,
 ⟨(some 28),.not (.tmp 27),none,0⟩,
 ⟨(some 29),.mov (.tmp 28),none,0⟩,
 ⟨(some 30),.faddr 1 (.tmp 1),some (29,false),0⟩,
 ⟨(some 31),.load none (.tmp 30),some (29,false),0⟩,
 ⟨(some 32),.len (.tmp 31),some (29,false),0⟩,
 ⟨(some 33),.load (some 9) (.tmp 1),some (29,false),0⟩,
 ⟨(some 34),.call 60 true [(.tmp 33)],some (29,false),0⟩,
 ⟨(some 35),.bin .neq (.tmp 32) (.tmp 34),some (29,false),0⟩,
 ⟨(some 36),.pick (.tmp 29) (.cst (.c (.bool true))) (.tmp 35),none,0⟩,
 ⟨(some 37),.mov (.tmp 36),none,0⟩,
 ⟨(some 38),.faddr 2 (.tmp 1),some (37,false),0⟩,
 ⟨(some 39),.load none (.tmp 38),some (37,false),0⟩,
 ⟨(some 40),.len (.tmp 39),some (37,false),0⟩,
 ⟨(some 41),.load (some 9) (.tmp 1),some (37,false),0⟩,
 ⟨(some 42),.call 60 true [(.tmp 41)],some (37,false),0⟩,
 ⟨(some 43),.bin .neq (.tmp 40) (.tmp 42),some (37,false),0⟩,
 ⟨(some 44),.pick (.tmp 37) (.cst (.c (.bool true))) (.tmp 43),none,0⟩,
 ⟨(some 45),.mov (.tmp 44),none,0⟩,
 ⟨(some 46),.load (some 9) (.tmp 1),some (45,false),0⟩,
 ⟨(some 47),.call 61 true [(.tmp 46)],some (45,false),0⟩,
 ⟨(some 48),.not (.tmp 47),some (45,false),0⟩,
 ⟨(some 49),.pick (.tmp 45) (.cst (.c (.bool true))) (.tmp 48),none,0⟩,
 ⟨(some 50),.mov (.tmp 49),none,0⟩,
 ⟨(some 51),.load (some 9) (.tmp 1),some (50,false),0⟩,
 ⟨(some 52),.faddr 4 (.tmp 1),some (50,false),0⟩,
 ⟨(some 53),.load none (.tmp 52),some (50,false),0⟩,
 ⟨(some 54),.call 50 true [(.tmp 51),(.tmp 53)],some (50,false),0⟩,
 ⟨(some 55),.not (.tmp 54),some (50,false),0⟩,
 ⟨(some 56),.pick (.tmp 50) (.cst (.c (.bool true))) (.tmp 55),none,0⟩,
 ⟨(some 57),.mov (.tmp 56),none,0⟩,
 ⟨(some 58),.faddr 1 (.tmp 1),some (57,false),0⟩,
 ⟨(some 59),.load none (.tmp 58),some (57,false),0⟩,
 ⟨(some 60),.call 62 false [(.tmp 59),(.cst (.c (.fn 63 false [] [])))],some (57,false),0⟩,
 ⟨(some 61),.not (.tmp 60),some (57,false),0⟩,
 ⟨(some 62),.pick (.tmp 57) (.cst (.c (.bool true))) (.tmp 61),none,0⟩,
 ⟨(some 63),.mov (.tmp 62),none,0⟩,
 ⟨(some 64),.faddr 2 (.tmp 1),some (63,false),0⟩,
 ⟨(some 65),.load none (.tmp 64),some (63,false),0⟩,
 ⟨(some 66),.call 64 false [(.tmp 65),(.cst (.c (.fn 65 false [] [])))],some (63,false),0⟩,
 ⟨(some 67),.not (.tmp 66),some (63,false),0⟩,
 ⟨(some 68),.pick (.tmp 63) (.cst (.c (.bool true))) (.tmp 67),none,0⟩,
 ⟨(some 69),.mov (.tmp 68),none,0⟩,
 ⟨(some 70),.faddr 8 (.tmp 1),some (69,false),0⟩,
 ⟨(some 71),.load none (.tmp 70),some (69,false),0⟩,
 ⟨(some 72),.mov (.tmp 3),some (69,false),0⟩,
 ⟨(some 73),.call 55 false [(.tmp 71),(.tmp 72)],some (69,false),0⟩,
 ⟨(some 74),.not (.tmp 73),some (69,false),0⟩,
 ⟨(some 75),.pick (.tmp 69) (.cst (.c (.bool true))) (.tmp 74),none,0⟩,
 ⟨(some 25),.mov (.tmp 75),none,0⟩])
 (.cond (.tmp 25)
 (.seq (.region 0 [] [
 ⟨(some 2),.mov (.cst (.c (.int .i64 1))),none,0⟩])
 .ret)
 .skip)))))
 (.seq (.region 0 [] [
 ⟨(some 4),.mov (.cst (.c (.int .i64 1))),none,0⟩])
 (.seq (.seq (.region 0 [] [
 ⟨(some 76),.load (some 9) (.tmp 1),none,0⟩,
 ⟨(some 77),.call 66 true [(.tmp 76)],none,0⟩,
 ⟨(some 78),.len (.tmp 77),none,0⟩,
 ⟨(some 79),.mov (.cst (.c (.int .i64 0))),none,0⟩])
 (.block 1 (.loop ⟨[6,80,81,82,83,84,85,86,87,88,89],true,[]⟩
 (.seq (.region 0 [] [
 ⟨(some 80),.bin .lss (.tmp 79) (.tmp 78),none,0⟩])
 (.seq (.cond (.tmp 80)
 .skip
 (.exit 1))
 (.seq (.block 2 (.seq (.region 1 [] [
 ⟨(some 81),.iaddr 2 (.tmp 77) (.tmp 79),none,0⟩,
 ⟨(some 82),.load (some 2) (.tmp 81),none,0⟩,
 ⟨(some 6),.alloc [(.int .i64 0),(.int .i64 0)],none,0⟩,
 ⟨none,.store (some 2) (.tmp 6) (.tmp 82),none,1⟩])
 (.region 1 [] [
 ⟨(some 83),.mov (.tmp 4),none,0⟩,
 ⟨(some 84),.load (some 2) (.tmp 6),none,0⟩,
 ⟨(some 85),.call 68 true [(.tmp 84)],none,0⟩,
 ⟨(some 86),.bin .mul (.tmp 83) (.tmp 85),none,0⟩,
 ⟨(some 87),.bslice 1 2 [(.int .i64 0)] [(0,(.tmp 86)),(1,(.cst (.c (.int .i64 2001))))],none,0⟩,
 ⟨(some 88),.call 67 true [(.tmp 87)],none,1⟩,
 ⟨(some 4),.mov (.tmp 88),none,1⟩])))
 (.region 0 [] [
 ⟨(some 89),.bin .add (.tmp 79) (.cst (.c (.int .i64 1))),none,0⟩,
 ⟨(some 79),.mov (.tmp 89),none,0⟩])))))))
 (.seq (.seq (.region 0 [] [
 ⟨(some 90),.mov (.tmp 4),none,0⟩,
 ⟨(some 91),.bin .gtr (.tmp 90) (.cst (.c (.int .i64 2000))),none,0⟩])
 (.cond (.tmp 91)
 (.seq (.region 0 [] [
 ⟨(some 2),.mov (.cst (.c (.int .i64 3))),none,0⟩])
 .ret)
 .skip))
 (.seq (.region 0 [] [
 ⟨(some 2),.mov (.cst (.c (.int .i64 0))),none,0⟩])
 .ret)))))))⟩
def f23 : AFunc:=⟨42,[.tmp 4],false,
 (.seq (.region 1 [] [
 ⟨(some 2),.box (.tmp 0),none,0⟩,
 ⟨(some 4),.mov (.cst (.c (.bool false))),none,1⟩])
 (.seq (.seq (.region 0 [] [
 ⟨(some 5),.mov (.cst (.c (.int .i64 0))),none,0⟩])
 (.block 0 (.loop ⟨[4,6,7,8,9,10,11,12,13,14,15,16,17,18,19,20,21,22,23,24,25,26,27,28,29,30,31,32,33,34,35],false,[]⟩
 (.seq (.seq (.region 0 [] [
 ⟨(some 6),.mov (.tmp 5),none,0⟩,
 ⟨(some 7),.mov (.tmp 1),none,0⟩,
 ⟨(some 8),.len (.tmp 7),none,0⟩,
 ⟨(some 9),.bin .lss (.tmp 6) (.tmp 8),none,0⟩])
 (.cond (.tmp 9)
 .skip
 (.exit 0)))
 (.seq (.block 1 (.seq (.region 0 [(0,1),(0,4),(1,4),(2,4),(3,4),(0,5),(1,5),(2,5),(3,5),(12,13),(12,16),(13,16),(14,16),(15,16),(12,17),(13,17),(14,17),(15,17),(16,17),(12,18),(13,18),(14,18),(15,18),(16,18),(12,19),(13,19),(14,19),(15,19),(12,20),(13,20),(14,20),(15,20)] [
 ⟨(some 12),.mov (.tmp 1),none,0⟩,
 ⟨(some 13),.mov (.tmp 5),none,0⟩,
 ⟨(some 14),.iaddr 1 (.tmp 12) (.tmp 13),none,0⟩,
 ⟨(some 15),.load none (.tmp 14),none,0⟩,
 ⟨(some 16),.faddr 0 (.tmp 2),none,0⟩,
 ⟨(some 17),.load none (.tmp 16),none,0⟩,
 ⟨(some 18),.call 35 true [(.tmp 15),(.cst (.c (.int .i64 0))),(.tmp 17)],none,0⟩,
 ⟨(some 19),.not (.tmp 18),none,0⟩,
 ⟨(some 20),.mov (.tmp 19),none,0⟩,
 ⟨(some 21),.mov (.tmp 5),some (20,false),0⟩,
 ⟨(some 22),.bin .gtr (.tmp 21) (.cst (.c (.int .i64 0))),some (20,false),0⟩,
 ⟨(some 23),.mov (.tmp 22),some (20,false),0⟩,
 ⟨(some 24),.mov (.tmp 1),some (23,true),0⟩,
 ⟨(some 25),.mov (.tmp 5),some (23,true),0⟩,
 ⟨(some 26),.iaddr 1 (.tmp 24) (.tmp 25),some (23,true),0⟩,
 ⟨(some 27),.load none (.tmp 26),some (23,true),0⟩,
 ⟨(some 28),.mov (.tmp 1),some (23,true),0⟩,
 ⟨(some 29),.mov (.tmp 5),some (23,true),0⟩,
 ⟨(some 30),.bin .sub (.tmp 29) (.cst (.c (.int .i64 1))),some (23,true),0⟩,
 ⟨(some 31),.iaddr 1 (.tmp 28) (.tmp 30),some (23,true),0⟩,
 ⟨(some 32),.load none (.tmp 31),some (23,true),0⟩,
 ⟨(some 33),.bin .leq (.tmp 27) (.tmp 32),some (23,true),0⟩,
 ⟨(some 34),.pick (.tmp 23) (.tmp 33) (.cst (.c (.bool false))),some (20,false),0⟩,
 ⟨(some 35),.pick (.tmp 20) (.cst (.c (.bool true))) (.tmp 34),none,0⟩])
 (.cond (.tmp 35)
 (.seq (.region 0 [] [
 ⟨(some 4),.mov (.cst (.c (.bool false))),none,0⟩])
 .ret)
 .skip)))
 (.region 0 [] [
 ⟨(some 10),.mov (.tmp 5),none,0⟩,
 ⟨(some 11),.bin .add (.tmp 10) (.cst (.c (.int .i64 1))),none,0⟩,
 ⟨(some 5),.mov (.tmp 11),none,0⟩]))))))
 (.seq (.region 0 [] [
 ⟨(some 36),.mov (.tmp 1),none,0⟩,
 ⟨(some 37),.len (.tmp 36),none,0⟩,
 ⟨(some 38),.faddr 3 (.tmp 2),none,0⟩,
 ⟨(some 39),.load none (.tmp 38),none,0⟩,
 ⟨(some 40),.len (.tmp 39),none,0⟩,
 ⟨(some 41),.bin .leq (.tmp 37) (.tmp 40),none,0⟩,
 ⟨(some 4),.mov (.tmp 41),none,0⟩])
 .ret)))⟩
end Am.Cr
