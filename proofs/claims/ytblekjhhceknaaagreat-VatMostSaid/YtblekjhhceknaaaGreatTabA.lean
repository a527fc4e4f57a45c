/-
  A part of the proof: the texts VtTabA of this seat, joined.
-/
import Derived.Test.YtblekjhhceknaaaGreatAmA
namespace Am.Vt
open Go Am
set_option maxRecDepth 100000
def f11 : AFunc:=⟨213,[.tmp 8],false,
 (.seq (.region 1 [] [
 ⟨(some 4),.box (.tmp 0),none,0⟩,
 ⟨(some 8),.mov (.cst (.c (.bool false))),none,1⟩])
 (.seq (.seq (.region 0 [] [
 ⟨(some 19),.load (some 12) (.tmp 4),none,0⟩,
 ⟨(some 20),.call 55 true [(.tmp 19)],none,0⟩,
 ⟨(some 21),.not (.tmp 20),none,0⟩])
 (.cond (.tmp 21)
 (.seq (.region 0 [] [
 ⟨(some 22),.call 16 true [],none,0⟩,
 ⟨(some 8),.mov (.tmp 22),none,0⟩])
 .ret)
 .skip))
 (.seq (.region 0 [] [
 ⟨(some 24),.load (some 12) (.tmp 4),none,0⟩,
 ⟨(some 25),.call 18 true [(.tmp 24)],none,0⟩,
 ⟨(some 26),.call 38 true [(.tmp 25)],none,0⟩,
 ⟨(some 23),.mov (.tmp 26),none,0⟩,
 ⟨(some 27),.extract 0 (.tmp 23),none,0⟩,
 ⟨(some 28),.extract 1 (.tmp 23),none,0⟩,
 ⟨(some 9),.mov (.tmp 27),none,0⟩,
 ⟨(some 10),.mov (.tmp 28),none,0⟩])
 (.seq (.region 1 [] [
 ⟨(some 30),.load (some 12) (.tmp 4),none,0⟩,
 ⟨(some 31),.call 18 true [(.tmp 30)],none,0⟩,
 ⟨(some 32),.call 44 true [(.tmp 31)],none,0⟩,
 ⟨(some 29),.mov (.tmp 32),none,0⟩,
 ⟨(some 33),.extract 0 (.tmp 29),none,0⟩,
 ⟨(some 34),.extract 1 (.tmp 29),none,0⟩,
 ⟨(some 11),.alloc [(.int .i64 0),(.int .i64 0),(.int .i64 0),(.int .i64 0),.nils,(.int .i64 0),(.int .i64 0),.nils],none,0⟩,
 ⟨none,.store (some 8) (.tmp 11) (.tmp 33),none,1⟩,
 ⟨(some 12),.mov (.tmp 34),none,1⟩])
 (.seq (.region 0 [] [
 ⟨(some 35),.load (some 12) (.tmp 4),none,0⟩,
 ⟨(some 36),.call 59 true [(.tmp 35)],none,0⟩,
 ⟨(some 13),.mov (.tmp 36),none,0⟩])
 (.seq (.seq (.region 0 [] [
 ⟨(some 37),.mov (.tmp 13),none,0⟩,
 ⟨(some 38),.len (.tmp 37),none,0⟩,
 ⟨(some 39),.bin .eql (.tmp 38) (.cst (.c (.int .i64 0))),none,0⟩])
 (.cond (.tmp 39)
 (.seq (.region 0 [] [
 ⟨(some 40),.mov (.tmp 10),none,0⟩,
 ⟨(some 41),.bin .eql (.tmp 40) (.cst (.c (.int .i64 11))),none,0⟩,
 ⟨(some 42),.mov (.tmp 41),none,0⟩,
 ⟨(some 43),.mov (.tmp 12),some (42,true),0⟩,
 ⟨(some 44),.mov (.tmp 10),some (42,true),0⟩,
 ⟨(some 45),.bin .eql (.tmp 43) (.tmp 44),some (42,true),0⟩,
 ⟨(some 46),.pick (.tmp 42) (.tmp 45) (.cst (.c (.bool false))),none,0⟩,
 ⟨(some 47),.mov (.tmp 46),none,0⟩,
 ⟨(some 48),.call 16 true [],some (47,true),0⟩,
 ⟨(some 49),.pick (.tmp 47) (.tmp 48) (.cst (.c (.bool false))),none,0⟩,
 ⟨(some 8),.mov (.tmp 49),none,0⟩])
 .ret)
 .skip))
 (.seq (.seq (.region 0 [(3,5),(4,5),(3,6),(4,6),(3,7),(4,7),(11,13),(12,13),(19,21),(20,21),(19,22),(20,22),(21,22),(19,23),(20,23),(21,23),(19,24),(20,24),(21,24),(22,24),(23,24),(19,25),(20,25),(21,25),(22,25),(23,25),(19,26),(20,26),(21,26),(22,26),(23,26),(19,27),(20,27),(21,27),(19,28),(20,28)] [
 ⟨(some 50),.mov (.tmp 10),none,0⟩,
 ⟨(some 51),.bin .neq (.tmp 50) (.cst (.c (.int .i64 0))),none,0⟩,
 ⟨(some 52),.mov (.tmp 51),none,0⟩,
 ⟨(some 53),.mov (.tmp 9),some (52,false),0⟩,
 ⟨(some 54),.len (.tmp 53),some (52,false),0⟩,
 ⟨(some 55),.faddr 0 (.tmp 4),some (52,false),0⟩,
 ⟨(some 56),.load none (.tmp 55),some (52,false),0⟩,
 ⟨(some 57),.bin .add (.tmp 56) (.cst (.c (.int .i64 1))),some (52,false),0⟩,
 ⟨(some 58),.bin .gtr (.tmp 54) (.tmp 57),some (52,false),0⟩,
 ⟨(some 59),.pick (.tmp 52) (.cst (.c (.bool true))) (.tmp 58),none,0⟩,
 ⟨(some 60),.mov (.tmp 59),none,0⟩,
 ⟨(some 61),.load (some 12) (.tmp 4),some (60,false),0⟩,
 ⟨(some 62),.call 18 true [(.tmp 61)],some (60,false),0⟩,
 ⟨(some 63),.mov (.tmp 9),some (60,false),0⟩,
 ⟨(some 64),.call 40 true [(.tmp 63)],some (60,false),0⟩,
 ⟨(some 65),.call 39 true [(.tmp 62),(.tmp 64)],some (60,false),0⟩,
 ⟨(some 66),.not (.tmp 65),some (60,false),0⟩,
 ⟨(some 67),.pick (.tmp 60) (.cst (.c (.bool true))) (.tmp 66),none,0⟩,
 ⟨(some 68),.mov (.tmp 67),none,0⟩,
 ⟨(some 69),.load (some 12) (.tmp 4),some (68,false),0⟩,
 ⟨(some 70),.call 18 true [(.tmp 69)],some (68,false),0⟩,
 ⟨(some 71),.mov (.tmp 9),some (68,false),0⟩,
 ⟨(some 72),.mov (.tmp 3),some (68,false),0⟩,
 ⟨(some 73),.conv .i64 (.tmp 72),some (68,false),0⟩,
 ⟨(some 74),.mov (.tmp 9),some (68,false),0⟩,
 ⟨(some 75),.len (.tmp 74),some (68,false),0⟩,
 ⟨(some 76),.bin .add (.tmp 75) (.cst (.c (.int .i64 1))),some (68,false),0⟩,
 ⟨(some 77),.bin .rem (.tmp 73) (.tmp 76),some (68,false),0⟩,
 ⟨(some 78),.slice 1 (.tmp 71) none (some (.tmp 77)),some (68,false),0⟩,
 ⟨(some 79),.call 40 true [(.tmp 78)],some (68,false),0⟩,
 ⟨(some 80),.call 39 true [(.tmp 70),(.tmp 79)],some (68,false),0⟩,
 ⟨(some 81),.not (.tmp 80),some (68,false),0⟩,
 ⟨(some 82),.pick (.tmp 68) (.cst (.c (.bool true))) (.tmp 81),none,0⟩])
 (.cond (.tmp 82)
 (.seq (.region 0 [] [
 ⟨(some 8),.mov (.cst (.c (.bool false))),none,0⟩])
 .ret)
 .skip))
 (.seq (.region 1 [] [
 ⟨(some 83),.mov (.tmp 13),none,0⟩,
 ⟨(some 84),.mov (.tmp 1),none,0⟩,
 ⟨(some 85),.conv .i64 (.tmp 84),none,0⟩,
 ⟨(some 86),.mov (.tmp 13),none,0⟩,
 ⟨(some 87),.len (.tmp 86),none,0⟩,
 ⟨(some 88),.bin .rem (.tmp 85) (.tmp 87),none,0⟩,
 ⟨(some 89),.iaddr 3 (.tmp 83) (.tmp 88),none,0⟩,
 ⟨(some 90),.load (some 3) (.tmp 89),none,0⟩,
 ⟨(some 14),.alloc [(.int .i64 0),(.int .i64 0),.nils],none,0⟩,
 ⟨none,.store (some 3) (.tmp 14) (.tmp 90),none,1⟩])
 (.seq (.region 0 [] [
 ⟨(some 15),.mov (.cst (.c (.int .i64 0))),none,0⟩])
 (.seq (.seq (.region 0 [] [
 ⟨(some 16),.mov (.cst (.c (.int .i64 0))),none,0⟩])
 (.block 0 (.loop ⟨[8,91,92,93,94,95,96,97,98,99,100,101,102,103,104,105,106,107,108,109,110,111,112,113,114,115,116,117,118,119,120,121,122],false,[]⟩
 (.seq (.seq (.region 0 [] [
 ⟨(some 91),.mov (.tmp 16),none,0⟩,
 ⟨(some 92),.mov (.tmp 9),none,0⟩,
 ⟨(some 93),.len (.tmp 92),none,0⟩,
 ⟨(some 94),.bin .lss (.tmp 91) (.tmp 93),none,0⟩])
 (.cond (.tmp 94)
 .skip
 (.exit 0)))
 (.seq (.block 1 (.seq (.region 0 [] [
 ⟨(some 97),.mov (.tmp 15),none,0⟩,
 ⟨(some 98),.mov (.tmp 9),none,0⟩,
 ⟨(some 99),.mov (.tmp 16),none,0⟩,
 ⟨(some 100),.iaddr 1 (.tmp 98) (.tmp 99),none,0⟩,
 ⟨(some 101),.load none (.tmp 100),none,0⟩,
 ⟨(some 102),.bin .add (.tmp 97) (.tmp 101),none,0⟩,
 ⟨(some 15),.mov (.tmp 102),none,0⟩])
 (.seq (.region 0 [(0,1),(7,8),(7,10),(8,10),(9,10),(7,12),(8,12),(9,12),(10,12),(11,12),(7,13),(8,13),(9,13),(10,13),(11,13),(7,14),(8,14),(9,14),(10,14),(11,14),(7,15),(8,15),(9,15),(10,15),(11,15),(12,15),(13,15),(14,15),(7,16),(8,16),(9,16),(10,16),(11,16),(12,16),(13,16),(14,16)] [
 ⟨(some 103),.mov (.tmp 9),none,0⟩,
 ⟨(some 104),.mov (.tmp 16),none,0⟩,
 ⟨(some 105),.iaddr 1 (.tmp 103) (.tmp 104),none,0⟩,
 ⟨(some 106),.load none (.tmp 105),none,0⟩,
 ⟨(some 107),.call 29 true [(.tmp 106),(.cst (.c (.int .i64 (-9)))),(.cst (.c (.int .i64 9)))],none,0⟩,
 ⟨(some 108),.not (.tmp 107),none,0⟩,
 ⟨(some 109),.mov (.tmp 108),none,0⟩,
 ⟨(some 110),.load (some 3) (.tmp 14),some (109,false),0⟩,
 ⟨(some 111),.mov (.tmp 16),some (109,false),0⟩,
 ⟨(some 112),.call 60 true [(.tmp 110),(.tmp 111)],some (109,false),0⟩,
 ⟨(some 113),.mov (.tmp 15),some (109,false),0⟩,
 ⟨(some 114),.bin .add (.tmp 112) (.tmp 113),some (109,false),0⟩,
 ⟨(some 115),.faddr 1 (.tmp 4),some (109,false),0⟩,
 ⟨(some 116),.load none (.tmp 115),some (109,false),0⟩,
 ⟨(some 117),.neg (.tmp 116),some (109,false),0⟩,
 ⟨(some 118),.faddr 1 (.tmp 4),some (109,false),0⟩,
 ⟨(some 119),.load none (.tmp 118),some (109,false),0⟩,
 ⟨(some 120),.call 29 true [(.tmp 114),(.tmp 117),(.tmp 119)],some (109,false),0⟩,
 ⟨(some 121),.not (.tmp 120),some (109,false),0⟩,
 ⟨(some 122),.pick (.tmp 109) (.cst (.c (.bool true))) (.tmp 121),none,0⟩])
 (.cond (.tmp 122)
 (.seq (.region 0 [] [
 ⟨(some 8),.mov (.cst (.c (.bool false))),none,0⟩])
 .ret)
 .skip))))
 (.region 0 [] [
 ⟨(some 95),.mov (.tmp 16),none,0⟩,
 ⟨(some 96),.bin .add (.tmp 95) (.cst (.c (.int .i64 1))),none,0⟩,
 ⟨(some 16),.mov (.tmp 96),none,0⟩]))))))
 (.seq (.region 0 [] [
 ⟨(some 123),.load (some 12) (.tmp 4),none,0⟩,
 ⟨(some 124),.mov (.tmp 2),none,0⟩,
 ⟨(some 125),.call 61 true [(.tmp 123),(.tmp 124)],none,0⟩,
 ⟨(some 17),.mov (.tmp 125),none,0⟩])
 (.seq (.region 0 [] [
 ⟨(some 126),.mov (.tmp 9),none,0⟩,
 ⟨(some 127),.call 40 false [(.tmp 126)],none,0⟩,
 ⟨(some 18),.mov (.tmp 127),none,0⟩])
 (.seq (.block 2 (.loop ⟨[128,129,130,131,132,133,134,135,136,137,138,139,140,141,142,143,144,145,146,147,148],false,[(18,none,1)]⟩
 (.seq (.seq (.region 0 [] [
 ⟨(some 128),.mov (.tmp 18),none,0⟩,
 ⟨(some 129),.len (.tmp 128),none,0⟩,
 ⟨(some 130),.faddr 0 (.tmp 4),none,0⟩,
 ⟨(some 131),.load none (.tmp 130),none,0⟩,
 ⟨(some 132),.bin .add (.tmp 131) (.cst (.c (.int .i64 1))),none,0⟩,
 ⟨(some 133),.bin .lss (.tmp 129) (.tmp 132),none,0⟩,
 ⟨(some 134),.mov (.tmp 133),none,0⟩,
 ⟨(some 135),.mov (.tmp 18),some (134,true),0⟩,
 ⟨(some 136),.len (.tmp 135),some (134,true),0⟩,
 ⟨(some 137),.mov (.tmp 17),some (134,true),0⟩,
 ⟨(some 138),.len (.tmp 137),some (134,true),0⟩,
 ⟨(some 139),.bin .lss (.tmp 136) (.tmp 138),some (134,true),0⟩,
 ⟨(some 140),.pick (.tmp 134) (.tmp 139) (.cst (.c (.bool false))),none,0⟩])
 (.cond (.tmp 140)
 .skip
 (.exit 2)))
 (.block 3 (.region 2 [] [
 ⟨(some 141),.mov (.tmp 18),none,0⟩,
 ⟨(some 142),.mov (.tmp 17),none,0⟩,
 ⟨(some 143),.mov (.tmp 18),none,0⟩,
 ⟨(some 144),.len (.tmp 143),none,0⟩,
 ⟨(some 145),.iaddr 1 (.tmp 142) (.tmp 144),none,0⟩,
 ⟨(some 146),.load none (.tmp 145),none,0⟩,
 ⟨(some 147),.bslice 1 1 [(.int .i64 0)] [(0,(.tmp 146))],none,0⟩,
 ⟨(some 148),.append 1 8 (.tmp 141) (.tmp 147),none,1⟩,
 ⟨(some 18),.mov (.tmp 148),none,2⟩])))))
 (.seq (.seq (.region 0 [] [
 ⟨(some 149),.mov (.tmp 17),none,0⟩,
 ⟨(some 150),.len (.tmp 149),none,0⟩,
 ⟨(some 151),.mov (.tmp 9),none,0⟩,
 ⟨(some 152),.len (.tmp 151),none,0⟩,
 ⟨(some 153),.bin .gtr (.tmp 150) (.tmp 152),none,0⟩,
 ⟨(some 154),.mov (.tmp 153),none,0⟩,
 ⟨(some 155),.load (some 12) (.tmp 4),some (154,true),0⟩,
 ⟨(some 156),.call 18 true [(.tmp 155)],some (154,true),0⟩,
 ⟨(some 157),.mov (.tmp 17),some (154,true),0⟩,
 ⟨(some 158),.call 40 true [(.tmp 157)],some (154,true),0⟩,
 ⟨(some 159),.call 39 true [(.tmp 156),(.tmp 158)],some (154,true),0⟩,
 ⟨(some 160),.pick (.tmp 154) (.tmp 159) (.cst (.c (.bool false))),none,0⟩,
 ⟨(some 161),.mov (.tmp 160),none,0⟩,
 ⟨(some 162),.mov (.tmp 18),some (161,false),0⟩,
 ⟨(some 163),.len (.tmp 162),some (161,false),0⟩,
 ⟨(some 164),.mov (.tmp 9),some (161,false),0⟩,
 ⟨(some 165),.len (.tmp 164),some (161,false),0⟩,
 ⟨(some 166),.bin .gtr (.tmp 163) (.tmp 165),some (161,false),0⟩,
 ⟨(some 167),.mov (.tmp 166),some (161,false),0⟩,
 ⟨(some 168),.load (some 12) (.tmp 4),some (167,true),0⟩,
 ⟨(some 169),.call 18 true [(.tmp 168)],some (167,true),0⟩,
 ⟨(some 170),.mov (.tmp 18),some (167,true),0⟩,
 ⟨(some 171),.call 39 true [(.tmp 169),(.tmp 170)],some (167,true),0⟩,
 ⟨(some 172),.pick (.tmp 167) (.tmp 171) (.cst (.c (.bool false))),some (161,false),0⟩,
 ⟨(some 173),.pick (.tmp 161) (.cst (.c (.bool true))) (.tmp 172),none,0⟩])
 (.cond (.tmp 173)
 (.seq (.region 0 [] [
 ⟨(some 8),.mov (.cst (.c (.bool false))),none,0⟩])
 .ret)
 .skip))
 (.seq (.seq (.region 0 [] [
 ⟨(some 174),.mov (.tmp 12),none,0⟩,
 ⟨(some 175),.bin .neq (.tmp 174) (.cst (.c (.int .i64 0))),none,0⟩])
 (.cond (.tmp 175)
 (.seq (.region 0 [] [
 ⟨(some 176),.mov (.tmp 12),none,0⟩,
 ⟨(some 177),.bin .eql (.tmp 176) (.cst (.c (.int .i64 7))),none,0⟩,
 ⟨(some 178),.mov (.tmp 177),none,0⟩,
 ⟨(some 179),.mov (.tmp 9),some (178,true),0⟩,
 ⟨(some 180),.len (.tmp 179),some (178,true),0⟩,
 ⟨(some 181),.faddr 0 (.tmp 4),some (178,true),0⟩,
 ⟨(some 182),.load none (.tmp 181),some (178,true),0⟩,
 ⟨(some 183),.bin .add (.tmp 182) (.cst (.c (.int .i64 1))),some (178,true),0⟩,
 ⟨(some 184),.bin .eql (.tmp 180) (.tmp 183),some (178,true),0⟩,
 ⟨(some 185),.pick (.tmp 178) (.tmp 184) (.cst (.c (.bool false))),none,0⟩,
 ⟨(some 186),.mov (.tmp 185),none,0⟩,
 ⟨(some 187),.call 16 true [],some (186,true),0⟩,
 ⟨(some 188),.pick (.tmp 186) (.tmp 187) (.cst (.c (.bool false))),none,0⟩,
 ⟨(some 8),.mov (.tmp 188),none,0⟩])
 .ret)
 .skip))
 (.seq (.region 0 [(0,2),(1,2),(0,3),(1,3),(6,8),(7,8),(12,14),(13,14),(12,15),(13,15),(12,17),(13,17),(14,17),(15,17),(16,17),(12,18),(13,18),(14,18),(15,18),(16,18)] [
 ⟨(some 189),.mov (.tmp 9),none,0⟩,
 ⟨(some 190),.len (.tmp 189),none,0⟩,
 ⟨(some 191),.faddr 0 (.tmp 4),none,0⟩,
 ⟨(some 192),.load none (.tmp 191),none,0⟩,
 ⟨(some 193),.bin .leq (.tmp 190) (.tmp 192),none,0⟩,
 ⟨(some 194),.mov (.tmp 193),none,0⟩,
 ⟨(some 195),.load (some 12) (.tmp 4),some (194,true),0⟩,
 ⟨(some 196),.call 18 true [(.tmp 195)],some (194,true),0⟩,
 ⟨(some 197),.load (some 8) (.tmp 11),some (194,true),0⟩,
 ⟨(some 198),.call 45 true [(.tmp 196),(.tmp 197)],some (194,true),0⟩,
 ⟨(some 199),.pick (.tmp 194) (.tmp 198) (.cst (.c (.bool false))),none,0⟩,
 ⟨(some 200),.mov (.tmp 199),none,0⟩,
 ⟨(some 201),.faddr 0 (.tmp 11),some (200,true),0⟩,
 ⟨(some 202),.load none (.tmp 201),some (200,true),0⟩,
 ⟨(some 203),.faddr 1 (.tmp 11),some (200,true),0⟩,
 ⟨(some 204),.load none (.tmp 203),some (200,true),0⟩,
 ⟨(some 205),.mm true (.tmp 202) (.tmp 204),some (200,true),0⟩,
 ⟨(some 206),.mov (.tmp 9),some (200,true),0⟩,
 ⟨(some 207),.len (.tmp 206),some (200,true),0⟩,
 ⟨(some 208),.bin .eql (.tmp 205) (.tmp 207),some (200,true),0⟩,
 ⟨(some 209),.pick (.tmp 200) (.tmp 208) (.cst (.c (.bool false))),none,0⟩,
 ⟨(some 210),.mov (.tmp 209),none,0⟩,
 ⟨(some 211),.call 16 true [],some (210,true),0⟩,
 ⟨(some 212),.pick (.tmp 210) (.tmp 211) (.cst (.c (.bool false))),none,0⟩,
 ⟨(some 8),.mov (.tmp 212),none,0⟩])
 .ret))))))))))))))))⟩
def f14 : AFunc:=⟨35,[.tmp 2],false,
 (.seq (.region 1 [] [
 ⟨(some 1),.box (.tmp 0),none,0⟩,
 ⟨(some 2),.mov (.cst (.c (.bool false))),none,1⟩])
 (.seq (.region 0 [] [
 ⟨(some 3),.faddr 8 (.tmp 1),none,0⟩,
 ⟨(some 4),.load none (.tmp 3),none,0⟩,
 ⟨(some 5),.len (.tmp 4),none,0⟩,
 ⟨(some 6),.bin .leq (.tmp 5) (.cst (.c (.int .i64 10))),none,0⟩,
 ⟨(some 7),.mov (.tmp 6),none,0⟩,
 ⟨(some 8),.faddr 9 (.tmp 1),some (7,true),0⟩,
 ⟨(some 9),.load none (.tmp 8),some (7,true),0⟩,
 ⟨(some 10),.len (.tmp 9),some (7,true),0⟩,
 ⟨(some 11),.bin .leq (.tmp 10) (.cst (.c (.int .i64 10))),some (7,true),0⟩,
 ⟨(some 12),.pick (.tmp 7) (.tmp 11) (.cst (.c (.bool false))),none,0⟩,
 ⟨(some 13),.mov (.tmp 12),none,0⟩,
 ⟨(some 14),.faddr 10 (.tmp 1),some (13,true),0⟩,
 ⟨(some 15),.load none (.tmp 14),some (13,true),0⟩,
 ⟨(some 16),.len (.tmp 15),some (13,true),0⟩,
 ⟨(some 17),.bin .leq (.tmp 16) (.cst (.c (.int .i64 10))),some (13,true),0⟩,
 ⟨(some 18),.pick (.tmp 13) (.tmp 17) (.cst (.c (.bool false))),none,0⟩,
 ⟨(some 19),.mov (.tmp 18),none,0⟩,
 ⟨(some 20),.faddr 11 (.tmp 1),some (19,true),0⟩,
 ⟨(some 21),.load none (.tmp 20),some (19,true),0⟩,
 ⟨(some 22),.len (.tmp 21),some (19,true),0⟩,
 ⟨(some 23),.bin .leq (.tmp 22) (.cst (.c (.int .i64 7))),some (19,true),0⟩,
 ⟨(some 24),.pick (.tmp 19) (.tmp 23) (.cst (.c (.bool false))),none,0⟩,
 ⟨(some 25),.mov (.tmp 24),none,0⟩,
 ⟨(some 26),.load (some 12) (.tmp 1),some (25,true),0⟩,
 ⟨(some 27),.call 66 true [(.tmp 26)],some (25,true),0⟩,
 ⟨(some 28),.bin .neq (.tmp 27) (.cst (.c (.int .i64 0))),some (25,true),0⟩,
 ⟨(some 29),.mov (.tmp 28),some (25,true),0⟩,
 ⟨(some 30),.load (some 12) (.tmp 1),some (29,false),0⟩,
 ⟨(some 31),.call 67 true [(.tmp 30)],some (29,false),0⟩,
 ⟨(some 32),.bin .leq (.tmp 31) (.cst (.c (.int .i64 150))),some (29,false),0⟩,
 ⟨(some 33),.pick (.tmp 29) (.cst (.c (.bool true))) (.tmp 32),some (25,true),0⟩,
 ⟨(some 34),.pick (.tmp 25) (.tmp 33) (.cst (.c (.bool false))),none,0⟩,
 ⟨(some 2),.mov (.tmp 34),none,0⟩])
 .ret))⟩
def f16 : AFunc:=⟨171,[.tmp 0],false,
 (.seq (.region 0 [] [
 ⟨(some 0),.mov (.cst (.c (.bool false))),none,0⟩])
 (.seq (.region 0 [] [
 ⟨(some 20),.call 68 true [(.cst (.c (.int .i64 4))),(.cst (.c (.int .i64 0)))],none,0⟩,
 ⟨(some 21),.call 69 true [],none,0⟩,
 ⟨(some 22),.call 17 true [(.tmp 20),(.tmp 21)],none,0⟩,
 ⟨(some 19),.mov (.tmp 22),none,0⟩,
 ⟨(some 23),.extract 0 (.tmp 19),none,0⟩,
 ⟨(some 24),.extract 1 (.tmp 19),none,0⟩,
 ⟨(some 1),.mov (.tmp 23),none,0⟩,
 ⟨(some 2),.mov (.tmp 24),none,0⟩])
 (.seq (.region 0 [] [
 ⟨(some 26),.call 68 true [(.cst (.c (.int .i64 4))),(.cst (.c (.int .i64 0)))],none,0⟩,
 ⟨(some 27),.call 69 true [],none,0⟩,
 ⟨(some 28),.call 26 true [(.tmp 26),(.tmp 27),(.cst (.c (.int .i64 2))),(.cst (.c (.int .i64 2)))],none,0⟩,
 ⟨(some 25),.mov (.tmp 28),none,0⟩,
 ⟨(some 29),.extract 0 (.tmp 25),none,0⟩,
 ⟨(some 30),.extract 1 (.tmp 25),none,0⟩,
 ⟨(some 3),.mov (.tmp 29),none,0⟩,
 ⟨(some 4),.mov (.tmp 30),none,0⟩])
 (.seq (.region 1 [] [
 ⟨(some 32),.call 68 true [(.cst (.c (.int .i64 4))),(.cst (.c (.int .i64 0)))],none,0⟩,
 ⟨(some 33),.call 27 true [(.tmp 32),(.cst (.c (.int .i64 2))),(.cst (.c (.int .i64 2)))],none,0⟩,
 ⟨(some 31),.mov (.tmp 33),none,0⟩,
 ⟨(some 34),.extract 0 (.tmp 31),none,0⟩,
 ⟨(some 35),.extract 1 (.tmp 31),none,0⟩,
 ⟨(some 5),.alloc [(.int .i64 0),(.int .i64 0)],none,0⟩,
 ⟨none,.store (some 2) (.tmp 5) (.tmp 34),none,1⟩,
 ⟨(some 6),.mov (.tmp 35),none,1⟩])
 (.seq (.region 0 [] [
 ⟨(some 37),.call 68 true [(.cst (.c (.int .i64 4))),(.cst (.c (.int .i64 0)))],none,0⟩,
 ⟨(some 38),.call 34 true [(.tmp 37)],none,0⟩,
 ⟨(some 36),.mov (.tmp 38),none,0⟩,
 ⟨(some 39),.extract 0 (.tmp 36),none,0⟩,
 ⟨(some 40),.extract 1 (.tmp 36),none,0⟩,
 ⟨(some 7),.mov (.tmp 39),none,0⟩,
 ⟨(some 8),.mov (.tmp 40),none,0⟩])
 (.seq (.region 0 [] [
 ⟨(some 42),.call 68 true [(.cst (.c (.int .i64 4))),(.cst (.c (.int .i64 1)))],none,0⟩,
 ⟨(some 43),.call 35 true [(.tmp 42),(.cst (.c (.int .i64 2)))],none,0⟩,
 ⟨(some 41),.mov (.tmp 43),none,0⟩,
 ⟨(some 44),.extract 0 (.tmp 41),none,0⟩,
 ⟨(some 45),.extract 1 (.tmp 41),none,0⟩,
 ⟨(some 9),.mov (.tmp 44),none,0⟩,
 ⟨(some 10),.mov (.tmp 45),none,0⟩])
 (.seq (.region 0 [] [
 ⟨(some 47),.call 68 true [(.cst (.c (.int .i64 4))),(.cst (.c (.int .i64 0)))],none,0⟩,
 ⟨(some 48),.call 38 true [(.tmp 47)],none,0⟩,
 ⟨(some 46),.mov (.tmp 48),none,0⟩,
 ⟨(some 49),.extract 0 (.tmp 46),none,0⟩,
 ⟨(some 50),.extract 1 (.tmp 46),none,0⟩,
 ⟨(some 11),.mov (.tmp 49),none,0⟩,
 ⟨(some 12),.mov (.tmp 50),none,0⟩])
 (.seq (.region 1 [] [
 ⟨(some 52),.call 68 true [(.cst (.c (.int .i64 1))),(.cst (.c (.int .i64 0)))],none,0⟩,
 ⟨(some 53),.call 44 true [(.tmp 52)],none,0⟩,
 ⟨(some 51),.mov (.tmp 53),none,0⟩,
 ⟨(some 54),.extract 0 (.tmp 51),none,0⟩,
 ⟨(some 55),.extract 1 (.tmp 51),none,0⟩,
 ⟨(some 13),.alloc [(.int .i64 0),(.int .i64 0),(.int .i64 0),(.int .i64 0),.nils,(.int .i64 0),(.int .i64 0),.nils],none,0⟩,
 ⟨none,.store (some 8) (.tmp 13) (.tmp 54),none,1⟩,
 ⟨(some 14),.mov (.tmp 55),none,1⟩])
 (.seq (.region 0 [] [
 ⟨(some 57),.call 68 true [(.cst (.c (.int .i64 4))),(.cst (.c (.int .i64 2)))],none,0⟩,
 ⟨(some 58),.call 50 true [(.tmp 57)],none,0⟩,
 ⟨(some 56),.mov (.tmp 58),none,0⟩,
 ⟨(some 59),.extract 0 (.tmp 56),none,0⟩,
 ⟨(some 60),.extract 1 (.tmp 56),none,0⟩,
 ⟨(some 15),.mov (.tmp 59),none,0⟩,
 ⟨(some 16),.mov (.tmp 60),none,0⟩])
 (.seq (.region 0 [] [
 ⟨(some 62),.call 68 true [(.cst (.c (.int .i64 4))),(.cst (.c (.int .i64 2)))],none,0⟩,
 ⟨(some 63),.call 51 true [(.tmp 62)],none,0⟩,
 ⟨(some 61),.mov (.tmp 63),none,0⟩,
 ⟨(some 64),.extract 0 (.tmp 61),none,0⟩,
 ⟨(some 65),.extract 1 (.tmp 61),none,0⟩,
 ⟨(some 17),.mov (.tmp 64),none,0⟩,
 ⟨(some 18),.mov (.tmp 65),none,0⟩])
 (.seq (.region 2 [(8,11),(9,11),(10,11),(15,18),(16,18),(17,18),(26,27),(35,36),(49,52),(50,52),(51,52),(49,53),(50,53),(51,53),(49,54),(50,54),(51,54),(75,76),(84,85),(101,102)] [
 ⟨(some 66),.mov (.tmp 2),none,0⟩,
 ⟨(some 67),.bin .eql (.tmp 66) (.cst (.c (.int .i64 0))),none,0⟩,
 ⟨(some 68),.mov (.tmp 67),none,0⟩,
 ⟨(some 69),.mov (.tmp 1),some (68,true),0⟩,
 ⟨(some 70),.len (.tmp 69),some (68,true),0⟩,
 ⟨(some 71),.bin .eql (.tmp 70) (.cst (.c (.int .i64 4))),some (68,true),0⟩,
 ⟨(some 72),.pick (.tmp 68) (.tmp 71) (.cst (.c (.bool false))),none,0⟩,
 ⟨(some 73),.mov (.tmp 72),none,0⟩,
 ⟨(some 74),.mov (.tmp 1),some (73,true),0⟩,
 ⟨(some 75),.iaddr 2 (.tmp 74) (.cst (.c (.int .i64 1))),some (73,true),0⟩,
 ⟨(some 76),.load (some 2) (.tmp 75),some (73,true),0⟩,
 ⟨(some 77),.build [(.int .i64 0),(.int .i64 0)] [(1,1,(.cst (.c (.int .i64 90))))],some (73,true),0⟩,
 ⟨(some 78),.eqA false [(some .i64),(some .i64)] (.tmp 76) (.tmp 77),some (73,true),0⟩,
 ⟨(some 79),.pick (.tmp 73) (.tmp 78) (.cst (.c (.bool false))),none,0⟩,
 ⟨(some 80),.mov (.tmp 79),none,0⟩,
 ⟨(some 81),.mov (.tmp 1),some (80,true),0⟩,
 ⟨(some 82),.iaddr 2 (.tmp 81) (.cst (.c (.int .i64 2))),some (80,true),0⟩,
 ⟨(some 83),.load (some 2) (.tmp 82),some (80,true),0⟩,
 ⟨(some 84),.build [(.int .i64 0),(.int .i64 0)] [(0,1,(.cst (.c (.int .i64 2)))),(1,1,(.cst (.c (.int .i64 95))))],some (80,true),0⟩,
 ⟨(some 85),.eqA false [(some .i64),(some .i64)] (.tmp 83) (.tmp 84),some (80,true),0⟩,
 ⟨(some 86),.pick (.tmp 80) (.tmp 85) (.cst (.c (.bool false))),none,0⟩,
 ⟨(some 87),.mov (.tmp 86),none,0⟩,
 ⟨(some 88),.mov (.tmp 4),some (87,true),0⟩,
 ⟨(some 89),.bin .eql (.tmp 88) (.cst (.c (.int .i64 0))),some (87,true),0⟩,
 ⟨(some 90),.pick (.tmp 87) (.tmp 89) (.cst (.c (.bool false))),none,0⟩,
 ⟨(some 91),.mov (.tmp 90),none,0⟩,
 ⟨(some 92),.mov (.tmp 3),some (91,true),0⟩,
 ⟨(some 93),.bslice 1 2 [(.int .i64 0)] [(0,(.cst (.c (.int .i64 9)))),(1,(.cst (.c (.int .i64 9))))],some (91,true),0⟩,
 ⟨(some 94),.call 30 true [(.tmp 92),(.tmp 93)],some (91,true),1⟩,
 ⟨(some 95),.pick (.tmp 91) (.tmp 94) (.cst (.c (.bool false))),none,1⟩,
 ⟨(some 96),.mov (.tmp 95),none,1⟩,
 ⟨(some 97),.mov (.tmp 6),some (96,true),1⟩,
 ⟨(some 98),.bin .eql (.tmp 97) (.cst (.c (.int .i64 0))),some (96,true),1⟩,
 ⟨(some 99),.pick (.tmp 96) (.tmp 98) (.cst (.c (.bool false))),none,1⟩,
 ⟨(some 100),.mov (.tmp 99),none,1⟩,
 ⟨(some 101),.load (some 2) (.tmp 5),some (100,true),1⟩,
 ⟨(some 102),.call 70 true [(.cst (.c (.int .i64 8))),(.cst (.c (.int .i64 18)))],some (100,true),1⟩,
 ⟨(some 103),.eqA false [(some .i64),(some .i64)] (.tmp 101) (.tmp 102),some (100,true),1⟩,
 ⟨(some 104),.pick (.tmp 100) (.tmp 103) (.cst (.c (.bool false))),none,1⟩,
 ⟨(some 105),.mov (.tmp 104),none,1⟩,
 ⟨(some 106),.mov (.tmp 8),some (105,true),1⟩,
 ⟨(some 107),.bin .eql (.tmp 106) (.cst (.c (.int .i64 0))),some (105,true),1⟩,
 ⟨(some 108),.pick (.tmp 105) (.tmp 107) (.cst (.c (.bool false))),none,1⟩,
 ⟨(some 109),.mov (.tmp 108),none,1⟩,
 ⟨(some 110),.mov (.tmp 7),some (109,true),1⟩,
 ⟨(some 111),.len (.tmp 110),some (109,true),1⟩,
 ⟨(some 112),.bin .eql (.tmp 111) (.cst (.c (.int .i64 4))),some (109,true),1⟩,
 ⟨(some 113),.pick (.tmp 109) (.tmp 112) (.cst (.c (.bool false))),none,1⟩,
 ⟨(some 114),.mov (.tmp 113),none,1⟩,
 ⟨(some 115),.mov (.tmp 7),some (114,true),1⟩,
 ⟨(some 116),.iaddr 4 (.tmp 115) (.cst (.c (.int .i64 2))),some (114,true),1⟩,
 ⟨(some 117),.load (some 4) (.tmp 116),some (114,true),1⟩,
 ⟨(some 118),.call 70 true [(.cst (.c (.int .i64 2))),(.cst (.c (.int .i64 6)))],some (114,true),1⟩,
 ⟨(some 119),.call 70 true [(.cst (.c (.int .i64 95))),(.cst (.c (.int .i64 95)))],some (114,true),1⟩,
 ⟨(some 120),.build [(.int .i64 0),(.int .i64 0),(.int .i64 0),(.int .i64 0)] [(0,2,(.tmp 118)),(2,2,(.tmp 119))],some (114,true),1⟩,
 ⟨(some 121),.eqA false [(some .i64),(some .i64),(some .i64),(some .i64)] (.tmp 117) (.tmp 120),some (114,true),1⟩,
 ⟨(some 122),.pick (.tmp 114) (.tmp 121) (.cst (.c (.bool false))),none,1⟩,
 ⟨(some 123),.mov (.tmp 122),none,1⟩,
 ⟨(some 124),.mov (.tmp 10),some (123,true),1⟩,
 ⟨(some 125),.bin .eql (.tmp 124) (.cst (.c (.int .i64 0))),some (123,true),1⟩,
 ⟨(some 126),.pick (.tmp 123) (.tmp 125) (.cst (.c (.bool false))),none,1⟩,
 ⟨(some 127),.mov (.tmp 126),none,1⟩,
 ⟨(some 128),.mov (.tmp 9),some (127,true),1⟩,
 ⟨(some 129),.bin .eql (.tmp 128) (.cst (.c (.int .i64 2))),some (127,true),1⟩,
 ⟨(some 130),.pick (.tmp 127) (.tmp 129) (.cst (.c (.bool false))),none,1⟩,
 ⟨(some 131),.mov (.tmp 130),none,1⟩,
 ⟨(some 132),.mov (.tmp 12),some (131,true),1⟩,
 ⟨(some 133),.bin .eql (.tmp 132) (.cst (.c (.int .i64 0))),some (131,true),1⟩,
 ⟨(some 134),.pick (.tmp 131) (.tmp 133) (.cst (.c (.bool false))),none,1⟩,
 ⟨(some 135),.mov (.tmp 134),none,1⟩,
 ⟨(some 136),.mov (.tmp 11),some (135,true),1⟩,
 ⟨(some 137),.len (.tmp 136),some (135,true),1⟩,
 ⟨(some 138),.bin .eql (.tmp 137) (.cst (.c (.int .i64 4))),some (135,true),1⟩,
 ⟨(some 139),.pick (.tmp 135) (.tmp 138) (.cst (.c (.bool false))),none,1⟩,
 ⟨(some 140),.mov (.tmp 139),none,1⟩,
 ⟨(some 141),.call 68 true [(.cst (.c (.int .i64 4))),(.cst (.c (.int .i64 0)))],some (140,true),1⟩,
 ⟨(some 142),.mov (.tmp 11),some (140,true),1⟩,
 ⟨(some 143),.call 39 true [(.tmp 141),(.tmp 142)],some (140,true),1⟩,
 ⟨(some 144),.pick (.tmp 140) (.tmp 143) (.cst (.c (.bool false))),none,1⟩,
 ⟨(some 145),.mov (.tmp 144),none,1⟩,
 ⟨(some 146),.mov (.tmp 14),some (145,true),1⟩,
 ⟨(some 147),.bin .eql (.tmp 146) (.cst (.c (.int .i64 0))),some (145,true),1⟩,
 ⟨(some 148),.pick (.tmp 145) (.tmp 147) (.cst (.c (.bool false))),none,1⟩,
 ⟨(some 149),.mov (.tmp 148),none,1⟩,
 ⟨(some 150),.call 68 true [(.cst (.c (.int .i64 1))),(.cst (.c (.int .i64 0)))],some (149,true),1⟩,
 ⟨(some 151),.load (some 8) (.tmp 13),some (149,true),1⟩,
 ⟨(some 152),.call 45 true [(.tmp 150),(.tmp 151)],some (149,true),1⟩,
 ⟨(some 153),.pick (.tmp 149) (.tmp 152) (.cst (.c (.bool false))),none,1⟩,
 ⟨(some 154),.mov (.tmp 153),none,1⟩,
 ⟨(some 155),.mov (.tmp 16),some (154,true),1⟩,
 ⟨(some 156),.bin .eql (.tmp 155) (.cst (.c (.int .i64 0))),some (154,true),1⟩,
 ⟨(some 157),.pick (.tmp 154) (.tmp 156) (.cst (.c (.bool false))),none,1⟩,
 ⟨(some 158),.mov (.tmp 157),none,1⟩,
 ⟨(some 159),.mov (.tmp 15),some (158,true),1⟩,
 ⟨(some 160),.bin .eql (.tmp 159) (.cst (.c (.int .i64 1))),some (158,true),1⟩,
 ⟨(some 161),.pick (.tmp 158) (.tmp 160) (.cst (.c (.bool false))),none,1⟩,
 ⟨(some 162),.mov (.tmp 161),none,1⟩,
 ⟨(some 163),.mov (.tmp 18),some (162,true),1⟩,
 ⟨(some 164),.bin .eql (.tmp 163) (.cst (.c (.int .i64 0))),some (162,true),1⟩,
 ⟨(some 165),.pick (.tmp 162) (.tmp 164) (.cst (.c (.bool false))),none,1⟩,
 ⟨(some 166),.mov (.tmp 165),none,1⟩,
 ⟨(some 167),.mov (.tmp 17),some (166,true),1⟩,
 ⟨(some 168),.bslice 1 1 [(.int .i64 0)] [(0,(.cst (.c (.int .i64 0))))],some (166,true),1⟩,
 ⟨(some 169),.call 30 true [(.tmp 167),(.tmp 168)],some (166,true),2⟩,
 ⟨(some 170),.pick (.tmp 166) (.tmp 169) (.cst (.c (.bool false))),none,2⟩,
 ⟨(some 0),.mov (.tmp 170),none,2⟩])
 .ret)))))))))))⟩
def f17 : AFunc:=⟨20,[.tmp 4,.tmp 5],false,
 (.seq (.region 2 [] [
 ⟨(some 2),.box (.tmp 0),none,0⟩,
 ⟨(some 3),.box (.tmp 1),none,1⟩,
 ⟨(some 4),.mov (.cst (.c .nils)),none,2⟩,
 ⟨(some 5),.mov (.cst (.c (.int .i64 0))),none,2⟩])
 (.seq (.seq (.region 0 [] [
 ⟨(some 7),.load (some 12) (.tmp 2),none,0⟩,
 ⟨(some 8),.call 22 true [(.tmp 7)],none,0⟩,
 ⟨(some 6),.mov (.tmp 8),none,0⟩])
 (.seq (.region 0 [] [
 ⟨(some 9),.mov (.tmp 6),none,0⟩,
 ⟨(some 10),.bin .neq (.tmp 9) (.cst (.c (.int .i64 0))),none,0⟩])
 (.cond (.tmp 10)
 (.seq (.region 0 [] [
 ⟨(some 11),.mov (.tmp 6),none,0⟩,
 ⟨(some 4),.mov (.cst (.c .nils)),none,0⟩,
 ⟨(some 5),.mov (.tmp 11),none,0⟩])
 .ret)
 .skip)))
 (.seq (.seq (.region 0 [] [
 ⟨(some 12),.load (some 12) (.tmp 2),none,0⟩,
 ⟨(some 13),.load (some 3) (.tmp 3),none,0⟩,
 ⟨(some 14),.call 71 true [(.tmp 12),(.tmp 13)],none,0⟩,
 ⟨(some 15),.not (.tmp 14),none,0⟩])
 (.cond (.tmp 15)
 (.seq (.region 0 [] [
 ⟨(some 4),.mov (.cst (.c .nils)),none,0⟩,
 ⟨(some 5),.mov (.cst (.c (.int .i64 2))),none,0⟩])
 .ret)
 .skip))
 (.seq (.region 0 [(0,2),(1,2)] [
 ⟨(some 16),.load (some 12) (.tmp 2),none,0⟩,
 ⟨(some 17),.call 72 false [(.tmp 16)],none,0⟩,
 ⟨(some 18),.load (some 3) (.tmp 3),none,0⟩,
 ⟨(some 19),.call 73 false [(.tmp 17),(.tmp 18)],none,0⟩,
 ⟨(some 4),.mov (.tmp 19),none,0⟩,
 ⟨(some 5),.mov (.cst (.c (.int .i64 0))),none,0⟩])
 .ret))))⟩
def f18 : AFunc:=⟨95,[.cell 2 (some 12)],false,
 (.seq (.region 2 [] [
 ⟨(some 1),.box (.tmp 0),none,0⟩,
 ⟨(some 2),.alloc [(.int .i64 0),(.int .i64 0),(.int .i64 0),(.int .i64 0),(.int .i64 0),(.int .i64 0),(.int .i64 0),(.int .i64 0),.nils,.nils,.nils,.nils],none,1⟩])
 (.seq (.region 1 [(0,2),(1,2),(0,3),(1,3),(0,4),(1,4),(2,4),(3,4),(0,5),(1,5),(2,5),(3,5),(0,6),(1,6),(2,6),(3,6),(0,7),(1,7),(2,7),(3,7),(4,7),(5,7),(6,7),(0,8),(1,8),(2,8),(3,8),(4,8),(5,8),(6,8),(0,9),(1,9),(2,9),(3,9),(0,10),(1,10),(2,10),(3,10),(4,10),(5,10),(6,10),(7,10),(8,10),(9,10),(0,11),(1,11),(2,11),(3,11),(4,11),(5,11),(6,11),(7,11),(8,11),(9,11),(0,12),(1,12),(2,12),(3,12),(4,12),(5,12),(6,12),(7,12),(8,12),(9,12),(10,12),(11,12),(0,13),(1,13),(2,13),(3,13),(4,13),(5,13),(6,13),(7,13),(8,13),(9,13),(10,13),(11,13),(0,14),(1,14),(2,14),(3,14),(4,14),(5,14),(6,14),(7,14),(8,14),(9,14),(10,14),(11,14),(12,14),(13,14),(0,15),(1,15),(2,15),(3,15),(4,15),(5,15),(6,15),(7,15),(8,15),(9,15),(10,15),(11,15),(12,15),(13,15),(0,16),(1,16),(2,16),(3,16),(10,16),(11,16),(12,16),(13,16),(0,18),(1,18),(2,18),(3,18),(4,18),(5,18),(6,18),(7,18),(8,18),(9,18),(10,18),(11,18),(12,18),(13,18),(14,18),(15,18),(16,18),(17,18)] [
 ⟨(some 9),.faddr 0 (.tmp 1),none,0⟩,
 ⟨(some 10),.load none (.tmp 9),none,0⟩,
 ⟨(some 11),.faddr 1 (.tmp 1),none,0⟩,
 ⟨(some 12),.load none (.tmp 11),none,0⟩,
 ⟨(some 13),.faddr 2 (.tmp 1),none,0⟩,
 ⟨(some 14),.load (some 2) (.tmp 13),none,0⟩,
 ⟨(some 15),.call 32 true [(.tmp 14)],none,0⟩,
 ⟨(some 16),.faddr 4 (.tmp 1),none,0⟩,
 ⟨(some 17),.load (some 2) (.tmp 16),none,0⟩,
 ⟨(some 18),.call 32 true [(.tmp 17)],none,0⟩,
 ⟨(some 19),.faddr 6 (.tmp 1),none,0⟩,
 ⟨(some 20),.load none (.tmp 19),none,0⟩,
 ⟨(some 21),.faddr 7 (.tmp 1),none,0⟩,
 ⟨(some 22),.load none (.tmp 21),none,0⟩,
 ⟨(some 23),.faddr 10 (.tmp 1),none,0⟩,
 ⟨(some 24),.load none (.tmp 23),none,0⟩,
 ⟨(some 25),.call 40 true [(.tmp 24)],none,0⟩,
 ⟨(some 26),.build [(.int .i64 0),(.int .i64 0),(.int .i64 0),(.int .i64 0),(.int .i64 0),(.int .i64 0),(.int .i64 0),(.int .i64 0),.nils,.nils,.nils,.nils] [(0,1,(.tmp 10)),(1,1,(.tmp 12)),(2,2,(.tmp 15)),(4,2,(.tmp 18)),(6,1,(.tmp 20)),(7,1,(.tmp 22)),(10,1,(.tmp 25))],none,0⟩,
 ⟨(some 3),.alloc [(.int .i64 0),(.int .i64 0),(.int .i64 0),(.int .i64 0),(.int .i64 0),(.int .i64 0),(.int .i64 0),(.int .i64 0),.nils,.nils,.nils,.nils],none,0⟩,
 ⟨none,.store (some 12) (.tmp 3) (.tmp 26),none,1⟩])
 (.seq (.seq (.region 0 [] [
 ⟨(some 4),.mov (.cst (.c (.int .i64 0))),none,0⟩])
 (.block 0 (.loop ⟨[27,28,29,30,31,32,33,34,35,36,37,38,39,40,41,42,43,44],true,[(3,(some 8),2)]⟩
 (.seq (.seq (.region 0 [] [
 ⟨(some 27),.mov (.tmp 4),none,0⟩,
 ⟨(some 28),.faddr 8 (.tmp 1),none,0⟩,
 ⟨(some 29),.load none (.tmp 28),none,0⟩,
 ⟨(some 30),.len (.tmp 29),none,0⟩,
 ⟨(some 31),.bin .lss (.tmp 27) (.tmp 30),none,0⟩])
 (.cond (.tmp 31)
 .skip
 (.exit 0)))
 (.seq (.block 1 (.region 2 [(0,2),(1,2),(0,3),(1,3),(0,4),(1,4),(2,4),(3,4),(0,5),(1,5),(0,6),(1,6),(0,7),(1,7),(0,8),(1,8)] [
 ⟨(some 34),.faddr 8 (.tmp 3),none,0⟩,
 ⟨(some 35),.load none (.tmp 34),none,0⟩,
 ⟨(some 36),.faddr 8 (.tmp 1),none,0⟩,
 ⟨(some 37),.load none (.tmp 36),none,0⟩,
 ⟨(some 38),.mov (.tmp 4),none,0⟩,
 ⟨(some 39),.iaddr 2 (.tmp 37) (.tmp 38),none,0⟩,
 ⟨(some 40),.load (some 2) (.tmp 39),none,0⟩,
 ⟨(some 41),.call 32 true [(.tmp 40)],none,0⟩,
 ⟨(some 42),.bslice 2 1 [(.int .i64 0),(.int .i64 0)] [(0,(.tmp 41))],none,0⟩,
 ⟨(some 43),.append 2 16 (.tmp 35) (.tmp 42),none,1⟩,
 ⟨(some 44),.faddr 8 (.tmp 3),none,2⟩,
 ⟨none,.store none (.tmp 44) (.tmp 43),none,2⟩]))
 (.region 0 [] [
 ⟨(some 32),.mov (.tmp 4),none,0⟩,
 ⟨(some 33),.bin .add (.tmp 32) (.cst (.c (.int .i64 1))),none,0⟩,
 ⟨(some 4),.mov (.tmp 33),none,0⟩]))))))
 (.seq (.seq (.region 0 [] [
 ⟨(some 5),.mov (.cst (.c (.int .i64 0))),none,0⟩])
 (.block 2 (.loop ⟨[6,45,46,47,48,49,50,51,52,53,54,55,56,57,58,59,60,61,62,63,64,65,66,67,68],true,[(3,(some 9),3)]⟩
 (.seq (.seq (.region 0 [] [
 ⟨(some 45),.mov (.tmp 5),none,0⟩,
 ⟨(some 46),.faddr 9 (.tmp 1),none,0⟩,
 ⟨(some 47),.load none (.tmp 46),none,0⟩,
 ⟨(some 48),.len (.tmp 47),none,0⟩,
 ⟨(some 49),.bin .lss (.tmp 45) (.tmp 48),none,0⟩])
 (.cond (.tmp 49)
 .skip
 (.exit 2)))
 (.seq (.block 3 (.seq (.region 1 [] [
 ⟨(some 52),.faddr 9 (.tmp 1),none,0⟩,
 ⟨(some 53),.load none (.tmp 52),none,0⟩,
 ⟨(some 54),.mov (.tmp 5),none,0⟩,
 ⟨(some 55),.iaddr 3 (.tmp 53) (.tmp 54),none,0⟩,
 ⟨(some 56),.load (some 3) (.tmp 55),none,0⟩,
 ⟨(some 6),.alloc [(.int .i64 0),(.int .i64 0),(.int .i64 0)],none,0⟩,
 ⟨none,.store (some 3) (.tmp 6) (.tmp 56),none,1⟩])
 (.region 2 [] [
 ⟨(some 57),.faddr 9 (.tmp 3),none,0⟩,
 ⟨(some 58),.load none (.tmp 57),none,0⟩,
 ⟨(some 59),.faddr 0 (.tmp 6),none,0⟩,
 ⟨(some 60),.load none (.tmp 59),none,0⟩,
 ⟨(some 61),.faddr 1 (.tmp 6),none,0⟩,
 ⟨(some 62),.load none (.tmp 61),none,0⟩,
 ⟨(some 63),.faddr 2 (.tmp 6),none,0⟩,
 ⟨(some 64),.load none (.tmp 63),none,0⟩,
 ⟨(some 65),.build [(.int .i64 0),(.int .i64 0),(.int .i64 0)] [(0,1,(.tmp 60)),(1,1,(.tmp 62)),(2,1,(.tmp 64))],none,0⟩,
 ⟨(some 66),.bslice 3 1 [(.int .i64 0),(.int .i64 0),(.int .i64 0)] [(0,(.tmp 65))],none,0⟩,
 ⟨(some 67),.append 3 24 (.tmp 58) (.tmp 66),none,1⟩,
 ⟨(some 68),.faddr 9 (.tmp 3),none,2⟩,
 ⟨none,.store none (.tmp 68) (.tmp 67),none,2⟩])))
 (.region 0 [] [
 ⟨(some 50),.mov (.tmp 5),none,0⟩,
 ⟨(some 51),.bin .add (.tmp 50) (.cst (.c (.int .i64 1))),none,0⟩,
 ⟨(some 5),.mov (.tmp 51),none,0⟩]))))))
 (.seq (.seq (.region 0 [] [
 ⟨(some 7),.mov (.cst (.c (.int .i64 0))),none,0⟩])
 (.block 4 (.loop ⟨[8,69,70,71,72,73,74,75,76,77,78,79,80,81,82,83,84,85,86,87,88,89,90,91,92,93],true,[(3,(some 11),4)]⟩
 (.seq (.seq (.region 0 [] [
 ⟨(some 69),.mov (.tmp 7),none,0⟩,
 ⟨(some 70),.faddr 11 (.tmp 1),none,0⟩,
 ⟨(some 71),.load none (.tmp 70),none,0⟩,
 ⟨(some 72),.len (.tmp 71),none,0⟩,
 ⟨(some 73),.bin .lss (.tmp 69) (.tmp 72),none,0⟩])
 (.cond (.tmp 73)
 .skip
 (.exit 4)))
 (.seq (.block 5 (.seq (.region 1 [] [
 ⟨(some 76),.faddr 11 (.tmp 1),none,0⟩,
 ⟨(some 77),.load none (.tmp 76),none,0⟩,
 ⟨(some 78),.mov (.tmp 7),none,0⟩,
 ⟨(some 79),.iaddr 4 (.tmp 77) (.tmp 78),none,0⟩,
 ⟨(some 80),.load (some 4) (.tmp 79),none,0⟩,
 ⟨(some 8),.alloc [(.int .i64 0),(.bool false),(.int .i64 0),(.int .i64 0)],none,0⟩,
 ⟨none,.store (some 4) (.tmp 8) (.tmp 80),none,1⟩])
 (.region 2 [(0,2),(1,2),(0,3),(1,3),(0,4),(1,4),(2,4),(3,4),(0,5),(1,5),(2,5),(3,5),(0,6),(1,6),(2,6),(3,6),(4,6),(5,6),(0,7),(1,7),(2,7),(3,7),(4,7),(5,7),(0,8),(1,8),(2,8),(3,8),(4,8),(5,8),(0,9),(1,9),(0,10),(1,10)] [
 ⟨(some 81),.faddr 11 (.tmp 3),none,0⟩,
 ⟨(some 82),.load none (.tmp 81),none,0⟩,
 ⟨(some 83),.faddr 0 (.tmp 8),none,0⟩,
 ⟨(some 84),.load none (.tmp 83),none,0⟩,
 ⟨(some 85),.faddr 1 (.tmp 8),none,0⟩,
 ⟨(some 86),.load none (.tmp 85),none,0⟩,
 ⟨(some 87),.faddr 2 (.tmp 8),none,0⟩,
 ⟨(some 88),.load (some 2) (.tmp 87),none,0⟩,
 ⟨(some 89),.call 32 true [(.tmp 88)],none,0⟩,
 ⟨(some 90),.build [(.int .i64 0),(.bool false),(.int .i64 0),(.int .i64 0)] [(0,1,(.tmp 84)),(1,1,(.tmp 86)),(2,2,(.tmp 89))],none,0⟩,
 ⟨(some 91),.bslice 4 1 [(.int .i64 0),(.bool false),(.int .i64 0),(.int .i64 0)] [(0,(.tmp 90))],none,0⟩,
 ⟨(some 92),.append 4 32 (.tmp 82) (.tmp 91),none,1⟩,
 ⟨(some 93),.faddr 11 (.tmp 3),none,2⟩,
 ⟨none,.store none (.tmp 93) (.tmp 92),none,2⟩])))
 (.region 0 [] [
 ⟨(some 74),.mov (.tmp 7),none,0⟩,
 ⟨(some 75),.bin .add (.tmp 74) (.cst (.c (.int .i64 1))),none,0⟩,
 ⟨(some 7),.mov (.tmp 75),none,0⟩]))))))
 (.seq (.region 0 [] [
 ⟨(some 94),.load (some 12) (.tmp 3),none,0⟩,
 ⟨none,.store (some 12) (.tmp 2) (.tmp 94),none,0⟩])
 .ret))))))⟩
def f20 : AFunc:=⟨23,[.tmp 4],false,
 (.seq (.region 2 [] [
 ⟨(some 2),.box (.tmp 0),none,0⟩,
 ⟨(some 3),.box (.tmp 1),none,1⟩,
 ⟨(some 4),.mov (.cst (.c (.bool false))),none,2⟩])
 (.seq (.seq (.region 0 [] [
 ⟨(some 6),.load (some 12) (.tmp 2),none,0⟩,
 ⟨(some 7),.call 22 true [(.tmp 6)],none,0⟩,
 ⟨(some 8),.bin .neq (.tmp 7) (.cst (.c (.int .i64 0))),none,0⟩,
 ⟨(some 9),.mov (.tmp 8),none,0⟩,
 ⟨(some 10),.load (some 12) (.tmp 2),some (9,false),0⟩,
 ⟨(some 11),.load (some 3) (.tmp 3),some (9,false),0⟩,
 ⟨(some 12),.call 71 true [(.tmp 10),(.tmp 11)],some (9,false),0⟩,
 ⟨(some 13),.not (.tmp 12),some (9,false),0⟩,
 ⟨(some 14),.pick (.tmp 9) (.cst (.c (.bool true))) (.tmp 13),none,0⟩])
 (.cond (.tmp 14)
 (.seq (.region 0 [] [
 ⟨(some 4),.mov (.cst (.c (.bool false))),none,0⟩])
 .ret)
 .skip))
 (.seq (.region 1 [(0,2),(1,2),(0,4),(2,4)] [
 ⟨(some 15),.load (some 12) (.tmp 2),none,0⟩,
 ⟨(some 16),.call 72 false [(.tmp 15)],none,0⟩,
 ⟨(some 17),.load (some 3) (.tmp 3),none,0⟩,
 ⟨(some 18),.call 73 false [(.tmp 16),(.tmp 17)],none,0⟩,
 ⟨(some 5),.alloc [.nils],none,0⟩,
 ⟨none,.store none (.tmp 5) (.tmp 18),none,1⟩])
 (.seq (.region 0 [] [
 ⟨(some 19),.faddr 11 (.tmp 2),none,0⟩,
 ⟨(some 20),.load none (.tmp 19),none,0⟩,
 ⟨(some 21),.mkfn 75 none [(.tmp 5)],none,0⟩,
 ⟨(some 22),.call 74 false [(.tmp 20),(.tmp 21)],none,0⟩,
 ⟨(some 4),.mov (.tmp 22),none,0⟩])
 .ret))))⟩
def f22 : AFunc:=⟨88,[.tmp 2],false,
 (.seq (.region 1 [] [
 ⟨(some 1),.box (.tmp 0),none,0⟩,
 ⟨(some 2),.mov (.cst (.c (.int .i64 0))),none,1⟩])
 (.seq (.region 0 [] [
 ⟨(some 7),.load (some 12) (.tmp 1),none,0⟩,
 ⟨(some 8),.mkfn 77 (some (.tmp 7)) [],none,0⟩,
 ⟨(some 3),.mov (.tmp 8),none,0⟩])
 (.seq (.block 0 (.seq (.region 0 [] [
 ⟨(some 10),.faddr 0 (.tmp 1),none,0⟩,
 ⟨(some 11),.load none (.tmp 10),none,0⟩,
 ⟨(some 12),.bin .gtr (.tmp 11) (.cst (.c (.int .i64 7))),none,0⟩,
 ⟨(some 13),.mov (.tmp 12),none,0⟩,
 ⟨(some 14),.faddr 11 (.tmp 1),some (13,false),0⟩,
 ⟨(some 15),.load none (.tmp 14),some (13,false),0⟩,
 ⟨(some 16),.len (.tmp 15),some (13,false),0⟩,
 ⟨(some 17),.bin .gtr (.tmp 16) (.cst (.c (.int .i64 5))),some (13,false),0⟩,
 ⟨(some 18),.pick (.tmp 13) (.cst (.c (.bool true))) (.tmp 17),none,0⟩,
 ⟨(some 9),.mov (.tmp 18),none,0⟩])
 (.cond (.tmp 9)
 (.seq (.region 0 [] [
 ⟨(some 2),.mov (.cst (.c (.int .i64 3))),none,0⟩])
 .ret)
 (.seq (.region 0 [(4,7),(5,7),(6,7),(4,8),(5,8),(6,8),(12,15),(13,15),(14,15),(12,16),(13,16),(14,16),(20,23),(21,23),(22,23),(20,24),(21,24),(22,24),(46,48),(47,48)] [
 ⟨(some 20),.load (some 12) (.tmp 1),none,0⟩,
 ⟨(some 21),.call 78 true [(.tmp 20)],none,0⟩,
 ⟨(some 22),.not (.tmp 21),none,0⟩,
 ⟨(some 23),.mov (.tmp 22),none,0⟩,
 ⟨(some 24),.faddr 8 (.tmp 1),some (23,false),0⟩,
 ⟨(some 25),.load none (.tmp 24),some (23,false),0⟩,
 ⟨(some 26),.len (.tmp 25),some (23,false),0⟩,
 ⟨(some 27),.load (some 12) (.tmp 1),some (23,false),0⟩,
 ⟨(some 28),.call 79 true [(.tmp 27)],some (23,false),0⟩,
 ⟨(some 29),.bin .neq (.tmp 26) (.tmp 28),some (23,false),0⟩,
 ⟨(some 30),.pick (.tmp 23) (.cst (.c (.bool true))) (.tmp 29),none,0⟩,
 ⟨(some 31),.mov (.tmp 30),none,0⟩,
 ⟨(some 32),.faddr 9 (.tmp 1),some (31,false),0⟩,
 ⟨(some 33),.load none (.tmp 32),some (31,false),0⟩,
 ⟨(some 34),.len (.tmp 33),some (31,false),0⟩,
 ⟨(some 35),.load (some 12) (.tmp 1),some (31,false),0⟩,
 ⟨(some 36),.call 79 true [(.tmp 35)],some (31,false),0⟩,
 ⟨(some 37),.bin .neq (.tmp 34) (.tmp 36),some (31,false),0⟩,
 ⟨(some 38),.pick (.tmp 31) (.cst (.c (.bool true))) (.tmp 37),none,0⟩,
 ⟨(some 39),.mov (.tmp 38),none,0⟩,
 ⟨(some 40),.faddr 10 (.tmp 1),some (39,false),0⟩,
 ⟨(some 41),.load none (.tmp 40),some (39,false),0⟩,
 ⟨(some 42),.len (.tmp 41),some (39,false),0⟩,
 ⟨(some 43),.load (some 12) (.tmp 1),some (39,false),0⟩,
 ⟨(some 44),.call 79 true [(.tmp 43)],some (39,false),0⟩,
 ⟨(some 45),.bin .neq (.tmp 42) (.tmp 44),some (39,false),0⟩,
 ⟨(some 46),.pick (.tmp 39) (.cst (.c (.bool true))) (.tmp 45),none,0⟩,
 ⟨(some 47),.mov (.tmp 46),none,0⟩,
 ⟨(some 48),.faddr 8 (.tmp 1),some (47,false),0⟩,
 ⟨(some 49),.load none (.tmp 48),some (47,false),0⟩,
 ⟨(some 50),.call 80 false [(.tmp 49),(.cst (.c (.fn 81 false [] [])))],some (47,false),0⟩,
 ⟨(some 51),.not (.tmp 50),some (47,false),0⟩,
 ⟨(some 52),.pick (.tmp 47) (.cst (.c (.bool true))) (.tmp 51),none,0⟩,
 ⟨(some 53),.mov (.tmp 52),none,0⟩,
 ⟨(some 54),.faddr 9 (.tmp 1),some (53,false),0⟩,
 ⟨(some 55),.load none (.tmp 54),some (53,false),0⟩,
 ⟨(some 56),.call 82 false [(.tmp 55),(.cst (.c (.fn 83 false [] [])))],some (53,false),0⟩,
 ⟨(some 57),.not (.tmp 56),some (53,false),0⟩,
 ⟨(some 58),.pick (.tmp 53) (.cst (.c (.bool true))) (.tmp 57),none,0⟩,
 ⟨(some 59),.mov (.tmp 58),none,0⟩,
 ⟨(some 60),.faddr 10 (.tmp 1),some (59,false),0⟩,
 ⟨(some 61),.load none (.tmp 60),some (59,false),0⟩,
 ⟨(some 62),.call 84 false [(.tmp 61),(.cst (.c (.fn 85 false [] [])))],some (59,false),0⟩,
 ⟨(some 63),.not (.tmp 62),some (59,false),0⟩,
 ⟨(some 64),.pick (.tmp 59) (.cst (.c (.bool true))) (.tmp 63),none,0⟩,
 ⟨(some 65),.mov (.tmp 64),none,0⟩,
 ⟨(some 66),.faddr 11 (.tmp 1),some (65,false),0⟩,
 ⟨(some 67),.load none (.tmp 66),some (65,false),0⟩,
 ⟨(some 68),.mov (.tmp 3),some (65,false),0⟩,
 ⟨(some 69),.call 74 false [(.tmp 67),(.tmp 68)],some (65,false),0⟩,
 ⟨(some 70),.not (.tmp 69),some (65,false),0⟩,
 ⟨(some 71),.pick (.tmp 65) (.cst (.c (.bool true))) (.tmp 70),none,0⟩,
 ⟨(some 19),.mov (.tmp 71),none,0⟩])
 (.cond (.tmp 19)
 (.seq (.region 0 [] [
 ⟨(some 2),.mov (.cst (.c (.int .i64 1))),none,0⟩])
 .ret)
 .skip)))))
 (.seq (.region 0 [] [
 ⟨(some 4),.mov (.cst (.c (.int .i64 1))),none,0⟩])
 (.seq (.seq (.region 0 [] [
 ⟨(some 72),.load (some 12) (.tmp 1),none,0⟩,
 ⟨(some 73),.call 86 true [(.tmp 72)],none,0⟩,
 ⟨(some 74),.len (.tmp 73),none,0⟩,
 ⟨(some 75),.mov (.cst (.c (.int .i64 0))),none,0⟩])
 (.block 1 (.loop ⟨[6,76,77,78,79,80,81,82,83,84,85],false,[]⟩
 (.seq (.region 0 [] [
 ⟨(some 76),.bin .lss (.tmp 75) (.tmp 74),none,0⟩])
 (.seq (.cond (.tmp 76)
 .skip
 (.exit 1))
 (.seq (.block 2 (.seq (.region 1 [] [
 ⟨(some 77),.iaddr 2 (.tmp 73) (.tmp 75),none,0⟩,
 ⟨(some 78),.load (some 2) (.tmp 77),none,0⟩,
 ⟨(some 6),.alloc [(.int .i64 0),(.int .i64 0)],none,0⟩,
 ⟨none,.store (some 2) (.tmp 6) (.tmp 78),none,1⟩])
 (.region 1 [] [
 ⟨(some 79),.mov (.tmp 4),none,0⟩,
 ⟨(some 80),.load (some 2) (.tmp 6),none,0⟩,
 ⟨(some 81),.call 88 true [(.tmp 80)],none,0⟩,
 ⟨(some 82),.bin .mul (.tmp 79) (.tmp 81),none,0⟩,
 ⟨(some 83),.bslice 1 2 [(.int .i64 0)] [(0,(.tmp 82)),(1,(.cst (.c (.int .i64 2001))))],none,0⟩,
 ⟨(some 84),.call 87 true [(.tmp 83)],none,1⟩,
 ⟨(some 4),.mov (.tmp 84),none,1⟩])))
 (.region 0 [] [
 ⟨(some 85),.bin .add (.tmp 75) (.cst (.c (.int .i64 1))),none,0⟩,
 ⟨(some 75),.mov (.tmp 85),none,0⟩])))))))
 (.seq (.seq (.region 0 [] [
 ⟨(some 86),.mov (.tmp 4),none,0⟩,
 ⟨(some 87),.bin .gtr (.tmp 86) (.cst (.c (.int .i64 2000))),none,0⟩])
 (.cond (.tmp 87)
 (.seq (.region 0 [] [
 ⟨(some 2),.mov (.cst (.c (.int .i64 3))),none,0⟩])
 .ret)
 .skip))
 (.seq (.region 0 [] [
 ⟨(some 2),.mov (.cst (.c (.int .i64 0))),none,0⟩])
 .ret)))))))⟩
def f25 : AFunc:=⟨76,[.tmp 4],false,
 (.seq (.region 2 [] [
 ⟨(some 2),.box (.tmp 0),none,0⟩,
 ⟨(some 3),.box (.tmp 1),none,1⟩,
 ⟨(some 4),.mov (.cst (.c .nils)),none,2⟩])
 (.seq (.region 0 [] [
 ⟨(some 5),.mov (.cst (.c .nils)),none,0⟩])
 (.seq (.region 0 [(0,2),(1,2),(0,3),(1,3),(2,4),(3,4)] [
 ⟨(some 10),.faddr 0 (.tmp 3),none,0⟩,
 ⟨(some 11),.load none (.tmp 10),none,0⟩,
 ⟨(some 12),.faddr 1 (.tmp 3),none,0⟩,
 ⟨(some 13),.load none (.tmp 12),none,0⟩,
 ⟨(some 6),.mov (.tmp 11),none,0⟩,
 ⟨(some 7),.mov (.tmp 13),none,0⟩])
 (.seq (.seq (.region 0 [] [
 ⟨(some 8),.mov (.cst (.c (.int .i64 0))),none,0⟩])
 (.block 0 (.loop ⟨[9,14,15,16,17,18,19,20,21,22,23,24,25,26,27,28,29,30,31,32,33,34,35,36,37,38,39,40,41,42,43,44,45,46,47,48,49,50,51,52,53,54,55,56,57,58,59,60,61,62,63,64,65,66,67,68,69,70,71,72,73,74],true,[(5,none,2)]⟩
 (.seq (.seq (.region 0 [] [
 ⟨(some 14),.mov (.tmp 8),none,0⟩,
 ⟨(some 15),.faddr 0 (.tmp 2),none,0⟩,
 ⟨(some 16),.load none (.tmp 15),none,0⟩,
 ⟨(some 17),.bin .leq (.tmp 14) (.tmp 16),none,0⟩])
 (.cond (.tmp 17)
 .skip
 (.exit 0)))
 (.seq (.block 1 (.seq (.region 0 [(0,1),(0,2),(0,3),(1,3),(2,3),(0,4),(0,5),(0,6),(0,7),(1,7),(2,7),(3,7),(4,7),(5,7),(6,7),(0,8),(1,8),(2,8),(3,8),(4,8),(5,8),(6,8),(0,9),(1,9),(2,9),(3,9),(4,9),(5,9),(6,9),(7,9),(8,9),(0,10),(1,10),(2,10),(3,10),(4,10),(5,10),(6,10),(0,11),(1,11),(2,11),(3,11),(4,11),(5,11),(6,11),(0,12),(1,12),(2,12),(3,12),(4,12),(5,12),(6,12),(0,13)] [
 ⟨(some 20),.mov (.tmp 6),none,0⟩,
 ⟨(some 21),.faddr 9 (.tmp 2),none,0⟩,
 ⟨(some 22),.load none (.tmp 21),none,0⟩,
 ⟨(some 23),.mov (.tmp 8),none,0⟩,
 ⟨(some 24),.iaddr 3 (.tmp 22) (.tmp 23),none,0⟩,
 ⟨(some 25),.faddr 0 (.tmp 24),none,0⟩,
 ⟨(some 26),.load none (.tmp 25),none,0⟩,
 ⟨(some 27),.faddr 9 (.tmp 2),none,0⟩,
 ⟨(some 28),.load none (.tmp 27),none,0⟩,
 ⟨(some 29),.mov (.tmp 8),none,0⟩,
 ⟨(some 30),.iaddr 3 (.tmp 28) (.tmp 29),none,0⟩,
 ⟨(some 31),.faddr 1 (.tmp 30),none,0⟩,
 ⟨(some 32),.load none (.tmp 31),none,0⟩,
 ⟨(some 33),.bin .sub (.tmp 26) (.tmp 32),none,0⟩,
 ⟨(some 34),.bin .add (.tmp 20) (.tmp 33),none,0⟩,
 ⟨(some 6),.mov (.tmp 34),none,0⟩])
 (.seq (.region 0 [(0,1),(0,2),(0,3),(1,3),(2,3),(0,4),(0,5),(0,6),(0,7),(1,7),(2,7),(3,7),(4,7),(5,7),(6,7),(0,8),(1,8),(2,8),(3,8),(4,8),(5,8),(6,8),(0,9)] [
 ⟨(some 35),.mov (.tmp 7),none,0⟩,
 ⟨(some 36),.faddr 9 (.tmp 2),none,0⟩,
 ⟨(some 37),.load none (.tmp 36),none,0⟩,
 ⟨(some 38),.mov (.tmp 8),none,0⟩,
 ⟨(some 39),.iaddr 3 (.tmp 37) (.tmp 38),none,0⟩,
 ⟨(some 40),.faddr 2 (.tmp 39),none,0⟩,
 ⟨(some 41),.load none (.tmp 40),none,0⟩,
 ⟨(some 42),.faddr 6 (.tmp 2),none,0⟩,
 ⟨(some 43),.load none (.tmp 42),none,0⟩,
 ⟨(some 44),.bin .mul (.tmp 41) (.tmp 43),none,0⟩,
 ⟨(some 45),.bin .add (.tmp 35) (.tmp 44),none,0⟩,
 ⟨(some 7),.mov (.tmp 45),none,0⟩])
 (.seq (.region 0 [] [
 ⟨(some 46),.mov (.tmp 6),none,0⟩,
 ⟨(some 47),.faddr 2 (.tmp 3),none,0⟩,
 ⟨(some 48),.load none (.tmp 47),none,0⟩,
 ⟨(some 49),.mov (.tmp 8),none,0⟩,
 ⟨(some 50),.iaddr 1 (.tmp 48) (.tmp 49),none,0⟩,
 ⟨(some 51),.load none (.tmp 50),none,0⟩,
 ⟨(some 52),.bin .add (.tmp 46) (.tmp 51),none,0⟩,
 ⟨(some 6),.mov (.tmp 52),none,0⟩])
 (.seq (.seq (.region 0 [] [
 ⟨(some 9),.mov (.cst (.c (.int .i64 0))),none,0⟩])
 (.block 2 (.loop ⟨[53,54,55,56,57,58,59,60,61,62,63,64,65,66,67,68],false,[]⟩
 (.seq (.seq (.region 0 [] [
 ⟨(some 53),.mov (.tmp 9),none,0⟩,
 ⟨(some 54),.faddr 10 (.tmp 2),none,0⟩,
 ⟨(some 55),.load none (.tmp 54),none,0⟩,
 ⟨(some 56),.mov (.tmp 8),none,0⟩,
 ⟨(some 57),.iaddr 1 (.tmp 55) (.tmp 56),none,0⟩,
 ⟨(some 58),.load none (.tmp 57),none,0⟩,
 ⟨(some 59),.bin .lss (.tmp 53) (.tmp 58),none,0⟩])
 (.cond (.tmp 59)
 .skip
 (.exit 2)))
 (.seq (.block 3 (.region 0 [] [
 ⟨(some 63),.load (some 12) (.tmp 2),none,0⟩,
 ⟨(some 64),.mov (.tmp 6),none,0⟩,
 ⟨(some 65),.mov (.tmp 7),none,0⟩,
 ⟨(some 66),.call 90 true [(.tmp 63),(.tmp 64),(.tmp 65)],none,0⟩,
 ⟨(some 62),.mov (.tmp 66),none,0⟩,
 ⟨(some 67),.extract 0 (.tmp 62),none,0⟩,
 ⟨(some 68),.extract 1 (.tmp 62),none,0⟩,
 ⟨(some 7),.mov (.tmp 68),none,0⟩]))
 (.region 0 [] [
 ⟨(some 60),.mov (.tmp 9),none,0⟩,
 ⟨(some 61),.bin .add (.tmp 60) (.cst (.c (.int .i64 1))),none,0⟩,
 ⟨(some 9),.mov (.tmp 61),none,0⟩]))))))
 (.region 2 [] [
 ⟨(some 69),.mov (.tmp 5),none,0⟩,
 ⟨(some 70),.mov (.tmp 6),none,0⟩,
 ⟨(some 71),.mov (.tmp 7),none,0⟩,
 ⟨(some 72),.build [(.int .i64 0),(.int .i64 0)] [(0,1,(.tmp 70)),(1,1,(.tmp 71))],none,0⟩,
 ⟨(some 73),.bslice 2 1 [(.int .i64 0),(.int .i64 0)] [(0,(.tmp 72))],none,0⟩,
 ⟨(some 74),.append 2 16 (.tmp 69) (.tmp 73),none,1⟩,
 ⟨(some 5),.mov (.tmp 74),none,2⟩]))))))
 (.region 0 [] [
 ⟨(some 18),.mov (.tmp 8),none,0⟩,
 ⟨(some 19),.bin .add (.tmp 18) (.cst (.c (.int .i64 1))),none,0⟩,
 ⟨(some 8),.mov (.tmp 19),none,0⟩]))))))
 (.seq (.region 0 [] [
 ⟨(some 75),.mov (.tmp 5),none,0⟩,
 ⟨(some 4),.mov (.tmp 75),none,0⟩])
 .ret)))))⟩
end Am.Vt
