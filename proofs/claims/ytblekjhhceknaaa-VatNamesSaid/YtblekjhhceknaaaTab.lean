/-
  A part of the proof: the texts VtTab of this seat, joined.
-/
import Derived.Test.YtblekjhhceknaaaTabA
namespace Am.Vt
open Go Am
set_option maxRecDepth 100000
def f26 : AFunc:=⟨171,[.tmp 0],false,
 (.seq (.region 0 [] [
 ⟨(some 0),.mov (.cst (.c (.bool false))),none,0⟩])
 (.seq (.region 0 [] [
 ⟨(some 20),.call 11 true [(.cst (.c (.int .i64 4))),(.cst (.c (.int .i64 0)))],none,0⟩,
 ⟨(some 21),.call 16 true [],none,0⟩,
 ⟨(some 22),.call 10 true [(.tmp 20),(.tmp 21)],none,0⟩,
 ⟨(some 19),.mov (.tmp 22),none,0⟩,
 ⟨(some 23),.extract 0 (.tmp 19),none,0⟩,
 ⟨(some 24),.extract 1 (.tmp 19),none,0⟩,
 ⟨(some 1),.mov (.tmp 23),none,0⟩,
 ⟨(some 2),.mov (.tmp 24),none,0⟩])
 (.seq (.region 0 [] [
 ⟨(some 26),.call 11 true [(.cst (.c (.int .i64 4))),(.cst (.c (.int .i64 0)))],none,0⟩,
 ⟨(some 27),.call 16 true [],none,0⟩,
 ⟨(some 28),.call 20 true [(.tmp 26),(.tmp 27),(.cst (.c (.int .i64 2))),(.cst (.c (.int .i64 2)))],none,0⟩,
 ⟨(some 25),.mov (.tmp 28),none,0⟩,
 ⟨(some 29),.extract 0 (.tmp 25),none,0⟩,
 ⟨(some 30),.extract 1 (.tmp 25),none,0⟩,
 ⟨(some 3),.mov (.tmp 29),none,0⟩,
 ⟨(some 4),.mov (.tmp 30),none,0⟩])
 (.seq (.region 1 [] [
 ⟨(some 32),.call 11 true [(.cst (.c (.int .i64 4))),(.cst (.c (.int .i64 0)))],none,0⟩,
 ⟨(some 33),.call 21 true [(.tmp 32),(.cst (.c (.int .i64 2))),(.cst (.c (.int .i64 2)))],none,0⟩,
 ⟨(some 31),.mov (.tmp 33),none,0⟩,
 ⟨(some 34),.extract 0 (.tmp 31),none,0⟩,
 ⟨(some 35),.extract 1 (.tmp 31),none,0⟩,
 ⟨(some 5),.alloc [(.int .i64 0),(.int .i64 0)],none,0⟩,
 ⟨none,.store (some 2) (.tmp 5) (.tmp 34),none,1⟩,
 ⟨(some 6),.mov (.tmp 35),none,1⟩])
 (.seq (.region 0 [] [
 ⟨(some 37),.call 11 true [(.cst (.c (.int .i64 4))),(.cst (.c (.int .i64 0)))],none,0⟩,
 ⟨(some 38),.call 22 true [(.tmp 37)],none,0⟩,
 ⟨(some 36),.mov (.tmp 38),none,0⟩,
 ⟨(some 39),.extract 0 (.tmp 36),none,0⟩,
 ⟨(some 40),.extract 1 (.tmp 36),none,0⟩,
 ⟨(some 7),.mov (.tmp 39),none,0⟩,
 ⟨(some 8),.mov (.tmp 40),none,0⟩])
 (.seq (.region 0 [] [
 ⟨(some 42),.call 11 true [(.cst (.c (.int .i64 4))),(.cst (.c (.int .i64 1)))],none,0⟩,
 ⟨(some 43),.call 12 true [(.tmp 42),(.cst (.c (.int .i64 2)))],none,0⟩,
 ⟨(some 41),.mov (.tmp 43),none,0⟩,
 ⟨(some 44),.extract 0 (.tmp 41),none,0⟩,
 ⟨(some 45),.extract 1 (.tmp 41),none,0⟩,
 ⟨(some 9),.mov (.tmp 44),none,0⟩,
 ⟨(some 10),.mov (.tmp 45),none,0⟩])
 (.seq (.region 0 [] [
 ⟨(some 47),.call 11 true [(.cst (.c (.int .i64 4))),(.cst (.c (.int .i64 0)))],none,0⟩,
 ⟨(some 48),.call 13 true [(.tmp 47)],none,0⟩,
 ⟨(some 46),.mov (.tmp 48),none,0⟩,
 ⟨(some 49),.extract 0 (.tmp 46),none,0⟩,
 ⟨(some 50),.extract 1 (.tmp 46),none,0⟩,
 ⟨(some 11),.mov (.tmp 49),none,0⟩,
 ⟨(some 12),.mov (.tmp 50),none,0⟩])
 (.seq (.region 1 [] [
 ⟨(some 52),.call 11 true [(.cst (.c (.int .i64 1))),(.cst (.c (.int .i64 0)))],none,0⟩,
 ⟨(some 53),.call 14 true [(.tmp 52)],none,0⟩,
 ⟨(some 51),.mov (.tmp 53),none,0⟩,
 ⟨(some 54),.extract 0 (.tmp 51),none,0⟩,
 ⟨(some 55),.extract 1 (.tmp 51),none,0⟩,
 ⟨(some 13),.alloc [(.int .i64 0),(.int .i64 0),(.int .i64 0),(.int .i64 0),.nils,(.int .i64 0),(.int .i64 0),.nils],none,0⟩,
 ⟨none,.store (some 8) (.tmp 13) (.tmp 54),none,1⟩,
 ⟨(some 14),.mov (.tmp 55),none,1⟩])
 (.seq (.region 0 [] [
 ⟨(some 57),.call 11 true [(.cst (.c (.int .i64 4))),(.cst (.c (.int .i64 2)))],none,0⟩,
 ⟨(some 58),.call 23 true [(.tmp 57)],none,0⟩,
 ⟨(some 56),.mov (.tmp 58),none,0⟩,
 ⟨(some 59),.extract 0 (.tmp 56),none,0⟩,
 ⟨(some 60),.extract 1 (.tmp 56),none,0⟩,
 ⟨(some 15),.mov (.tmp 59),none,0⟩,
 ⟨(some 16),.mov (.tmp 60),none,0⟩])
 (.seq (.region 0 [] [
 ⟨(some 62),.call 11 true [(.cst (.c (.int .i64 4))),(.cst (.c (.int .i64 2)))],none,0⟩,
 ⟨(some 63),.call 15 true [(.tmp 62)],none,0⟩,
 ⟨(some 61),.mov (.tmp 63),none,0⟩,
 ⟨(some 64),.extract 0 (.tmp 61),none,0⟩,
 ⟨(some 65),.extract 1 (.tmp 61),none,0⟩,
 ⟨(some 17),.mov (.tmp 64),none,0⟩,
 ⟨(some 18),.mov (.tmp 65),none,0⟩])
 (.seq (.region 2 [(8,11),(9,11),(10,11),(15,18),(16,18),(17,18),(26,27),(35,36),(49,52),(50,52),(51,52),(49,53),(50,53),(51,53),(49,54),(50,54),(51,54),(75,76),(84,85),(101,102)] [
 ⟨(some 66),.mov (.tmp 2),none,0⟩,
 ⟨(some 67),.bin .eql (.tmp 66) (.cst (.c (.int .i64 0))),none,0⟩,
 ⟨(some 68),.mov (.tmp 67),none,0⟩,
 ⟨(some 69),.mov (.tmp 1),some (68,true),0⟩,
 ⟨(some 70),.len (.tmp 69),some (68,true),0⟩,
 ⟨(some 71),.bin .eql (.tmp 70) (.cst (.c (.int .i64 4))),some (68,true),0⟩,
 ⟨(some 72),.pick (.tmp 68) (.tmp 71) (.cst (.c (.bool false))),none,0⟩,
 ⟨(some 73),.mov (.tmp 72),none,0⟩,
 ⟨(some 74),.mov (.tmp 1),some (73,true),0⟩,
 ⟨(some 75),.iaddr 2 (.tmp 74) (.cst (.c (.int .i64 1))),some (73,true),0⟩,
 ⟨(some 76),.load (some 2) (.tmp 75),some (73,true),0⟩,
 ⟨(some 77),.build [(.int .i64 0),(.int .i64 0)] [(1,1,(.cst (.c (.int .i64 90))))],some (73,true),0⟩,
 ⟨(some 78),.eqA false [(some .i64),(some .i64)] (.tmp 76) (.tmp 77),some (73,true),0⟩,
 ⟨(some 79),.pick (.tmp 73) (.tmp 78) (.cst (.c (.bool false))),none,0⟩,
 ⟨(some 80),.mov (.tmp 79),none,0⟩,
 ⟨(some 81),.mov (.tmp 1),some (80,true),0⟩,
 ⟨(some 82),.iaddr 2 (.tmp 81) (.cst (.c (.int .i64 2))),some (80,true),0⟩,
 ⟨(some 83),.load (some 2) (.tmp 82),some (80,true),0⟩,
 ⟨(some 84),.build [(.int .i64 0),(.int .i64 0)] [(0,1,(.cst (.c (.int .i64 2)))),(1,1,(.cst (.c (.int .i64 95))))],some (80,true),0⟩,
 ⟨(some 85),.eqA false [(some .i64),(some .i64)] (.tmp 83) (.tmp 84),some (80,true),0⟩,
 ⟨(some 86),.pick (.tmp 80) (.tmp 85) (.cst (.c (.bool false))),none,0⟩,
 ⟨(some 87),.mov (.tmp 86),none,0⟩,
 ⟨(some 88),.mov (.tmp 4),some (87,true),0⟩,
 ⟨(some 89),.bin .eql (.tmp 88) (.cst (.c (.int .i64 0))),some (87,true),0⟩,
 ⟨(some 90),.pick (.tmp 87) (.tmp 89) (.cst (.c (.bool false))),none,0⟩,
 ⟨(some 91),.mov (.tmp 90),none,0⟩,
 ⟨(some 92),.mov (.tmp 3),some (91,true),0⟩,
 ⟨(some 93),.bslice 1 2 [(.int .i64 0)] [(0,(.cst (.c (.int .i64 9)))),(1,(.cst (.c (.int .i64 9))))],some (91,true),0⟩,
 ⟨(some 94),.call 36 true [(.tmp 92),(.tmp 93)],some (91,true),1⟩,
 ⟨(some 95),.pick (.tmp 91) (.tmp 94) (.cst (.c (.bool false))),none,1⟩,
 ⟨(some 96),.mov (.tmp 95),none,1⟩,
 ⟨(some 97),.mov (.tmp 6),some (96,true),1⟩,
 ⟨(some 98),.bin .eql (.tmp 97) (.cst (.c (.int .i64 0))),some (96,true),1⟩,
 ⟨(some 99),.pick (.tmp 96) (.tmp 98) (.cst (.c (.bool false))),none,1⟩,
 ⟨(some 100),.mov (.tmp 99),none,1⟩,
 ⟨(some 101),.load (some 2) (.tmp 5),some (100,true),1⟩,
 ⟨(some 102),.call 24 true [(.cst (.c (.int .i64 8))),(.cst (.c (.int .i64 18)))],some (100,true),1⟩,
 ⟨(some 103),.eqA false [(some .i64),(some .i64)] (.tmp 101) (.tmp 102),some (100,true),1⟩,
 ⟨(some 104),.pick (.tmp 100) (.tmp 103) (.cst (.c (.bool false))),none,1⟩,
 ⟨(some 105),.mov (.tmp 104),none,1⟩,
 ⟨(some 106),.mov (.tmp 8),some (105,true),1⟩,
 ⟨(some 107),.bin .eql (.tmp 106) (.cst (.c (.int .i64 0))),some (105,true),1⟩,
 ⟨(some 108),.pick (.tmp 105) (.tmp 107) (.cst (.c (.bool false))),none,1⟩,
 ⟨(some 109),.mov (.tmp 108),none,1⟩,
 ⟨(some 110),.mov (.tmp 7),some (109,true),1⟩,
 ⟨(some 111),.len (.tmp 110),some (109,true),1⟩,
 ⟨(some 112),.bin .eql (.tmp 111) (.cst (.c (.int .i64 4))),some (109,true),1⟩,
 ⟨(some 113),.pick (.tmp 109) (.tmp 112) (.cst (.c (.bool false))),none,1⟩,
 ⟨(some 114),.mov (.tmp 113),none,1⟩,
 ⟨(some 115),.mov (.tmp 7),some (114,true),1⟩,
 ⟨(some 116),.iaddr 4 (.tmp 115) (.cst (.c (.int .i64 2))),some (114,true),1⟩,
 ⟨(some 117),.load (some 4) (.tmp 116),some (114,true),1⟩,
 ⟨(some 118),.call 24 true [(.cst (.c (.int .i64 2))),(.cst (.c (.int .i64 6)))],some (114,true),1⟩,
 ⟨(some 119),.call 24 true [(.cst (.c (.int .i64 95))),(.cst (.c (.int .i64 95)))],some (114,true),1⟩,
 ⟨(some 120),.build [(.int .i64 0),(.int .i64 0),(.int .i64 0),(.int .i64 0)] [(0,2,(.tmp 118)),(2,2,(.tmp 119))],some (114,true),1⟩,
 ⟨(some 121),.eqA false [(some .i64),(some .i64),(some .i64),(some .i64)] (.tmp 117) (.tmp 120),some (114,true),1⟩,
 ⟨(some 122),.pick (.tmp 114) (.tmp 121) (.cst (.c (.bool false))),none,1⟩,
 ⟨(some 123),.mov (.tmp 122),none,1⟩,
 ⟨(some 124),.mov (.tmp 10),some (123,true),1⟩,
 ⟨(some 125),.bin .eql (.tmp 124) (.cst (.c (.int .i64 0))),some (123,true),1⟩,
 ⟨(some 126),.pick (.tmp 123) (.tmp 125) (.cst (.c (.bool false))),none,1⟩,
 ⟨(some 127),.mov (.tmp 126),none,1⟩,
 ⟨(some 128),.mov (.tmp 9),some (127,true),1⟩,
 ⟨(some 129),.bin .eql (.tmp 128) (.cst (.c (.int .i64 2))),some (127,true),1⟩,
 ⟨(some 130),.pick (.tmp 127) (.tmp 129) (.cst (.c (.bool false))),none,1⟩,
 ⟨(some 131),.mov (.tmp 130),none,1⟩,
 ⟨(some 132),.mov (.tmp 12),some (131,true),1⟩,
 ⟨(some 133),.bin .eql (.tmp 132) (.cst (.c (.int .i64 0))),some (131,true),1⟩,
 ⟨(some 134),.pick (.tmp 131) (.tmp 133) (.cst (.c (.bool false))),none,1⟩,
 ⟨(some 135),.mov (.tmp 134),none,1⟩,
 ⟨(some 136),.mov (.tmp 11),some (135,true),1⟩,
 ⟨(some 137),.len (.tmp 136),some (135,true),1⟩,
 ⟨(some 138),.bin .eql (.tmp 137) (.cst (.c (.int .i64 4))),some (135,true),1⟩,
 ⟨(some 139),.pick (.tmp 135) (.tmp 138) (.cst (.c (.bool false))),none,1⟩,
 ⟨(some 140),.mov (.tmp 139),none,1⟩,
 ⟨(some 141),.call 11 true [(.cst (.c (.int .i64 4))),(.cst (.c (.int .i64 0)))],some (140,true),1⟩,
 ⟨(some 142),.mov (.tmp 11),some (140,true),1⟩,
 ⟨(some 143),.call 18 true [(.tmp 141),(.tmp 142)],some (140,true),1⟩,
 ⟨(some 144),.pick (.tmp 140) (.tmp 143) (.cst (.c (.bool false))),none,1⟩,
 ⟨(some 145),.mov (.tmp 144),none,1⟩,
 ⟨(some 146),.mov (.tmp 14),some (145,true),1⟩,
 ⟨(some 147),.bin .eql (.tmp 146) (.cst (.c (.int .i64 0))),some (145,true),1⟩,
 ⟨(some 148),.pick (.tmp 145) (.tmp 147) (.cst (.c (.bool false))),none,1⟩,
 ⟨(some 149),.mov (.tmp 148),none,1⟩,
 ⟨(some 150),.call 11 true [(.cst (.c (.int .i64 1))),(.cst (.c (.int .i64 0)))],some (149,true),1⟩,
 ⟨(some 151),.load (some 8) (.tmp 13),some (149,true),1⟩,
 ⟨(some 152),.call 19 true [(.tmp 150),(.tmp 151)],some (149,true),1⟩,
 ⟨(some 153),.pick (.tmp 149) (.tmp 152) (.cst (.c (.bool false))),none,1⟩,
 ⟨(some 154),.mov (.tmp 153),none,1⟩,
 ⟨(some 155),.mov (.tmp 16),some (154,true),1⟩,
 ⟨(some 156),.bin .eql (.tmp 155) (.cst (.c (.int .i64 0))),some (154,true),1⟩,
 ⟨(some 157),.pick (.tmp 154) (.tmp 156) (.cst (.c (.bool false))),none,1⟩,
 ⟨(some 158),.mov (.tmp 157),none,1⟩,
 ⟨(some 159),.mov (.tmp 15),some (158,true),1⟩,
 ⟨(some 160),.bin .eql (.tmp 159) (.cst (.c (.int .i64 1))),some (158,true),1⟩,
 ⟨(some 161),.pick (.tmp 158) (.tmp 160) (.cst (.c (.bool false))),none,1⟩,
 ⟨(some 162),.mov (.tmp 161),none,1⟩,
 ⟨(some 163),.mov (.tmp 18),some (162,true),1⟩,
 ⟨(some 164),.bin .eql (.tmp 163) (.cst (.c (.int .i64 0))),some (162,true),1⟩,
 ⟨(some 165),.pick (.tmp 162) (.tmp 164) (.cst (.c (.bool false))),none,1⟩,
 ⟨(some 166),.mov (.tmp 165),none,1⟩,
 ⟨(some 167),.mov (.tmp 17),some (166,true),1⟩,
 ⟨(some 168),.bslice 1 1 [(.int .i64 0)] [(0,(.cst (.c (.int .i64 0))))],some (166,true),1⟩,
 ⟨(some 169),.call 36 true [(.tmp 167),(.tmp 168)],some (166,true),2⟩,
 ⟨(some 170),.pick (.tmp 166) (.tmp 169) (.cst (.c (.bool false))),none,2⟩,
 ⟨(some 0),.mov (.tmp 170),none,2⟩])
 .ret)))))))))))⟩
def f36 : AFunc:=⟨26,[.tmp 4],false,
 (.seq (.region 0 [] [
 ⟨(some 4),.mov (.cst (.c (.bool false))),none,0⟩])
 (.seq (.seq (.region 0 [] [
 ⟨(some 6),.mov (.tmp 0),none,0⟩,
 ⟨(some 7),.len (.tmp 6),none,0⟩,
 ⟨(some 8),.mov (.tmp 1),none,0⟩,
 ⟨(some 9),.len (.tmp 8),none,0⟩,
 ⟨(some 10),.bin .neq (.tmp 7) (.tmp 9),none,0⟩])
 (.cond (.tmp 10)
 (.seq (.region 0 [] [
 ⟨(some 4),.mov (.cst (.c (.bool false))),none,0⟩])
 .ret)
 .skip))
 (.seq (.seq (.region 0 [] [
 ⟨(some 5),.mov (.cst (.c (.int .i64 0))),none,0⟩])
 (.block 0 (.loop ⟨[4,11,12,13,14,15,16,17,18,19,20,21,22,23,24,25],false,[]⟩
 (.seq (.seq (.region 0 [] [
 ⟨(some 11),.mov (.tmp 5),none,0⟩,
 ⟨(some 12),.mov (.tmp 0),none,0⟩,
 ⟨(some 13),.len (.tmp 12),none,0⟩,
 ⟨(some 14),.bin .lss (.tmp 11) (.tmp 13),none,0⟩])
 (.cond (.tmp 14)
 .skip
 (.exit 0)))
 (.seq (.block 1 (.seq (.region 0 [(0,1),(0,4),(1,4),(2,4),(3,4),(0,5),(1,5),(2,5),(3,5),(4,5),(0,6),(1,6),(2,6),(3,6),(0,7),(1,7),(2,7),(3,7)] [
 ⟨(some 17),.mov (.tmp 0),none,0⟩,
 ⟨(some 18),.mov (.tmp 5),none,0⟩,
 ⟨(some 19),.iaddr 1 (.tmp 17) (.tmp 18),none,0⟩,
 ⟨(some 20),.load none (.tmp 19),none,0⟩,
 ⟨(some 21),.mov (.tmp 1),none,0⟩,
 ⟨(some 22),.mov (.tmp 5),none,0⟩,
 ⟨(some 23),.iaddr 1 (.tmp 21) (.tmp 22),none,0⟩,
 ⟨(some 24),.load none (.tmp 23),none,0⟩,
 ⟨(some 25),.bin .neq (.tmp 20) (.tmp 24),none,0⟩])
 (.cond (.tmp 25)
 (.seq (.region 0 [] [
 ⟨(some 4),.mov (.cst (.c (.bool false))),none,0⟩])
 .ret)
 .skip)))
 (.region 0 [] [
 ⟨(some 15),.mov (.tmp 5),none,0⟩,
 ⟨(some 16),.bin .add (.tmp 15) (.cst (.c (.int .i64 1))),none,0⟩,
 ⟨(some 5),.mov (.tmp 16),none,0⟩]))))))
 (.seq (.region 0 [] [
 ⟨(some 4),.mov (.cst (.c (.bool true))),none,0⟩])
 .ret))))⟩
def f37 : AFunc:=⟨46,[.tmp 4],false,
 (.seq (.region 2 [] [
 ⟨(some 2),.box (.tmp 0),none,0⟩,
 ⟨(some 3),.box (.tmp 1),none,1⟩,
 ⟨(some 4),.mov (.cst (.c (.bool false))),none,2⟩])
 (.seq (.seq (.region 0 [(0,3),(1,3),(2,3),(0,4),(1,4),(2,4),(7,9),(8,9),(7,10),(8,10),(15,17),(16,17),(15,18),(16,18)] [
 ⟨(some 7),.faddr 2 (.tmp 3),none,0⟩,
 ⟨(some 8),.load none (.tmp 7),none,0⟩,
 ⟨(some 9),.len (.tmp 8),none,0⟩,
 ⟨(some 10),.load (some 12) (.tmp 2),none,0⟩,
 ⟨(some 11),.call 47 true [(.tmp 10)],none,0⟩,
 ⟨(some 12),.bin .neq (.tmp 9) (.tmp 11),none,0⟩,
 ⟨(some 13),.mov (.tmp 12),none,0⟩,
 ⟨(some 14),.faddr 2 (.tmp 2),some (13,false),0⟩,
 ⟨(some 15),.load (some 2) (.tmp 14),some (13,false),0⟩,
 ⟨(some 16),.faddr 0 (.tmp 3),some (13,false),0⟩,
 ⟨(some 17),.load none (.tmp 16),some (13,false),0⟩,
 ⟨(some 18),.call 60 true [(.tmp 15),(.tmp 17)],some (13,false),0⟩,
 ⟨(some 19),.not (.tmp 18),some (13,false),0⟩,
 ⟨(some 20),.pick (.tmp 13) (.cst (.c (.bool true))) (.tmp 19),none,0⟩,
 ⟨(some 21),.mov (.tmp 20),none,0⟩,
 ⟨(some 22),.faddr 4 (.tmp 2),some (21,false),0⟩,
 ⟨(some 23),.load (some 2) (.tmp 22),some (21,false),0⟩,
 ⟨(some 24),.faddr 1 (.tmp 3),some (21,false),0⟩,
 ⟨(some 25),.load none (.tmp 24),some (21,false),0⟩,
 ⟨(some 26),.call 60 true [(.tmp 23),(.tmp 25)],some (21,false),0⟩,
 ⟨(some 27),.not (.tmp 26),some (21,false),0⟩,
 ⟨(some 28),.pick (.tmp 21) (.cst (.c (.bool true))) (.tmp 27),none,0⟩])
 (.cond (.tmp 28)
 (.seq (.region 0 [] [
 ⟨(some 4),.mov (.cst (.c (.bool false))),none,0⟩])
 .ret)
 .skip))
 (.seq (.seq (.region 0 [] [
 ⟨(some 29),.faddr 8 (.tmp 2),none,0⟩,
 ⟨(some 30),.load none (.tmp 29),none,0⟩,
 ⟨(some 31),.len (.tmp 30),none,0⟩,
 ⟨(some 32),.mov (.cst (.c (.int .i64 0))),none,0⟩])
 (.block 0 (.loop ⟨[4,5,6,33,34,35,36,37,38,39,40,41,42,43,44,45],true,[]⟩
 (.seq (.region 0 [] [
 ⟨(some 33),.bin .lss (.tmp 32) (.tmp 31),none,0⟩])
 (.seq (.cond (.tmp 33)
 .skip
 (.exit 0))
 (.seq (.block 1 (.seq (.region 1 [] [
 ⟨(some 34),.mov (.tmp 32),none,0⟩,
 ⟨(some 35),.iaddr 2 (.tmp 30) (.tmp 32),none,0⟩,
 ⟨(some 36),.load (some 2) (.tmp 35),none,0⟩,
 ⟨(some 6),.alloc [(.int .i64 0),(.int .i64 0)],none,0⟩,
 ⟨(some 5),.mov (.tmp 34),none,1⟩,
 ⟨none,.store (some 2) (.tmp 6) (.tmp 36),none,1⟩])
 (.seq (.region 0 [(0,1),(0,2),(0,3),(1,3),(2,3),(0,4),(0,5)] [
 ⟨(some 37),.load (some 2) (.tmp 6),none,0⟩,
 ⟨(some 38),.faddr 2 (.tmp 3),none,0⟩,
 ⟨(some 39),.load none (.tmp 38),none,0⟩,
 ⟨(some 40),.mov (.tmp 5),none,0⟩,
 ⟨(some 41),.iaddr 1 (.tmp 39) (.tmp 40),none,0⟩,
 ⟨(some 42),.load none (.tmp 41),none,0⟩,
 ⟨(some 43),.call 60 true [(.tmp 37),(.tmp 42)],none,0⟩,
 ⟨(some 44),.not (.tmp 43),none,0⟩])
 (.cond (.tmp 44)
 (.seq (.region 0 [] [
 ⟨(some 4),.mov (.cst (.c (.bool false))),none,0⟩])
 .ret)
 .skip))))
 (.region 0 [] [
 ⟨(some 45),.bin .add (.tmp 32) (.cst (.c (.int .i64 1))),none,0⟩,
 ⟨(some 32),.mov (.tmp 45),none,0⟩])))))))
 (.seq (.region 0 [] [
 ⟨(some 4),.mov (.cst (.c (.bool true))),none,0⟩])
 .ret))))⟩
def f38 : AFunc:=⟨7,[.tmp 2],false,
 (.seq (.region 1 [] [
 ⟨(some 1),.box (.tmp 0),none,0⟩,
 ⟨(some 2),.mov (.cst (.c .nilp)),none,1⟩])
 (.seq (.region 2 [] [
 ⟨(some 3),.load (some 12) (.tmp 1),none,0⟩,
 ⟨(some 4),.mkmap true false [(some .i64),none],none,0⟩,
 ⟨(some 5),.build [(.int .i64 0),(.int .i64 0),(.int .i64 0),(.int .i64 0),(.int .i64 0),(.int .i64 0),(.int .i64 0),(.int .i64 0),.nils,.nils,.nils,.nils,.any] [(0,12,(.tmp 3)),(12,1,(.tmp 4))],none,1⟩,
 ⟨(some 6),.box (.tmp 5),none,1⟩,
 ⟨(some 2),.mov (.tmp 6),none,2⟩])
 .ret))⟩
def f39 : AFunc:=⟨9,[.tmp 4],false,
 (.seq (.region 1 [] [
 ⟨(some 3),.box (.tmp 1),none,0⟩,
 ⟨(some 4),.mov (.cst (.c .nils)),none,1⟩])
 (.seq (.region 0 [] [
 ⟨(some 5),.mov (.tmp 0),none,0⟩,
 ⟨(some 6),.load (some 3) (.tmp 3),none,0⟩,
 ⟨(some 7),.call 83 false [(.tmp 5),(.tmp 6)],none,0⟩,
 ⟨(some 8),.call 82 false [(.tmp 7)],none,0⟩,
 ⟨(some 4),.mov (.tmp 8),none,0⟩])
 .ret))⟩
def f40 : AFunc:=⟨21,[.tmp 4,.tmp 5],false,
 (.seq (.region 1 [] [
 ⟨(some 2),.box (.tmp 0),none,0⟩,
 ⟨(some 4),.mov (.cst (.c .nilp)),none,1⟩,
 ⟨(some 5),.mov (.cst (.c (.int .i64 0))),none,1⟩])
 (.seq (.seq (.region 0 [] [
 ⟨(some 8),.load (some 12) (.tmp 2),none,0⟩,
 ⟨(some 9),.call 25 true [(.tmp 8)],none,0⟩,
 ⟨(some 6),.mov (.tmp 9),none,0⟩])
 (.seq (.region 0 [] [
 ⟨(some 10),.mov (.tmp 6),none,0⟩,
 ⟨(some 11),.bin .neq (.tmp 10) (.cst (.c (.int .i64 0))),none,0⟩])
 (.cond (.tmp 11)
 (.seq (.region 0 [] [
 ⟨(some 12),.mov (.tmp 6),none,0⟩,
 ⟨(some 4),.mov (.cst (.c .nilp)),none,0⟩,
 ⟨(some 5),.mov (.tmp 12),none,0⟩])
 .ret)
 .skip)))
 (.seq (.seq (.region 0 [] [
 ⟨(some 13),.mov (.tmp 1),none,0⟩,
 ⟨(some 14),.not (.tmp 13),none,0⟩])
 (.cond (.tmp 14)
 (.seq (.region 0 [] [
 ⟨(some 4),.mov (.cst (.c .nilp)),none,0⟩,
 ⟨(some 5),.mov (.cst (.c (.int .i64 2))),none,0⟩])
 .ret)
 .skip))
 (.seq (.region 0 [] [
 ⟨(some 15),.load (some 12) (.tmp 2),none,0⟩,
 ⟨(some 16),.call 38 false [(.tmp 15)],none,0⟩,
 ⟨(some 7),.mov (.tmp 16),none,0⟩])
 (.seq (.seq (.region 0 [] [
 ⟨(some 17),.mov (.tmp 7),none,0⟩,
 ⟨(some 18),.call 51 false [(.tmp 17),(.cst (.c .nils))],none,0⟩,
 ⟨(some 19),.not (.tmp 18),none,0⟩])
 (.cond (.tmp 19)
 (.seq (.region 0 [] [
 ⟨(some 4),.mov (.cst (.c .nilp)),none,0⟩,
 ⟨(some 5),.mov (.cst (.c (.int .i64 11))),none,0⟩])
 .ret)
 .skip))
 (.seq (.region 0 [] [
 ⟨(some 20),.mov (.tmp 7),none,0⟩,
 ⟨(some 4),.mov (.tmp 20),none,0⟩,
 ⟨(some 5),.mov (.cst (.c (.int .i64 0))),none,0⟩])
 .ret))))))⟩
def f41 : AFunc:=⟨9,[.tmp 4],false,
 (.seq (.region 1 [] [
 ⟨(some 2),.box (.tmp 0),none,0⟩,
 ⟨(some 4),.mov (.cst (.c (.bool false))),none,1⟩])
 (.seq (.region 0 [] [
 ⟨(some 5),.mov (.tmp 1),none,0⟩,
 ⟨(some 6),.faddr 0 (.tmp 2),none,0⟩,
 ⟨(some 7),.load none (.tmp 6),none,0⟩,
 ⟨(some 8),.call 58 true [(.tmp 5),(.cst (.c (.int .i64 0))),(.tmp 7)],none,0⟩,
 ⟨(some 4),.mov (.tmp 8),none,0⟩])
 .ret))⟩
def f42 : AFunc:=⟨6,[.tmp 4],false,
 (.seq (.region 2 [] [
 ⟨(some 2),.box (.tmp 0),none,0⟩,
 ⟨(some 3),.box (.tmp 1),none,1⟩,
 ⟨(some 4),.mov (.cst (.c .nilfn)),none,2⟩])
 (.seq (.region 0 [] [
 ⟨(some 5),.mkfn 84 none [(.tmp 2),(.tmp 3)],none,0⟩,
 ⟨(some 4),.mov (.tmp 5),none,0⟩])
 .ret))⟩
def f43 : AFunc:=⟨12,[.tmp 4],false,
 (.seq (.region 1 [] [
 ⟨(some 2),.box (.tmp 0),none,0⟩,
 ⟨(some 4),.mov (.cst (.c (.bool false))),none,1⟩])
 (.seq (.region 0 [] [
 ⟨(some 5),.mov (.tmp 1),none,0⟩,
 ⟨(some 6),.faddr 1 (.tmp 2),none,0⟩,
 ⟨(some 7),.load none (.tmp 6),none,0⟩,
 ⟨(some 8),.neg (.tmp 7),none,0⟩,
 ⟨(some 9),.faddr 1 (.tmp 2),none,0⟩,
 ⟨(some 10),.load none (.tmp 9),none,0⟩,
 ⟨(some 11),.call 58 true [(.tmp 5),(.tmp 8),(.tmp 10)],none,0⟩,
 ⟨(some 4),.mov (.tmp 11),none,0⟩])
 .ret))⟩
def f44 : AFunc:=⟨46,[.tmp 4],false,
 (.seq (.region 1 [] [
 ⟨(some 3),.box (.tmp 1),none,0⟩,
 ⟨(some 4),.mov (.cst (.c .nils)),none,1⟩])
 (.seq (.region 1 [] [
 ⟨(some 8),.build [(.int .i64 0),(.int .i64 0)] [],none,0⟩,
 ⟨(some 5),.alloc [(.int .i64 0),(.int .i64 0)],none,0⟩,
 ⟨none,.store (some 2) (.tmp 5) (.tmp 8),none,1⟩])
 (.seq (.seq (.region 0 [] [
 ⟨(some 9),.mov (.tmp 0),none,0⟩,
 ⟨(some 10),.nilchk (.tmp 9),none,0⟩,
 ⟨(some 11),.faddr 0 (.tmp 10),none,0⟩,
 ⟨(some 12),.load (some 12) (.tmp 11),none,0⟩,
 ⟨(some 13),.call 47 true [(.tmp 12)],none,0⟩,
 ⟨(some 14),.mov (.cst (.c (.int .i64 0))),none,0⟩])
 (.block 0 (.loop ⟨[6,7,15,16,17,18,19,20,21,22,23,24,25,26,27,28,29,30,31,32,33,34,35,36,37,38,39,40,41,42,43,44],false,[(4,none,2)]⟩
 (.seq (.region 0 [] [
 ⟨(some 15),.bin .lss (.tmp 14) (.tmp 13),none,0⟩])
 (.seq (.cond (.tmp 15)
 .skip
 (.exit 0))
 (.seq (.block 1 (.seq (.region 0 [] [
 ⟨(some 16),.mov (.tmp 14),none,0⟩,
 ⟨(some 6),.mov (.tmp 16),none,0⟩])
 (.seq (.region 1 [] [
 ⟨(some 17),.mov (.tmp 0),none,0⟩,
 ⟨(some 18),.load (some 64) (.tmp 3),none,0⟩,
 ⟨(some 19),.mov (.tmp 6),none,0⟩,
 ⟨(some 20),.call 59 false [(.tmp 17),(.tmp 18),(.tmp 19)],none,0⟩,
 ⟨(some 7),.alloc [(.int .i64 0),(.int .i64 0)],none,0⟩,
 ⟨none,.store (some 2) (.tmp 7) (.tmp 20),none,1⟩])
 (.seq (.region 1 [(0,3),(1,3),(2,3),(0,4),(1,4),(2,4),(0,6),(1,6),(2,6),(3,6),(4,6),(5,6),(0,7),(1,7),(2,7),(3,7),(4,7),(5,7),(0,8),(1,8),(2,8),(3,8),(4,8),(5,8),(0,9),(1,9),(2,9),(3,9),(4,9),(5,9),(6,9),(7,9),(8,9),(0,10),(1,10),(2,10),(3,10),(4,10),(5,10),(6,10),(7,10),(8,10),(0,11),(1,11),(2,11),(3,11),(4,11),(5,11),(0,12),(1,12),(2,12),(3,12),(4,12),(5,12)] [
 ⟨(some 21),.faddr 0 (.tmp 5),none,0⟩,
 ⟨(some 22),.load none (.tmp 21),none,0⟩,
 ⟨(some 23),.bin .sub (.tmp 22) (.cst (.c (.int .i64 9))),none,0⟩,
 ⟨(some 24),.faddr 0 (.tmp 7),none,0⟩,
 ⟨(some 25),.load none (.tmp 24),none,0⟩,
 ⟨(some 26),.mm true (.tmp 23) (.tmp 25),none,0⟩,
 ⟨(some 27),.faddr 1 (.tmp 5),none,0⟩,
 ⟨(some 28),.load none (.tmp 27),none,0⟩,
 ⟨(some 29),.bin .add (.tmp 28) (.cst (.c (.int .i64 9))),none,0⟩,
 ⟨(some 30),.faddr 1 (.tmp 7),none,0⟩,
 ⟨(some 31),.load none (.tmp 30),none,0⟩,
 ⟨(some 32),.bslice 1 2 [(.int .i64 0)] [(0,(.tmp 29)),(1,(.tmp 31))],none,0⟩,
 ⟨(some 33),.call 46 true [(.tmp 32)],none,1⟩,
 ⟨(some 34),.build [(.int .i64 0),(.int .i64 0)] [(0,1,(.tmp 26)),(1,1,(.tmp 33))],none,1⟩,
 ⟨none,.store (some 2) (.tmp 5) (.tmp 34),none,1⟩])
 (.seq (.seq (.region 0 [] [
 ⟨(some 35),.faddr 0 (.tmp 5),none,0⟩,
 ⟨(some 36),.load none (.tmp 35),none,0⟩,
 ⟨(some 37),.faddr 1 (.tmp 5),none,0⟩,
 ⟨(some 38),.load none (.tmp 37),none,0⟩,
 ⟨(some 39),.bin .gtr (.tmp 36) (.tmp 38),none,0⟩])
 (.cond (.tmp 39)
 (.exit 0)
 .skip))
 (.region 2 [] [
 ⟨(some 40),.mov (.tmp 4),none,0⟩,
 ⟨(some 41),.load (some 2) (.tmp 5),none,0⟩,
 ⟨(some 42),.bslice 2 1 [(.int .i64 0),(.int .i64 0)] [(0,(.tmp 41))],none,0⟩,
 ⟨(some 43),.append 2 16 (.tmp 40) (.tmp 42),none,1⟩,
 ⟨(some 4),.mov (.tmp 43),none,2⟩]))))))
 (.region 0 [] [
 ⟨(some 44),.bin .add (.tmp 14) (.cst (.c (.int .i64 1))),none,0⟩,
 ⟨(some 14),.mov (.tmp 44),none,0⟩])))))))
 (.seq (.region 0 [] [
 ⟨(some 45),.mov (.tmp 4),none,0⟩,
 ⟨(some 4),.mov (.tmp 45),none,0⟩])
 .ret))))⟩
def f45 : AFunc:=⟨87,[.cell 2 (some 64)],false,
 (.seq (.region 2 [] [
 ⟨(some 1),.box (.tmp 0),none,0⟩,
 ⟨(some 2),.alloc [(.int .i64 0),(.int .i64 0),(.int .i64 0),(.int .i64 0),(.int .i64 0),(.int .i64 0),(.int .i64 0),(.int .i64 0),(.int .i64 0),(.int .i64 0),(.int .i64 0),(.int .i64 0),(.int .i64 0),(.int .i64 0),(.int .i64 0),(.int .i64 0),(.int .i64 0),(.int .i64 0),.nils,(.int .i64 0),(.int .i64 0),.nils,(.int .i64 0),(.int .i64 0),.nils,(.int .i64 0),(.int .i64 0),.nils,(.int .i64 0),(.int .i64 0),.nils,(.int .i64 0),(.int .i64 0),.nils,(.int .i64 0),(.int .i64 0),.nils,(.int .i64 0),(.int .i64 0),.nils,(.int .i64 0),(.int .i64 0),.nils,(.int .i64 0),(.int .i64 0),.nils,(.int .i64 0),(.int .i64 0),.nils,(.int .i64 0),(.int .i64 0),.nils,(.int .i64 0),(.int .i64 0),.nils,(.int .i64 0),(.int .i64 0),.nils,(.int .i64 0),(.int .i64 0),.nils,(.int .i64 0),(.int .i64 0),.nils],none,1⟩])
 (.seq (.region 1 [] [
 ⟨(some 3),.alloc [(.bool false)],none,0⟩,
 ⟨none,.store none (.tmp 3) (.cst (.c (.bool true))),none,1⟩])
 (.seq (.region 1 [] [
 ⟨(some 4),.alloc [(.int .i64 0),(.int .i64 0),(.int .i64 0),(.int .i64 0),(.int .i64 0),(.int .i64 0),(.int .i64 0),(.int .i64 0)],none,0⟩])
 (.seq (.seq (.region 0 [] [
 ⟨(some 9),.load none (.tmp 1),none,0⟩,
 ⟨(some 10),.call 42 false [(.tmp 9),(.cst (.c .nils))],none,0⟩])
 (.block 0 (.range (.tmp 10) [11,12]
 (.region 1 [] [
 ⟨(some 5),.alloc [(.int .i64 0),(.int .i64 0),.nils],none,0⟩,
 ⟨none,.store (some 3) (.tmp 5) (.tmp 11),none,1⟩])
 (.block 1 (.seq (.region 1 [(0,4),(1,4),(2,4),(3,4),(0,6),(1,6),(2,6),(3,6),(4,6),(5,6)] [
 ⟨(some 13),.load none (.tmp 1),none,0⟩,
 ⟨(some 14),.nilchk (.tmp 13),none,0⟩,
 ⟨(some 15),.faddr 0 (.tmp 14),none,0⟩,
 ⟨(some 16),.load (some 12) (.tmp 15),none,0⟩,
 ⟨(some 17),.load (some 3) (.tmp 5),none,0⟩,
 ⟨(some 18),.call 87 true [(.tmp 16),(.tmp 17)],none,0⟩,
 ⟨(some 6),.alloc [(.int .i64 0),(.int .i64 0),(.int .i64 0),(.int .i64 0),(.int .i64 0),(.int .i64 0),(.int .i64 0),(.int .i64 0)],none,0⟩,
 ⟨none,.store (some 8) (.tmp 6) (.tmp 18),none,1⟩])
 (.seq (.seq (.region 0 [] [
 ⟨(some 19),.load none (.tmp 3),none,0⟩,
 ⟨(some 20),.not (.tmp 19),none,0⟩,
 ⟨(some 21),.mov (.tmp 20),none,0⟩,
 ⟨(some 22),.load (some 8) (.tmp 6),some (21,true),0⟩,
 ⟨(some 23),.load (some 8) (.tmp 4),some (21,true),0⟩,
 ⟨(some 24),.eqA false [(some .i64),(some .i64),(some .i64),(some .i64),(some .i64),(some .i64),(some .i64),(some .i64)] (.tmp 22) (.tmp 23),some (21,true),0⟩,
 ⟨(some 25),.pick (.tmp 21) (.tmp 24) (.cst (.c (.bool false))),none,0⟩])
 (.cond (.tmp 25)
 (.exit 1)
 .skip))
 (.seq (.region 2 [(0,2),(1,2),(0,3),(1,3),(0,4),(1,4),(2,4),(3,4),(0,5),(1,5),(2,5),(3,5),(0,6),(1,6),(2,6),(3,6),(0,8),(1,8),(2,8),(3,8),(4,8),(5,8),(6,8),(7,8)] [
 ⟨(some 26),.faddr 0 (.tmp 5),none,0⟩,
 ⟨(some 27),.load none (.tmp 26),none,0⟩,
 ⟨(some 28),.faddr 1 (.tmp 5),none,0⟩,
 ⟨(some 29),.load none (.tmp 28),none,0⟩,
 ⟨(some 30),.faddr 2 (.tmp 5),none,0⟩,
 ⟨(some 31),.load none (.tmp 30),none,0⟩,
 ⟨(some 32),.clone 52 1 8 (.tmp 31),none,0⟩,
 ⟨(some 33),.build [(.int .i64 0),(.int .i64 0),.nils] [(0,1,(.tmp 27)),(1,1,(.tmp 29)),(2,1,(.tmp 32))],none,1⟩,
 ⟨(some 7),.alloc [(.int .i64 0),(.int .i64 0),.nils],none,1⟩,
 ⟨none,.store (some 3) (.tmp 7) (.tmp 33),none,2⟩])
 (.seq (.seq (.region 0 [] [
 ⟨(some 34),.load none (.tmp 1),none,0⟩,
 ⟨(some 35),.nilchk (.tmp 34),none,0⟩,
 ⟨(some 36),.faddr 0 (.tmp 35),none,0⟩,
 ⟨(some 37),.load (some 12) (.tmp 36),none,0⟩,
 ⟨(some 38),.call 47 true [(.tmp 37)],none,0⟩,
 ⟨(some 39),.mov (.cst (.c (.int .i64 0))),none,0⟩])
 (.block 2 (.loop ⟨[8,40,41,42,43,44,45,46,47,48,49,50,51,52,53,54,55,56,57,58,59,60,61,62,63,64,65,66,67,68,69,70,71,72,73,74,75,76,77,78,79,80,81,82,83,84],false,[]⟩
 (.seq (.region 0 [] [
 ⟨(some 40),.bin .lss (.tmp 39) (.tmp 38),none,0⟩])
 (.seq (.cond (.tmp 40)
 .skip
 (.exit 2))
 (.seq (.block 3 (.seq (.region 0 [] [
 ⟨(some 41),.mov (.tmp 39),none,0⟩,
 ⟨(some 8),.mov (.tmp 41),none,0⟩])
 (.seq (.seq (.region 0 [(2,5),(3,5),(4,5),(2,6),(3,6),(4,6),(5,6),(2,7),(3,7),(4,7),(2,8),(3,8),(4,8)] [
 ⟨(some 42),.load none (.tmp 3),none,0⟩,
 ⟨(some 43),.mov (.tmp 42),none,0⟩,
 ⟨(some 44),.mov (.tmp 8),some (43,false),0⟩,
 ⟨(some 45),.iaddrA 8 1 (.tmp 6) (.tmp 44),some (43,false),0⟩,
 ⟨(some 46),.load none (.tmp 45),some (43,false),0⟩,
 ⟨(some 47),.mov (.tmp 8),some (43,false),0⟩,
 ⟨(some 48),.faddr 0 (.tmp 2),some (43,false),0⟩,
 ⟨(some 49),.iaddrA 8 1 (.tmp 48) (.tmp 47),some (43,false),0⟩,
 ⟨(some 50),.load none (.tmp 49),some (43,false),0⟩,
 ⟨(some 51),.bin .gtr (.tmp 46) (.tmp 50),some (43,false),0⟩,
 ⟨(some 52),.pick (.tmp 43) (.cst (.c (.bool true))) (.tmp 51),none,0⟩])
 (.cond (.tmp 52)
 (.region 0 [(0,1),(0,2),(1,2),(0,3),(1,3),(0,4),(1,4),(0,5),(1,5),(2,5),(3,5),(4,5),(0,6),(1,6),(2,6),(3,6),(4,6),(5,6),(1,7),(5,7),(1,8),(5,8),(0,9),(1,9),(2,9),(3,9),(4,9),(5,9),(6,9),(7,9),(8,9)] [
 ⟨(some 53),.mov (.tmp 8),none,0⟩,
 ⟨(some 54),.mov (.tmp 8),none,0⟩,
 ⟨(some 55),.mov (.tmp 8),none,0⟩,
 ⟨(some 56),.iaddrA 8 1 (.tmp 6) (.tmp 55),none,0⟩,
 ⟨(some 57),.load none (.tmp 56),none,0⟩,
 ⟨(some 58),.load (some 3) (.tmp 7),none,0⟩,
 ⟨(some 59),.faddr 0 (.tmp 2),none,0⟩,
 ⟨(some 60),.iaddrA 8 1 (.tmp 59) (.tmp 53),none,0⟩,
 ⟨none,.store none (.tmp 60) (.tmp 57),none,0⟩,
 ⟨(some 61),.faddr 16 (.tmp 2),none,0⟩,
 ⟨(some 62),.iaddrA 8 3 (.tmp 61) (.tmp 54),none,0⟩,
 ⟨none,.store (some 3) (.tmp 62) (.tmp 58),none,0⟩])
 .skip))
 (.seq (.region 0 [(2,5),(3,5),(4,5),(2,6),(3,6),(4,6),(5,6),(2,7),(3,7),(4,7),(2,8),(3,8),(4,8)] [
 ⟨(some 63),.load none (.tmp 3),none,0⟩,
 ⟨(some 64),.mov (.tmp 63),none,0⟩,
 ⟨(some 65),.mov (.tmp 8),some (64,false),0⟩,
 ⟨(some 66),.iaddrA 8 1 (.tmp 6) (.tmp 65),some (64,false),0⟩,
 ⟨(some 67),.load none (.tmp 66),some (64,false),0⟩,
 ⟨(some 68),.mov (.tmp 8),some (64,false),0⟩,
 ⟨(some 69),.faddr 8 (.tmp 2),some (64,false),0⟩,
 ⟨(some 70),.iaddrA 8 1 (.tmp 69) (.tmp 68),some (64,false),0⟩,
 ⟨(some 71),.load none (.tmp 70),some (64,false),0⟩,
 ⟨(some 72),.bin .lss (.tmp 67) (.tmp 71),some (64,false),0⟩,
 ⟨(some 73),.pick (.tmp 64) (.cst (.c (.bool true))) (.tmp 72),none,0⟩])
 (.cond (.tmp 73)
 (.region 0 [(0,1),(0,2),(1,2),(0,3),(1,3),(0,4),(1,4),(0,5),(1,5),(2,5),(3,5),(4,5),(0,6),(1,6),(2,6),(3,6),(4,6),(5,6),(1,7),(5,7),(1,8),(5,8),(0,9),(1,9),(2,9),(3,9),(4,9),(5,9),(6,9),(7,9),(8,9)] [
 ⟨(some 74),.mov (.tmp 8),none,0⟩,
 ⟨(some 75),.mov (.tmp 8),none,0⟩,
 ⟨(some 76),.mov (.tmp 8),none,0⟩,
 ⟨(some 77),.iaddrA 8 1 (.tmp 6) (.tmp 76),none,0⟩,
 ⟨(some 78),.load none (.tmp 77),none,0⟩,
 ⟨(some 79),.load (some 3) (.tmp 7),none,0⟩,
 ⟨(some 80),.faddr 8 (.tmp 2),none,0⟩,
 ⟨(some 81),.iaddrA 8 1 (.tmp 80) (.tmp 74),none,0⟩,
 ⟨none,.store none (.tmp 81) (.tmp 78),none,0⟩,
 ⟨(some 82),.faddr 40 (.tmp 2),none,0⟩,
 ⟨(some 83),.iaddrA 8 3 (.tmp 82) (.tmp 75),none,0⟩,
 ⟨none,.store (some 3) (.tmp 83) (.tmp 79),none,0⟩])
 .skip)))))
 (.region 0 [] [
 ⟨(some 84),.bin .add (.tmp 39) (.cst (.c (.int .i64 1))),none,0⟩,
 ⟨(some 39),.mov (.tmp 84),none,0⟩])))))))
 (.region 0 [(0,1)] [
 ⟨(some 85),.load (some 8) (.tmp 6),none,0⟩,
 ⟨none,.store none (.tmp 3) (.cst (.c (.bool false))),none,0⟩,
 ⟨none,.store (some 8) (.tmp 4) (.tmp 85),none,0⟩])))))))))
 (.seq (.region 0 [] [
 ⟨(some 86),.load (some 64) (.tmp 2),none,0⟩,
 ⟨none,.store (some 64) (.tmp 2) (.tmp 86),none,0⟩])
 .ret)))))⟩
def f46 : AFunc:=⟨5,[.tmp 2],false,
 (.seq (.region 0 [] [
 ⟨(some 2),.mov (.cst (.c (.int .i64 0))),none,0⟩])
 (.seq (.region 0 [] [
 ⟨(some 3),.mov (.tmp 0),none,0⟩,
 ⟨(some 4),.call 88 true [(.tmp 3)],none,0⟩,
 ⟨(some 2),.mov (.tmp 4),none,0⟩])
 .ret))⟩
def f47 : AFunc:=⟨6,[.tmp 2],false,
 (.seq (.region 1 [] [
 ⟨(some 1),.box (.tmp 0),none,0⟩,
 ⟨(some 2),.mov (.cst (.c (.int .i64 0))),none,1⟩])
 (.seq (.region 0 [] [
 ⟨(some 3),.faddr 0 (.tmp 1),none,0⟩,
 ⟨(some 4),.load none (.tmp 3),none,0⟩,
 ⟨(some 5),.bin .add (.tmp 4) (.cst (.c (.int .i64 1))),none,0⟩,
 ⟨(some 2),.mov (.tmp 5),none,0⟩])
 .ret))⟩
def f48 : AFunc:=⟨14,[.tmp 2],false,
 (.seq (.region 0 [] [
 ⟨(some 2),.mov (.cst (.c .nils)),none,0⟩])
 (.seq (.seq (.region 0 [] [
 ⟨(some 4),.mov (.tmp 0),none,0⟩,
 ⟨(some 3),.mov (.tmp 4),none,0⟩])
 (.block 0 (.loop ⟨[5,6,7,8,9,10,11,12],true,[(2,none,1)]⟩
 (.seq (.seq (.region 0 [] [
 ⟨(some 5),.mov (.tmp 3),none,0⟩,
 ⟨(some 6),.bin .geq (.tmp 5) (.cst (.c (.int .i64 (-1)))),none,0⟩])
 (.cond (.tmp 6)
 .skip
 (.exit 0)))
 (.seq (.block 1 (.region 2 [] [
 ⟨(some 9),.mov (.tmp 2),none,0⟩,
 ⟨(some 10),.mov (.tmp 3),none,0⟩,
 ⟨(some 11),.bslice 1 1 [(.int .i64 0)] [(0,(.tmp 10))],none,0⟩,
 ⟨(some 12),.append 1 8 (.tmp 9) (.tmp 11),none,1⟩,
 ⟨(some 2),.mov (.tmp 12),none,2⟩]))
 (.region 0 [] [
 ⟨(some 7),.mov (.tmp 3),none,0⟩,
 ⟨(some 8),.bin .sub (.tmp 7) (.cst (.c (.int .i64 1))),none,0⟩,
 ⟨(some 3),.mov (.tmp 8),none,0⟩]))))))
 (.seq (.region 0 [] [
 ⟨(some 13),.mov (.tmp 2),none,0⟩,
 ⟨(some 2),.mov (.tmp 13),none,0⟩])
 .ret)))⟩
def f49 : AFunc:=⟨50,[.tmp 4],false,
 (.seq (.region 2 [] [
 ⟨(some 2),.box (.tmp 0),none,0⟩,
 ⟨(some 3),.box (.tmp 1),none,1⟩,
 ⟨(some 4),.mov (.cst (.c (.bool false))),none,2⟩])
 (.seq (.region 0 [] [
 ⟨(some 5),.mov (.cst (.c (.int .i64 0))),none,0⟩])
 (.seq (.seq (.region 0 [] [
 ⟨(some 6),.faddr 0 (.tmp 3),none,0⟩,
 ⟨(some 7),.load none (.tmp 6),none,0⟩,
 ⟨(some 8),.bin .geq (.tmp 7) (.cst (.c (.int .i64 0))),none,0⟩])
 (.cond (.tmp 8)
 (.region 0 [(0,1),(0,2),(1,2),(0,3),(1,3),(0,4),(0,5),(1,5),(2,5),(3,5),(4,5),(0,6),(1,6),(2,6),(3,6),(4,6),(0,7),(0,8),(1,8),(2,8),(3,8),(4,8),(5,8),(6,8),(7,8),(0,9),(1,9),(2,9),(3,9),(4,9),(5,9),(6,9),(7,9),(0,10)] [
 ⟨(some 9),.mov (.tmp 5),none,0⟩,
 ⟨(some 10),.load (some 12) (.tmp 2),none,0⟩,
 ⟨(some 11),.faddr 2 (.tmp 3),none,0⟩,
 ⟨(some 12),.load (some 3) (.tmp 11),none,0⟩,
 ⟨(some 13),.call 87 true [(.tmp 10),(.tmp 12)],none,0⟩,
 ⟨(some 14),.faddr 0 (.tmp 3),none,0⟩,
 ⟨(some 15),.load none (.tmp 14),none,0⟩,
 ⟨(some 16),.idx 8 1 none (.tmp 13) (.tmp 15),none,0⟩,
 ⟨(some 17),.faddr 1 (.tmp 2),none,0⟩,
 ⟨(some 18),.load none (.tmp 17),none,0⟩,
 ⟨(some 19),.bin .sub (.tmp 16) (.tmp 18),none,0⟩,
 ⟨(some 20),.bin .add (.tmp 9) (.tmp 19),none,0⟩,
 ⟨(some 5),.mov (.tmp 20),none,0⟩])
 .skip))
 (.seq (.seq (.region 0 [] [
 ⟨(some 21),.faddr 1 (.tmp 3),none,0⟩,
 ⟨(some 22),.load none (.tmp 21),none,0⟩,
 ⟨(some 23),.bin .geq (.tmp 22) (.cst (.c (.int .i64 0))),none,0⟩])
 (.cond (.tmp 23)
 (.region 0 [(0,1),(0,2),(0,3),(1,3),(2,3),(0,4),(1,4),(2,4),(3,4),(0,5),(1,5),(2,5),(3,5),(0,6),(1,6),(2,6),(0,7),(1,7),(2,7),(3,7),(4,7),(5,7),(6,7),(0,8),(1,8),(2,8),(3,8),(4,8),(5,8),(6,8),(0,9),(1,9),(2,9),(0,10)] [
 ⟨(some 24),.mov (.tmp 5),none,0⟩,
 ⟨(some 25),.faddr 1 (.tmp 2),none,0⟩,
 ⟨(some 26),.load none (.tmp 25),none,0⟩,
 ⟨(some 27),.load (some 12) (.tmp 2),none,0⟩,
 ⟨(some 28),.faddr 5 (.tmp 3),none,0⟩,
 ⟨(some 29),.load (some 3) (.tmp 28),none,0⟩,
 ⟨(some 30),.call 87 true [(.tmp 27),(.tmp 29)],none,0⟩,
 ⟨(some 31),.faddr 1 (.tmp 3),none,0⟩,
 ⟨(some 32),.load none (.tmp 31),none,0⟩,
 ⟨(some 33),.idx 8 1 none (.tmp 30) (.tmp 32),none,0⟩,
 ⟨(some 34),.bin .add (.tmp 26) (.tmp 33),none,0⟩,
 ⟨(some 35),.bin .sub (.tmp 24) (.tmp 34),none,0⟩,
 ⟨(some 5),.mov (.tmp 35),none,0⟩])
 .skip))
 (.seq (.region 0 [] [
 ⟨(some 36),.mov (.tmp 5),none,0⟩,
 ⟨(some 37),.faddr 0 (.tmp 3),none,0⟩,
 ⟨(some 38),.load none (.tmp 37),none,0⟩,
 ⟨(some 39),.faddr 1 (.tmp 3),none,0⟩,
 ⟨(some 40),.load none (.tmp 39),none,0⟩,
 ⟨(some 41),.bin .sub (.tmp 38) (.tmp 40),none,0⟩,
 ⟨(some 42),.faddr 1 (.tmp 3),none,0⟩,
 ⟨(some 43),.load none (.tmp 42),none,0⟩,
 ⟨(some 44),.faddr 0 (.tmp 3),none,0⟩,
 ⟨(some 45),.load none (.tmp 44),none,0⟩,
 ⟨(some 46),.bin .sub (.tmp 43) (.tmp 45),none,0⟩,
 ⟨(some 47),.mm true (.tmp 41) (.tmp 46),none,0⟩,
 ⟨(some 48),.bin .mul (.cst (.c (.int .i64 9))) (.tmp 47),none,0⟩,
 ⟨(some 49),.bin .gtr (.tmp 36) (.tmp 48),none,0⟩,
 ⟨(some 4),.mov (.tmp 49),none,0⟩])
 .ret)))))⟩
def f50 : AFunc:=⟨39,[.tmp 10],false,
 (.seq (.region 0 [] [
 ⟨(some 10),.mov (.cst (.c (.bool false))),none,0⟩])
 (.seq (.seq (.region 0 [] [
 ⟨(some 12),.mov (.tmp 2),none,0⟩,
 ⟨(some 13),.bin .eql (.tmp 12) (.cst (.c (.int .i64 0))),none,0⟩])
 (.cond (.tmp 13)
 (.seq (.region 0 [] [
 ⟨(some 14),.mov (.tmp 0),none,0⟩,
 ⟨none,.store none (.tmp 3) (.tmp 14),none,0⟩])
 (.seq (.region 0 [] [
 ⟨(some 15),.load none (.tmp 4),none,0⟩,
 ⟨(some 16),.mov (.tmp 0),none,0⟩,
 ⟨(some 17),.call 51 false [(.tmp 15),(.tmp 16)],none,0⟩,
 ⟨(some 10),.mov (.tmp 17),none,0⟩])
 .ret))
 .skip))
 (.seq (.seq (.region 0 [] [
 ⟨(some 18),.mov (.tmp 1),none,0⟩,
 ⟨(some 11),.mov (.tmp 18),none,0⟩])
 (.block 0 (.loop ⟨[10,19,20,21,22,23,24,25,26,27,28,29,30,31,32,33,34,35,36,37,38],false,[]⟩
 (.seq (.seq (.region 0 [] [
 ⟨(some 19),.mov (.tmp 11),none,0⟩,
 ⟨(some 20),.faddr 11 (.tmp 5),none,0⟩,
 ⟨(some 21),.load none (.tmp 20),none,0⟩,
 ⟨(some 22),.len (.tmp 21),none,0⟩,
 ⟨(some 23),.mov (.tmp 2),none,0⟩,
 ⟨(some 24),.bin .sub (.tmp 22) (.tmp 23),none,0⟩,
 ⟨(some 25),.bin .leq (.tmp 19) (.tmp 24),none,0⟩])
 (.cond (.tmp 25)
 .skip
 (.exit 0)))
 (.seq (.block 1 (.seq (.region 3 [(0,1),(0,2),(0,3),(1,3),(2,3),(0,4),(1,4),(2,4),(0,5),(0,6),(1,6),(2,6),(3,6),(4,6),(5,6),(0,7),(1,7),(2,7),(3,7),(4,7),(5,7),(0,8),(1,8),(2,8),(3,8),(4,8),(5,8),(6,8),(7,8),(0,9),(1,9),(2,9),(3,9),(4,9),(5,9),(6,9),(7,9)] [
 ⟨(some 28),.load none (.tmp 6),none,0⟩,
 ⟨(some 29),.mov (.tmp 0),none,0⟩,
 ⟨(some 30),.clone 52 1 8 (.tmp 29),none,0⟩,
 ⟨(some 31),.mov (.tmp 11),none,1⟩,
 ⟨(some 32),.bslice 1 1 [(.int .i64 0)] [(0,(.tmp 31))],none,1⟩,
 ⟨(some 33),.append 1 8 (.tmp 30) (.tmp 32),none,2⟩,
 ⟨(some 34),.mov (.tmp 11),none,3⟩,
 ⟨(some 35),.bin .add (.tmp 34) (.cst (.c (.int .i64 1))),none,3⟩,
 ⟨(some 36),.mov (.tmp 2),none,3⟩,
 ⟨(some 37),.bin .sub (.tmp 36) (.cst (.c (.int .i64 1))),none,3⟩,
 ⟨(some 38),.callv (.tmp 28) [(.tmp 33),(.tmp 35),(.tmp 37)],none,3⟩])
 (.cond (.tmp 38)
 (.seq (.region 0 [] [
 ⟨(some 10),.mov (.cst (.c (.bool true))),none,0⟩])
 .ret)
 .skip)))
 (.region 0 [] [
 ⟨(some 26),.mov (.tmp 11),none,0⟩,
 ⟨(some 27),.bin .add (.tmp 26) (.cst (.c (.int .i64 1))),none,0⟩,
 ⟨(some 11),.mov (.tmp 27),none,0⟩]))))))
 (.seq (.region 0 [] [
 ⟨(some 10),.mov (.cst (.c (.bool false))),none,0⟩])
 .ret))))⟩
def f51 : AFunc:=⟨10,[.cell 4 none],false,
 (.seq (.region 1 [] [
 ⟨(some 4),.alloc [(.bool false)],none,0⟩])
 (.seq (.seq (.region 0 [] [
 ⟨(some 5),.mov (.tmp 0),none,0⟩,
 ⟨(some 6),.mov (.tmp 1),none,0⟩,
 ⟨(some 7),.call 42 false [(.tmp 5),(.tmp 6)],none,0⟩])
 (.block 0 (.range (.tmp 7) [8,9]
 .skip
 (.block 1 (.seq (.region 0 [] [
 ⟨none,.store none (.tmp 4) (.cst (.c (.bool true))),none,0⟩])
 .ret)))))
 (.seq (.region 0 [] [
 ⟨none,.store none (.tmp 4) (.cst (.c (.bool false))),none,0⟩])
 .ret)))⟩
def f52 : AFunc:=⟨8,[.tmp 2],false,
 (.seq (.region 0 [] [
 ⟨(some 2),.mov (.cst (.c .nils)),none,0⟩])
 (.seq (.seq (.region 0 [] [
 ⟨(some 3),.mov (.tmp 0),none,0⟩,
 ⟨(some 4),.isnil false (.tmp 3),none,0⟩])
 (.cond (.tmp 4)
 (.seq (.region 0 [] [
 ⟨(some 2),.mov (.cst (.c .nils)),none,0⟩])
 .ret)
 .skip))
 (.seq (.region 2 [] [
 ⟨(some 5),.bslice 1 0 [(.int .i64 0)] [],none,0⟩,
 ⟨(some 6),.mov (.tmp 0),none,1⟩,
 ⟨(some 7),.append 1 8 (.tmp 5) (.tmp 6),none,1⟩,
 ⟨(some 2),.mov (.tmp 7),none,2⟩])
 .ret)))⟩
def f53 : AFunc:=⟨9,[.tmp 4],false,
 (.seq (.region 1 [] [
 ⟨(some 3),.box (.tmp 1),none,0⟩,
 ⟨(some 4),.mov (.cst (.c (.bool false))),none,1⟩])
 (.seq (.region 0 [] [
 ⟨(some 5),.mov (.tmp 0),none,0⟩,
 ⟨(some 6),.mkfn 90 none [(.tmp 3)],none,0⟩,
 ⟨(some 7),.call 89 false [(.tmp 5),(.tmp 6)],none,0⟩,
 ⟨(some 8),.not (.tmp 7),none,0⟩,
 ⟨(some 4),.mov (.tmp 8),none,0⟩])
 .ret))⟩
def f54 : AFunc:=⟨7,[.tmp 3],false,
 (.seq (.region 1 [] [
 ⟨(some 2),.box (.tmp 0),none,0⟩,
 ⟨(some 3),.mov (.cst (.c (.bool false))),none,1⟩])
 (.seq (.region 0 [] [
 ⟨(some 4),.load (some 4) (.tmp 2),none,0⟩,
 ⟨(some 5),.load none (.tmp 1),none,0⟩,
 ⟨(some 6),.call 55 true [(.tmp 4),(.tmp 5)],none,0⟩,
 ⟨(some 3),.mov (.tmp 6),none,0⟩])
 .ret))⟩
def f55 : AFunc:=⟨25,[.tmp 4],false,
 (.seq (.region 1 [] [
 ⟨(some 2),.box (.tmp 0),none,0⟩,
 ⟨(some 4),.mov (.cst (.c (.bool false))),none,1⟩])
 (.seq (.seq (.region 0 [] [
 ⟨(some 5),.faddr 1 (.tmp 2),none,0⟩,
 ⟨(some 6),.load none (.tmp 5),none,0⟩])
 (.cond (.tmp 6)
 (.seq (.region 0 [(0,2),(1,2),(0,3),(1,3),(2,3),(0,4),(1,4),(2,4),(0,5),(1,5),(0,6),(1,6),(0,7),(1,7)] [
 ⟨(some 7),.faddr 2 (.tmp 2),none,0⟩,
 ⟨(some 8),.load (some 2) (.tmp 7),none,0⟩,
 ⟨(some 9),.mov (.tmp 1),none,0⟩,
 ⟨(some 10),.faddr 0 (.tmp 2),none,0⟩,
 ⟨(some 11),.load none (.tmp 10),none,0⟩,
 ⟨(some 12),.iaddr 2 (.tmp 9) (.tmp 11),none,0⟩,
 ⟨(some 13),.faddr 0 (.tmp 12),none,0⟩,
 ⟨(some 14),.load none (.tmp 13),none,0⟩,
 ⟨(some 15),.call 60 true [(.tmp 8),(.tmp 14)],none,0⟩,
 ⟨(some 4),.mov (.tmp 15),none,0⟩])
 .ret)
 .skip))
 (.seq (.region 0 [(0,2),(1,2),(0,3),(1,3),(2,3),(0,4),(1,4),(2,4),(0,5),(1,5),(0,6),(1,6),(0,7),(1,7)] [
 ⟨(some 16),.faddr 2 (.tmp 2),none,0⟩,
 ⟨(some 17),.load (some 2) (.tmp 16),none,0⟩,
 ⟨(some 18),.mov (.tmp 1),none,0⟩,
 ⟨(some 19),.faddr 0 (.tmp 2),none,0⟩,
 ⟨(some 20),.load none (.tmp 19),none,0⟩,
 ⟨(some 21),.iaddr 2 (.tmp 18) (.tmp 20),none,0⟩,
 ⟨(some 22),.faddr 1 (.tmp 21),none,0⟩,
 ⟨(some 23),.load none (.tmp 22),none,0⟩,
 ⟨(some 24),.call 60 true [(.tmp 17),(.tmp 23)],none,0⟩,
 ⟨(some 4),.mov (.tmp 24),none,0⟩])
 .ret)))⟩
def f56 : AFunc:=⟨9,[.tmp 4],false,
 (.seq (.region 1 [] [
 ⟨(some 3),.box (.tmp 1),none,0⟩,
 ⟨(some 4),.mov (.cst (.c (.bool false))),none,1⟩])
 (.seq (.region 0 [] [
 ⟨(some 5),.mov (.tmp 0),none,0⟩,
 ⟨(some 6),.mkfn 92 none [(.tmp 3)],none,0⟩,
 ⟨(some 7),.call 91 false [(.tmp 5),(.tmp 6)],none,0⟩,
 ⟨(some 8),.not (.tmp 7),none,0⟩,
 ⟨(some 4),.mov (.tmp 8),none,0⟩])
 .ret))⟩
def f57 : AFunc:=⟨5,[.tmp 2],false,
 (.seq (.region 0 [] [
 ⟨(some 2),.mov (.cst (.c (.bool false))),none,0⟩])
 (.seq (.region 0 [] [
 ⟨(some 3),.mov (.tmp 0),none,0⟩,
 ⟨(some 4),.call 58 true [(.tmp 3),(.cst (.c (.int .i64 (-9)))),(.cst (.c (.int .i64 9)))],none,0⟩,
 ⟨(some 2),.mov (.tmp 4),none,0⟩])
 .ret))⟩
def f58 : AFunc:=⟨15,[.tmp 6],false,
 (.seq (.region 0 [] [
 ⟨(some 6),.mov (.cst (.c (.bool false))),none,0⟩])
 (.seq (.region 0 [] [
 ⟨(some 7),.mov (.tmp 1),none,0⟩,
 ⟨(some 8),.mov (.tmp 0),none,0⟩,
 ⟨(some 9),.bin .leq (.tmp 7) (.tmp 8),none,0⟩,
 ⟨(some 10),.mov (.tmp 9),none,0⟩,
 ⟨(some 11),.mov (.tmp 0),some (10,true),0⟩,
 ⟨(some 12),.mov (.tmp 2),some (10,true),0⟩,
 ⟨(some 13),.bin .leq (.tmp 11) (.tmp 12),some (10,true),0⟩,
 ⟨(some 14),.pick (.tmp 10) (.tmp 13) (.cst (.c (.bool false))),none,0⟩,
 ⟨(some 6),.mov (.tmp 14),none,0⟩])
 .ret))⟩
def f59 : AFunc:=⟨29,[.cell 6 (some 2)],false,
 (.seq (.region 2 [] [
 ⟨(some 4),.box (.tmp 1),none,0⟩,
 ⟨(some 6),.alloc [(.int .i64 0),(.int .i64 0)],none,1⟩])
 (.seq (.region 0 [(0,6),(1,6),(2,6),(3,6),(4,6),(5,6),(0,7),(1,7),(2,7),(3,7),(4,7),(5,7),(6,7),(0,8),(1,8),(2,8),(3,8),(4,8),(5,8),(0,9),(1,9),(2,9),(3,9),(4,9),(5,9),(0,11),(1,11),(2,11),(3,11),(4,11),(5,11),(6,11),(7,11),(8,11),(9,11),(10,11),(0,12),(1,12),(2,12),(3,12),(4,12),(5,12),(6,12),(7,12),(8,12),(9,12),(10,12),(0,13),(1,13),(2,13),(3,13),(4,13),(5,13),(6,13),(7,13),(8,13),(9,13),(10,13),(0,14),(1,14),(2,14),(3,14),(4,14),(5,14),(6,14),(7,14),(8,14),(9,14),(10,14),(0,15),(1,15),(2,15),(3,15),(4,15),(5,15),(6,15),(7,15),(8,15),(9,15),(10,15),(0,16),(1,16),(2,16),(3,16),(4,16),(5,16),(6,16),(7,16),(8,16),(9,16),(10,16),(11,16),(12,16),(13,16),(14,16),(15,16),(0,17),(1,17),(2,17),(3,17),(4,17),(5,17),(6,17),(7,17),(8,17),(9,17),(10,17),(11,17),(12,17),(13,17),(14,17),(15,17),(16,17),(0,18),(1,18),(2,18),(3,18),(4,18),(5,18),(6,18),(7,18),(8,18),(9,18),(10,18),(11,18),(12,18),(13,18),(14,18),(15,18),(0,19),(1,19),(2,19),(3,19),(4,19),(5,19),(6,19),(7,19),(8,19),(9,19),(10,19),(11,19),(12,19),(13,19),(14,19),(15,19),(0,20),(1,20),(2,20),(3,20),(4,20),(5,20),(6,20),(7,20),(8,20),(9,20),(10,20)] [
 ⟨(some 7),.mov (.tmp 0),none,0⟩,
 ⟨(some 8),.nilchk (.tmp 7),none,0⟩,
 ⟨(some 9),.faddr 0 (.tmp 8),none,0⟩,
 ⟨(some 10),.faddr 1 (.tmp 9),none,0⟩,
 ⟨(some 11),.load none (.tmp 10),none,0⟩,
 ⟨(some 12),.neg (.tmp 11),none,0⟩,
 ⟨(some 13),.mov (.tmp 2),none,0⟩,
 ⟨(some 14),.faddr 8 (.tmp 4),none,0⟩,
 ⟨(some 15),.iaddrA 8 1 (.tmp 14) (.tmp 13),none,0⟩,
 ⟨(some 16),.load none (.tmp 15),none,0⟩,
 ⟨(some 17),.bin .sub (.tmp 12) (.tmp 16),none,0⟩,
 ⟨(some 18),.mov (.tmp 0),none,0⟩,
 ⟨(some 19),.nilchk (.tmp 18),none,0⟩,
 ⟨(some 20),.faddr 0 (.tmp 19),none,0⟩,
 ⟨(some 21),.faddr 1 (.tmp 20),none,0⟩,
 ⟨(some 22),.load none (.tmp 21),none,0⟩,
 ⟨(some 23),.mov (.tmp 2),none,0⟩,
 ⟨(some 24),.faddr 0 (.tmp 4),none,0⟩,
 ⟨(some 25),.iaddrA 8 1 (.tmp 24) (.tmp 23),none,0⟩,
 ⟨(some 26),.load none (.tmp 25),none,0⟩,
 ⟨(some 27),.bin .sub (.tmp 22) (.tmp 26),none,0⟩,
 ⟨(some 28),.build [(.int .i64 0),(.int .i64 0)] [(0,1,(.tmp 17)),(1,1,(.tmp 27))],none,0⟩,
 ⟨none,.store (some 2) (.tmp 6) (.tmp 28),none,0⟩])
 .ret))⟩
def f60 : AFunc:=⟨11,[.tmp 4],false,
 (.seq (.region 1 [] [
 ⟨(some 2),.box (.tmp 0),none,0⟩,
 ⟨(some 4),.mov (.cst (.c (.bool false))),none,1⟩])
 (.seq (.region 0 [] [
 ⟨(some 5),.mov (.tmp 1),none,0⟩,
 ⟨(some 6),.faddr 0 (.tmp 2),none,0⟩,
 ⟨(some 7),.load none (.tmp 6),none,0⟩,
 ⟨(some 8),.faddr 1 (.tmp 2),none,0⟩,
 ⟨(some 9),.load none (.tmp 8),none,0⟩,
 ⟨(some 10),.call 58 true [(.tmp 5),(.tmp 7),(.tmp 9)],none,0⟩,
 ⟨(some 4),.mov (.tmp 10),none,0⟩])
 .ret))⟩
def f61 : AFunc:=⟨5,[.tmp 2],false,
 (.seq (.region 0 [] [
 ⟨(some 2),.mov (.cst (.c (.bool false))),none,0⟩])
 (.seq (.region 0 [] [
 ⟨(some 3),.mov (.tmp 0),none,0⟩,
 ⟨(some 4),.call 58 true [(.tmp 3),(.cst (.c (.int .i64 0))),(.cst (.c (.int .i64 20)))],none,0⟩,
 ⟨(some 2),.mov (.tmp 4),none,0⟩])
 .ret))⟩
def f62 : AFunc:=⟨36,[.tmp 6],false,
 (.seq (.region 1 [] [
 ⟨(some 4),.box (.tmp 1),none,0⟩,
 ⟨(some 6),.mov (.cst (.c .nils)),none,1⟩])
 (.seq (.region 1 [(0,2),(1,2),(0,3),(1,3),(0,4),(1,4),(0,5),(1,5),(0,6),(1,6),(2,6),(3,6),(4,6),(5,6),(0,7),(1,7),(2,7),(3,7),(4,7),(5,7),(0,8),(1,8),(0,10),(1,10),(2,10),(3,10),(4,10),(5,10),(6,10),(7,10),(8,10),(9,10)] [
 ⟨(some 10),.faddr 1 (.tmp 4),none,0⟩,
 ⟨(some 11),.load none (.tmp 10),none,0⟩,
 ⟨(some 12),.mov (.tmp 0),none,0⟩,
 ⟨(some 13),.nilchk (.tmp 12),none,0⟩,
 ⟨(some 14),.faddr 0 (.tmp 13),none,0⟩,
 ⟨(some 15),.load (some 12) (.tmp 14),none,0⟩,
 ⟨(some 16),.faddr 0 (.tmp 4),none,0⟩,
 ⟨(some 17),.load none (.tmp 16),none,0⟩,
 ⟨(some 18),.call 43 true [(.tmp 15),(.tmp 17)],none,0⟩,
 ⟨(some 19),.build [(.int .i64 0),(.bool false)] [(0,1,(.tmp 11)),(1,1,(.tmp 18))],none,0⟩,
 ⟨(some 7),.alloc [(.int .i64 0),(.bool false)],none,0⟩,
 ⟨none,.store (some 2) (.tmp 7) (.tmp 19),none,1⟩])
 (.seq (.seq (.region 0 [] [
 ⟨(some 20),.mov (.tmp 2),none,0⟩,
 ⟨(some 21),.mov (.cst (.c (.int .i64 0))),none,0⟩])
 (.block 0 (.loop ⟨[8,9,22,23,24,25,26,27,28,29,30,31,32,33,34],false,[(6,none,1)]⟩
 (.seq (.region 0 [] [
 ⟨(some 22),.bin .lss (.tmp 21) (.tmp 20),none,0⟩])
 (.seq (.cond (.tmp 22)
 .skip
 (.exit 0))
 (.seq (.block 1 (.seq (.region 1 [] [
 ⟨(some 24),.mov (.tmp 0),none,0⟩,
 ⟨(some 25),.load (some 2) (.tmp 7),none,0⟩,
 ⟨(some 26),.call 93 false [(.tmp 24),(.tmp 25)],none,0⟩,
 ⟨(some 23),.mov (.tmp 26),none,0⟩,
 ⟨(some 27),.extract 0 (.tmp 23),none,0⟩,
 ⟨(some 28),.extract 1 (.tmp 23),none,0⟩,
 ⟨(some 9),.alloc [(.int .i64 0),(.bool false)],none,0⟩,
 ⟨(some 8),.mov (.tmp 27),none,1⟩,
 ⟨none,.store (some 2) (.tmp 9) (.tmp 28),none,1⟩])
 (.region 2 [(0,1),(0,2),(0,4),(1,4),(2,4),(3,4),(4,5)] [
 ⟨(some 29),.mov (.tmp 6),none,0⟩,
 ⟨(some 30),.mov (.tmp 8),none,0⟩,
 ⟨(some 31),.bslice 1 1 [(.int .i64 0)] [(0,(.tmp 30))],none,0⟩,
 ⟨(some 32),.append 1 8 (.tmp 29) (.tmp 31),none,1⟩,
 ⟨(some 33),.load (some 2) (.tmp 9),none,2⟩,
 ⟨(some 6),.mov (.tmp 32),none,2⟩,
 ⟨none,.store (some 2) (.tmp 7) (.tmp 33),none,2⟩])))
 (.region 0 [] [
 ⟨(some 34),.bin .add (.tmp 21) (.cst (.c (.int .i64 1))),none,0⟩,
 ⟨(some 21),.mov (.tmp 34),none,0⟩])))))))
 (.seq (.region 0 [] [
 ⟨(some 35),.mov (.tmp 6),none,0⟩,
 ⟨(some 6),.mov (.tmp 35),none,0⟩])
 .ret))))⟩
def f63 : AFunc:=⟨24,[.cell 4 (some 2)],false,
 (.seq (.region 2 [] [
 ⟨(some 3),.box (.tmp 1),none,0⟩,
 ⟨(some 4),.alloc [(.int .i64 0),(.int .i64 0)],none,1⟩])
 (.seq (.region 1 [] [
 ⟨(some 5),.alloc [(.bool false)],none,0⟩,
 ⟨none,.store none (.tmp 5) (.cst (.c (.bool true))),none,1⟩])
 (.seq (.seq (.region 0 [] [
 ⟨(some 9),.mov (.tmp 0),none,0⟩,
 ⟨(some 10),.call 42 false [(.tmp 9),(.cst (.c .nils))],none,0⟩])
 (.block 0 (.range (.tmp 10) [11,12]
 (.region 0 [] [
 ⟨(some 7),.mov (.tmp 12),none,0⟩])
 (.block 1 (.seq (.region 0 [] [
 ⟨(some 13),.load none (.tmp 3),none,0⟩,
 ⟨(some 14),.mov (.tmp 7),none,0⟩,
 ⟨(some 15),.callv (.tmp 13) [(.tmp 14)],none,0⟩,
 ⟨(some 8),.mov (.tmp 15),none,0⟩])
 (.seq (.seq (.region 0 [] [
 ⟨(some 16),.load none (.tmp 5),none,0⟩])
 (.cond (.tmp 16)
 (.region 0 [] [
 ⟨(some 17),.mov (.tmp 8),none,0⟩,
 ⟨(some 18),.mov (.tmp 8),none,0⟩,
 ⟨(some 19),.build [(.int .i64 0),(.int .i64 0)] [(0,1,(.tmp 17)),(1,1,(.tmp 18))],none,0⟩,
 ⟨none,.store (some 2) (.tmp 4) (.tmp 19),none,0⟩,
 ⟨none,.store none (.tmp 5) (.cst (.c (.bool false))),none,0⟩])
 .skip))
 (.region 0 [] [
 ⟨(some 20),.load (some 2) (.tmp 4),none,0⟩,
 ⟨(some 21),.mov (.tmp 8),none,0⟩,
 ⟨(some 22),.call 94 true [(.tmp 20),(.tmp 21)],none,0⟩,
 ⟨none,.store (some 2) (.tmp 4) (.tmp 22),none,0⟩])))))))
 (.seq (.region 0 [] [
 ⟨(some 23),.load (some 2) (.tmp 4),none,0⟩,
 ⟨none,.store (some 2) (.tmp 4) (.tmp 23),none,0⟩])
 .ret))))⟩
def f64 : AFunc:=⟨25,[.tmp 5],false,
 (.seq (.region 0 [] [
 ⟨(some 5),.mov (.cst (.c (.int .i64 0))),none,0⟩])
 (.seq (.seq (.region 0 [(0,1),(0,2),(1,2),(0,3),(0,4),(0,5),(1,5),(2,5),(3,5),(4,5),(0,8),(1,8),(2,8),(3,8),(4,8),(5,8),(6,8),(7,8)] [
 ⟨(some 8),.load none (.tmp 1),none,0⟩,
 ⟨(some 9),.mov (.tmp 0),none,0⟩,
 ⟨(some 10),.load none (.tmp 2),none,0⟩,
 ⟨(some 11),.iaddr 2 (.tmp 9) (.tmp 10),none,0⟩,
 ⟨(some 12),.load (some 2) (.tmp 11),none,0⟩,
 ⟨(some 13),.load none (.tmp 3),none,0⟩,
 ⟨(some 14),.call 62 false [(.tmp 8),(.tmp 12),(.tmp 13)],none,0⟩,
 ⟨(some 15),.len (.tmp 14),none,0⟩,
 ⟨(some 16),.mov (.cst (.c (.int .i64 0))),none,0⟩])
 (.block 0 (.loop ⟨[7,17,18,19,20,21,22,23],false,[]⟩
 (.seq (.region 0 [] [
 ⟨(some 17),.bin .lss (.tmp 16) (.tmp 15),none,0⟩])
 (.seq (.cond (.tmp 17)
 .skip
 (.exit 0))
 (.seq (.block 1 (.seq (.region 0 [] [
 ⟨(some 18),.iaddr 1 (.tmp 14) (.tmp 16),none,0⟩,
 ⟨(some 19),.load none (.tmp 18),none,0⟩,
 ⟨(some 7),.mov (.tmp 19),none,0⟩])
 (.region 0 [] [
 ⟨(some 20),.mov (.tmp 5),none,0⟩,
 ⟨(some 21),.mov (.tmp 7),none,0⟩,
 ⟨(some 22),.bin .add (.tmp 20) (.tmp 21),none,0⟩,
 ⟨(some 5),.mov (.tmp 22),none,0⟩])))
 (.region 0 [] [
 ⟨(some 23),.bin .add (.tmp 16) (.cst (.c (.int .i64 1))),none,0⟩,
 ⟨(some 16),.mov (.tmp 23),none,0⟩])))))))
 (.seq (.region 0 [] [
 ⟨(some 24),.mov (.tmp 5),none,0⟩,
 ⟨(some 5),.mov (.tmp 24),none,0⟩])
 .ret)))⟩
def f65 : AFunc:=⟨5,[.tmp 2],false,
 (.seq (.region 1 [] [
 ⟨(some 1),.box (.tmp 0),none,0⟩,
 ⟨(some 2),.mov (.cst (.c (.int .i64 0))),none,1⟩])
 (.seq (.region 0 [] [
 ⟨(some 3),.faddr 0 (.tmp 1),none,0⟩,
 ⟨(some 4),.load none (.tmp 3),none,0⟩,
 ⟨(some 2),.mov (.tmp 4),none,0⟩])
 .ret))⟩
def f66 : AFunc:=⟨10,[.cell 6 (some 2)],false,
 (.seq (.region 3 [] [
 ⟨(some 3),.box (.tmp 0),none,0⟩,
 ⟨(some 5),.box (.tmp 2),none,1⟩,
 ⟨(some 6),.alloc [(.int .i64 0),(.int .i64 0)],none,2⟩])
 (.seq (.region 0 [] [
 ⟨(some 7),.mov (.tmp 1),none,0⟩,
 ⟨(some 8),.mkfn 95 none [(.tmp 3),(.tmp 5)],none,0⟩,
 ⟨(some 9),.call 63 false [(.tmp 7),(.tmp 8)],none,0⟩,
 ⟨none,.store (some 2) (.tmp 6) (.tmp 9),none,0⟩])
 .ret))⟩
def f67 : AFunc:=⟨5,[.tmp 2],false,
 (.seq (.region 1 [] [
 ⟨(some 1),.box (.tmp 0),none,0⟩,
 ⟨(some 2),.mov (.cst (.c (.int .i64 0))),none,1⟩])
 (.seq (.region 0 [] [
 ⟨(some 3),.faddr 1 (.tmp 1),none,0⟩,
 ⟨(some 4),.load none (.tmp 3),none,0⟩,
 ⟨(some 2),.mov (.tmp 4),none,0⟩])
 .ret))⟩
def f68 : AFunc:=⟨14,[.tmp 4],false,
 (.seq (.region 2 [] [
 ⟨(some 2),.box (.tmp 0),none,0⟩,
 ⟨(some 3),.box (.tmp 1),none,1⟩,
 ⟨(some 4),.mov (.cst (.c (.bool false))),none,2⟩])
 (.seq (.region 0 [] [
 ⟨(some 5),.load (some 12) (.tmp 2),none,0⟩,
 ⟨(some 6),.faddr 0 (.tmp 3),none,0⟩,
 ⟨(some 7),.load none (.tmp 6),none,0⟩,
 ⟨(some 8),.call 41 true [(.tmp 5),(.tmp 7)],none,0⟩,
 ⟨(some 9),.mov (.tmp 8),none,0⟩,
 ⟨(some 10),.faddr 2 (.tmp 3),some (9,true),0⟩,
 ⟨(some 11),.load (some 2) (.tmp 10),some (9,true),0⟩,
 ⟨(some 12),.call 96 true [(.tmp 11),(.cst (.c (.int .i64 (-5000)))),(.cst (.c (.int .i64 5000)))],some (9,true),0⟩,
 ⟨(some 13),.pick (.tmp 9) (.tmp 12) (.cst (.c (.bool false))),none,0⟩,
 ⟨(some 4),.mov (.tmp 13),none,0⟩])
 .ret))⟩
def f69 : AFunc:=⟨31,[.tmp 2],false,
 (.seq (.region 1 [] [
 ⟨(some 1),.box (.tmp 0),none,0⟩,
 ⟨(some 2),.mov (.cst (.c (.bool false))),none,1⟩])
 (.seq (.region 0 [] [
 ⟨(some 3),.faddr 0 (.tmp 1),none,0⟩,
 ⟨(some 4),.load none (.tmp 3),none,0⟩,
 ⟨(some 5),.bin .geq (.tmp 4) (.cst (.c (.int .i64 0))),none,0⟩,
 ⟨(some 6),.mov (.tmp 5),none,0⟩,
 ⟨(some 7),.faddr 1 (.tmp 1),some (6,true),0⟩,
 ⟨(some 8),.load none (.tmp 7),some (6,true),0⟩,
 ⟨(some 9),.call 58 true [(.tmp 8),(.cst (.c (.int .i64 0))),(.cst (.c (.int .i64 20)))],some (6,true),0⟩,
 ⟨(some 10),.pick (.tmp 6) (.tmp 9) (.cst (.c (.bool false))),none,0⟩,
 ⟨(some 11),.mov (.tmp 10),none,0⟩,
 ⟨(some 12),.faddr 2 (.tmp 1),some (11,true),0⟩,
 ⟨(some 13),.load (some 2) (.tmp 12),some (11,true),0⟩,
 ⟨(some 14),.call 96 true [(.tmp 13),(.cst (.c (.int .i64 (-50)))),(.cst (.c (.int .i64 50)))],some (11,true),0⟩,
 ⟨(some 15),.pick (.tmp 11) (.tmp 14) (.cst (.c (.bool false))),none,0⟩,
 ⟨(some 16),.mov (.tmp 15),none,0⟩,
 ⟨(some 17),.faddr 4 (.tmp 1),some (16,true),0⟩,
 ⟨(some 18),.load (some 2) (.tmp 17),some (16,true),0⟩,
 ⟨(some 19),.call 96 true [(.tmp 18),(.cst (.c (.int .i64 0))),(.cst (.c (.int .i64 999)))],some (16,true),0⟩,
 ⟨(some 20),.pick (.tmp 16) (.tmp 19) (.cst (.c (.bool false))),none,0⟩,
 ⟨(some 21),.mov (.tmp 20),none,0⟩,
 ⟨(some 22),.faddr 6 (.tmp 1),some (21,true),0⟩,
 ⟨(some 23),.load none (.tmp 22),some (21,true),0⟩,
 ⟨(some 24),.call 58 true [(.tmp 23),(.cst (.c (.int .i64 0))),(.cst (.c (.int .i64 50)))],some (21,true),0⟩,
 ⟨(some 25),.pick (.tmp 21) (.tmp 24) (.cst (.c (.bool false))),none,0⟩,
 ⟨(some 26),.mov (.tmp 25),none,0⟩,
 ⟨(some 27),.faddr 7 (.tmp 1),some (26,true),0⟩,
 ⟨(some 28),.load none (.tmp 27),some (26,true),0⟩,
 ⟨(some 29),.call 58 true [(.tmp 28),(.cst (.c (.int .i64 0))),(.cst (.c (.int .i64 50)))],some (26,true),0⟩,
 ⟨(some 30),.pick (.tmp 26) (.tmp 29) (.cst (.c (.bool false))),none,0⟩,
 ⟨(some 2),.mov (.tmp 30),none,0⟩])
 .ret))⟩
def f70 : AFunc:=⟨9,[.tmp 4],false,
 (.seq (.region 1 [] [
 ⟨(some 3),.box (.tmp 1),none,0⟩,
 ⟨(some 4),.mov (.cst (.c (.bool false))),none,1⟩])
 (.seq (.region 0 [] [
 ⟨(some 5),.mov (.tmp 0),none,0⟩,
 ⟨(some 6),.mkfn 98 none [(.tmp 3)],none,0⟩,
 ⟨(some 7),.call 97 false [(.tmp 5),(.tmp 6)],none,0⟩,
 ⟨(some 8),.not (.tmp 7),none,0⟩,
 ⟨(some 4),.mov (.tmp 8),none,0⟩])
 .ret))⟩
def f71 : AFunc:=⟨5,[.tmp 2],true,
 (.seq (.region 1 [] [
 ⟨(some 1),.box (.tmp 0),none,0⟩,
 ⟨(some 2),.mov (.cst (.c (.bool false))),none,1⟩])
 (.seq (.region 0 [] [
 ⟨(some 3),.load (some 2) (.tmp 1),none,0⟩,
 ⟨(some 4),.call 96 true [(.tmp 3),(.cst (.c (.int .i64 (-9)))),(.cst (.c (.int .i64 9)))],none,0⟩,
 ⟨(some 2),.mov (.tmp 4),none,0⟩])
 .ret))⟩
def f72 : AFunc:=⟨9,[.tmp 4],false,
 (.seq (.region 1 [] [
 ⟨(some 3),.box (.tmp 1),none,0⟩,
 ⟨(some 4),.mov (.cst (.c (.bool false))),none,1⟩])
 (.seq (.region 0 [] [
 ⟨(some 5),.mov (.tmp 0),none,0⟩,
 ⟨(some 6),.mkfn 100 none [(.tmp 3)],none,0⟩,
 ⟨(some 7),.call 99 false [(.tmp 5),(.tmp 6)],none,0⟩,
 ⟨(some 8),.not (.tmp 7),none,0⟩,
 ⟨(some 4),.mov (.tmp 8),none,0⟩])
 .ret))⟩
def f73 : AFunc:=⟨16,[.tmp 2],true,
 (.seq (.region 1 [] [
 ⟨(some 1),.box (.tmp 0),none,0⟩,
 ⟨(some 2),.mov (.cst (.c (.bool false))),none,1⟩])
 (.seq (.region 0 [] [
 ⟨(some 3),.faddr 0 (.tmp 1),none,0⟩,
 ⟨(some 4),.load none (.tmp 3),none,0⟩,
 ⟨(some 5),.call 101 true [(.tmp 4)],none,0⟩,
 ⟨(some 6),.mov (.tmp 5),none,0⟩,
 ⟨(some 7),.faddr 1 (.tmp 1),some (6,true),0⟩,
 ⟨(some 8),.load none (.tmp 7),some (6,true),0⟩,
 ⟨(some 9),.call 101 true [(.tmp 8)],some (6,true),0⟩,
 ⟨(some 10),.pick (.tmp 6) (.tmp 9) (.cst (.c (.bool false))),none,0⟩,
 ⟨(some 11),.mov (.tmp 10),none,0⟩,
 ⟨(some 12),.faddr 2 (.tmp 1),some (11,true),0⟩,
 ⟨(some 13),.load none (.tmp 12),some (11,true),0⟩,
 ⟨(some 14),.call 101 true [(.tmp 13)],some (11,true),0⟩,
 ⟨(some 15),.pick (.tmp 11) (.tmp 14) (.cst (.c (.bool false))),none,0⟩,
 ⟨(some 2),.mov (.tmp 15),none,0⟩])
 .ret))⟩
def f74 : AFunc:=⟨11,[.tmp 2],false,
 (.seq (.region 1 [] [
 ⟨(some 1),.box (.tmp 0),none,0⟩,
 ⟨(some 2),.mov (.cst (.c .nils)),none,1⟩])
 (.seq (.region 2 [] [
 ⟨(some 3),.faddr 2 (.tmp 1),none,0⟩,
 ⟨(some 4),.load (some 2) (.tmp 3),none,0⟩,
 ⟨(some 5),.faddr 4 (.tmp 1),none,0⟩,
 ⟨(some 6),.load (some 2) (.tmp 5),none,0⟩,
 ⟨(some 7),.bslice 2 2 [(.int .i64 0),(.int .i64 0)] [(0,(.tmp 4)),(1,(.tmp 6))],none,0⟩,
 ⟨(some 8),.faddr 8 (.tmp 1),none,1⟩,
 ⟨(some 9),.load none (.tmp 8),none,1⟩,
 ⟨(some 10),.append 2 16 (.tmp 7) (.tmp 9),none,1⟩,
 ⟨(some 2),.mov (.tmp 10),none,2⟩])
 .ret))⟩
def f75 : AFunc:=⟨9,[.tmp 2],false,
 (.seq (.region 1 [] [
 ⟨(some 1),.box (.tmp 0),none,0⟩,
 ⟨(some 2),.mov (.cst (.c (.int .i64 0))),none,1⟩])
 (.seq (.region 0 [] [
 ⟨(some 3),.faddr 1 (.tmp 1),none,0⟩,
 ⟨(some 4),.load none (.tmp 3),none,0⟩,
 ⟨(some 5),.faddr 0 (.tmp 1),none,0⟩,
 ⟨(some 6),.load none (.tmp 5),none,0⟩,
 ⟨(some 7),.bin .sub (.tmp 4) (.tmp 6),none,0⟩,
 ⟨(some 8),.bin .add (.tmp 7) (.cst (.c (.int .i64 1))),none,0⟩,
 ⟨(some 2),.mov (.tmp 8),none,0⟩])
 .ret))⟩
def f82 : AFunc:=⟨5,[.tmp 2],false,
 (.seq (.region 0 [] [
 ⟨(some 2),.mov (.cst (.c .nils)),none,0⟩])
 (.seq (.region 0 [] [
 ⟨(some 3),.mov (.tmp 0),none,0⟩,
 ⟨(some 4),.call 103 false [(.cst (.c .nils)),(.tmp 3)],none,0⟩,
 ⟨(some 2),.mov (.tmp 4),none,0⟩])
 .ret))⟩
def f83 : AFunc:=⟨6,[.tmp 4],false,
 (.seq (.region 2 [] [
 ⟨(some 2),.box (.tmp 0),none,0⟩,
 ⟨(some 3),.box (.tmp 1),none,1⟩,
 ⟨(some 4),.mov (.cst (.c .nilfn)),none,2⟩])
 (.seq (.region 0 [] [
 ⟨(some 5),.mkfn 104 none [(.tmp 3),(.tmp 2)],none,0⟩,
 ⟨(some 4),.mov (.tmp 5),none,0⟩])
 .ret))⟩
def f84 : AFunc:=⟨60,[],false,
 (.seq (.region 1 [] [
 ⟨(some 3),.box (.tmp 0),none,0⟩])
 (.seq (.region 0 [] [
 ⟨(some 10),.load none (.tmp 1),none,0⟩,
 ⟨(some 11),.nilchk (.tmp 10),none,0⟩,
 ⟨(some 12),.faddr 0 (.tmp 11),none,0⟩,
 ⟨(some 13),.load (some 12) (.tmp 12),none,0⟩,
 ⟨(some 14),.call 74 true [(.tmp 13)],none,0⟩,
 ⟨(some 15),.call 85 false [(.tmp 14)],none,0⟩])
 (.block 0 (.range (.tmp 15) [16]
 (.region 0 [] [
 ⟨(some 4),.mov (.tmp 16),none,0⟩])
 (.block 1 (.seq (.region 1 [(0,3),(1,3),(2,3),(0,4),(1,4),(2,4),(0,5),(1,5),(2,5),(0,6),(1,6),(2,6),(3,6),(4,6),(5,6),(0,7),(1,7),(2,7),(3,7),(4,7),(5,7),(0,9),(1,9),(2,9),(3,9),(4,9),(5,9),(6,9),(7,9),(8,9)] [
 ⟨(some 17),.mov (.tmp 4),none,0⟩,
 ⟨(some 18),.iaddr 1 (.tmp 17) (.cst (.c (.int .i64 0))),none,0⟩,
 ⟨(some 19),.load none (.tmp 18),none,0⟩,
 ⟨(some 20),.mov (.tmp 4),none,0⟩,
 ⟨(some 21),.iaddr 1 (.tmp 20) (.cst (.c (.int .i64 1))),none,0⟩,
 ⟨(some 22),.load none (.tmp 21),none,0⟩,
 ⟨(some 23),.mov (.tmp 4),none,0⟩,
 ⟨(some 24),.slice 1 (.tmp 23) (some (.cst (.c (.int .i64 2)))) none,none,0⟩,
 ⟨(some 25),.build [(.int .i64 0),(.int .i64 0),.nils] [(0,1,(.tmp 19)),(1,1,(.tmp 22)),(2,1,(.tmp 24))],none,0⟩,
 ⟨(some 5),.alloc [(.int .i64 0),(.int .i64 0),.nils],none,0⟩,
 ⟨none,.store (some 3) (.tmp 5) (.tmp 25),none,1⟩])
 (.seq (.region 0 [] [
 ⟨(some 26),.load none (.tmp 1),none,0⟩,
 ⟨(some 27),.load (some 3) (.tmp 5),none,0⟩,
 ⟨(some 28),.call 39 false [(.tmp 26),(.tmp 27)],none,0⟩,
 ⟨(some 6),.mov (.tmp 28),none,0⟩])
 (.seq (.region 0 [] [
 ⟨(some 7),.mov (.cst (.c (.bool true))),none,0⟩])
 (.seq (.seq (.region 0 [] [
 ⟨(some 29),.load none (.tmp 1),none,0⟩,
 ⟨(some 30),.nilchk (.tmp 29),none,0⟩,
 ⟨(some 31),.faddr 0 (.tmp 30),none,0⟩,
 ⟨(some 32),.faddr 11 (.tmp 31),none,0⟩,
 ⟨(some 33),.load none (.tmp 32),none,0⟩,
 ⟨(some 34),.len (.tmp 33),none,0⟩,
 ⟨(some 35),.mov (.cst (.c (.int .i64 0))),none,0⟩])
 (.block 2 (.loop ⟨[8,9,36,37,38,39,40,41,42,43,44,45,46,47,48,49,50,51],false,[]⟩
 (.seq (.region 0 [] [
 ⟨(some 36),.bin .lss (.tmp 35) (.tmp 34),none,0⟩])
 (.seq (.cond (.tmp 36)
 .skip
 (.exit 2))
 (.seq (.block 3 (.seq (.region 1 [] [
 ⟨(some 37),.mov (.tmp 35),none,0⟩,
 ⟨(some 38),.iaddr 4 (.tmp 33) (.tmp 35),none,0⟩,
 ⟨(some 39),.load (some 4) (.tmp 38),none,0⟩,
 ⟨(some 9),.alloc [(.int .i64 0),(.bool false),(.int .i64 0),(.int .i64 0)],none,0⟩,
 ⟨(some 8),.mov (.tmp 37),none,1⟩,
 ⟨none,.store (some 4) (.tmp 9) (.tmp 39),none,1⟩])
 (.region 0 [] [
 ⟨(some 40),.mov (.tmp 7),none,0⟩,
 ⟨(some 41),.mov (.tmp 40),none,0⟩,
 ⟨(some 42),.load none (.tmp 2),some (41,true),0⟩,
 ⟨(some 43),.mov (.tmp 8),some (41,true),0⟩,
 ⟨(some 44),.call 86 true [(.tmp 42),(.tmp 43)],some (41,true),0⟩,
 ⟨(some 45),.mov (.tmp 44),some (41,true),0⟩,
 ⟨(some 46),.load (some 4) (.tmp 9),some (45,false),0⟩,
 ⟨(some 47),.mov (.tmp 6),some (45,false),0⟩,
 ⟨(some 48),.call 55 true [(.tmp 46),(.tmp 47)],some (45,false),0⟩,
 ⟨(some 49),.pick (.tmp 45) (.cst (.c (.bool true))) (.tmp 48),some (41,true),0⟩,
 ⟨(some 50),.pick (.tmp 41) (.tmp 49) (.cst (.c (.bool false))),none,0⟩,
 ⟨(some 7),.mov (.tmp 50),none,0⟩])))
 (.region 0 [] [
 ⟨(some 51),.bin .add (.tmp 35) (.cst (.c (.int .i64 1))),none,0⟩,
 ⟨(some 35),.mov (.tmp 51),none,0⟩])))))))
 (.seq (.region 0 [] [
 ⟨(some 52),.mov (.tmp 7),none,0⟩,
 ⟨(some 53),.mov (.tmp 52),none,0⟩,
 ⟨(some 54),.load none (.tmp 3),some (53,true),0⟩,
 ⟨(some 55),.load (some 3) (.tmp 5),some (53,true),0⟩,
 ⟨(some 56),.mov (.tmp 6),some (53,true),0⟩,
 ⟨(some 57),.callv (.tmp 54) [(.tmp 55),(.tmp 56)],some (53,true),0⟩,
 ⟨(some 58),.not (.tmp 57),some (53,true),0⟩,
 ⟨(some 59),.pick (.tmp 53) (.tmp 58) (.cst (.c (.bool false))),none,0⟩])
 (.cond (.tmp 59)
 .ret
 .skip)))))))))))⟩
def f85 : AFunc:=⟨4,[.tmp 2],false,
 (.seq (.region 1 [] [
 ⟨(some 1),.box (.tmp 0),none,0⟩,
 ⟨(some 2),.mov (.cst (.c .nilfn)),none,1⟩])
 (.seq (.region 0 [] [
 ⟨(some 3),.mkfn 105 none [(.tmp 1)],none,0⟩,
 ⟨(some 2),.mov (.tmp 3),none,0⟩])
 .ret))⟩
def f86 : AFunc:=⟨9,[.tmp 4],false,
 (.seq (.region 0 [] [
 ⟨(some 4),.mov (.cst (.c (.bool false))),none,0⟩])
 (.seq (.region 0 [] [
 ⟨(some 5),.mov (.tmp 0),none,0⟩,
 ⟨(some 6),.mov (.tmp 1),none,0⟩,
 ⟨(some 7),.call 107 true [(.tmp 5),(.tmp 6)],none,0⟩,
 ⟨(some 8),.bin .geq (.tmp 7) (.cst (.c (.int .i64 0))),none,0⟩,
 ⟨(some 4),.mov (.tmp 8),none,0⟩])
 .ret))⟩
def f87 : AFunc:=⟨26,[.cell 4 (some 8)],false,
 (.seq (.region 3 [] [
 ⟨(some 2),.box (.tmp 0),none,0⟩,
 ⟨(some 3),.box (.tmp 1),none,1⟩,
 ⟨(some 4),.alloc [(.int .i64 0),(.int .i64 0),(.int .i64 0),(.int .i64 0),(.int .i64 0),(.int .i64 0),(.int .i64 0),(.int .i64 0)],none,2⟩])
 (.seq (.region 0 [] [
 ⟨(some 7),.faddr 0 (.tmp 3),none,0⟩,
 ⟨(some 8),.load none (.tmp 7),none,0⟩,
 ⟨(some 5),.mov (.tmp 8),none,0⟩])
 (.seq (.seq (.region 0 [] [
 ⟨(some 9),.load (some 12) (.tmp 2),none,0⟩,
 ⟨(some 10),.call 47 true [(.tmp 9)],none,0⟩,
 ⟨(some 11),.mov (.cst (.c (.int .i64 0))),none,0⟩])
 (.block 0 (.loop ⟨[6,12,13,14,15,16,17,18,19,20,21,22,23,24],false,[]⟩
 (.seq (.region 0 [] [
 ⟨(some 12),.bin .lss (.tmp 11) (.tmp 10),none,0⟩])
 (.seq (.cond (.tmp 12)
 .skip
 (.exit 0))
 (.seq (.block 1 (.seq (.region 0 [] [
 ⟨(some 13),.mov (.tmp 11),none,0⟩,
 ⟨(some 6),.mov (.tmp 13),none,0⟩])
 (.seq (.region 0 [] [
 ⟨(some 14),.mov (.tmp 5),none,0⟩,
 ⟨(some 15),.faddr 2 (.tmp 3),none,0⟩,
 ⟨(some 16),.load none (.tmp 15),none,0⟩,
 ⟨(some 17),.mov (.tmp 6),none,0⟩,
 ⟨(some 18),.iaddr 1 (.tmp 16) (.tmp 17),none,0⟩,
 ⟨(some 19),.load none (.tmp 18),none,0⟩,
 ⟨(some 20),.bin .add (.tmp 14) (.tmp 19),none,0⟩,
 ⟨(some 5),.mov (.tmp 20),none,0⟩])
 (.region 0 [] [
 ⟨(some 21),.mov (.tmp 6),none,0⟩,
 ⟨(some 22),.mov (.tmp 5),none,0⟩,
 ⟨(some 23),.iaddrA 8 1 (.tmp 4) (.tmp 21),none,0⟩,
 ⟨none,.store none (.tmp 23) (.tmp 22),none,0⟩]))))
 (.region 0 [] [
 ⟨(some 24),.bin .add (.tmp 11) (.cst (.c (.int .i64 1))),none,0⟩,
 ⟨(some 11),.mov (.tmp 24),none,0⟩])))))))
 (.seq (.region 0 [] [
 ⟨(some 25),.load (some 8) (.tmp 4),none,0⟩,
 ⟨none,.store (some 8) (.tmp 4) (.tmp 25),none,0⟩])
 .ret))))⟩
def f88 : AFunc:=⟨25,[.tmp 2],false,
 (.seq (.region 0 [] [
 ⟨(some 2),.mov (.cst (.c (.int .i64 0))),none,0⟩])
 (.seq (.seq (.region 0 [] [
 ⟨(some 5),.mov (.tmp 0),none,0⟩,
 ⟨(some 6),.len (.tmp 5),none,0⟩,
 ⟨(some 7),.bin .lss (.tmp 6) (.cst (.c (.int .i64 1))),none,0⟩])
 (.cond (.tmp 7)
 (.region 0 [] [
 ⟨(some 8),.pick (.cst (.c .any)) (.cst (.c .any)) (.cst (.c .any)),none,0⟩,
 ⟨none,.pick (.cst (.c .any)) (.cst (.c .any)) (.cst (.c .any)),none,0⟩])
 .skip))
 (.seq (.region 0 [] [
 ⟨(some 9),.mov (.tmp 0),none,0⟩,
 ⟨(some 10),.iaddr 1 (.tmp 9) (.cst (.c (.int .i64 0))),none,0⟩,
 ⟨(some 11),.load none (.tmp 10),none,0⟩,
 ⟨(some 3),.mov (.tmp 11),none,0⟩])
 (.seq (.seq (.region 0 [] [
 ⟨(some 4),.mov (.cst (.c (.int .i64 1))),none,0⟩])
 (.block 0 (.loop ⟨[12,13,14,15,16,17,18,19,20,21,22,23],false,[]⟩
 (.seq (.seq (.region 0 [] [
 ⟨(some 12),.mov (.tmp 4),none,0⟩,
 ⟨(some 13),.mov (.tmp 0),none,0⟩,
 ⟨(some 14),.len (.tmp 13),none,0⟩,
 ⟨(some 15),.bin .lss (.tmp 12) (.tmp 14),none,0⟩])
 (.cond (.tmp 15)
 .skip
 (.exit 0)))
 (.seq (.block 1 (.region 0 [] [
 ⟨(some 18),.mov (.tmp 3),none,0⟩,
 ⟨(some 19),.mov (.tmp 0),none,0⟩,
 ⟨(some 20),.mov (.tmp 4),none,0⟩,
 ⟨(some 21),.iaddr 1 (.tmp 19) (.tmp 20),none,0⟩,
 ⟨(some 22),.load none (.tmp 21),none,0⟩,
 ⟨(some 23),.mm false (.tmp 18) (.tmp 22),none,0⟩,
 ⟨(some 3),.mov (.tmp 23),none,0⟩]))
 (.region 0 [] [
 ⟨(some 16),.mov (.tmp 4),none,0⟩,
 ⟨(some 17),.bin .add (.tmp 16) (.cst (.c (.int .i64 1))),none,0⟩,
 ⟨(some 4),.mov (.tmp 17),none,0⟩]))))))
 (.seq (.region 0 [] [
 ⟨(some 24),.mov (.tmp 3),none,0⟩,
 ⟨(some 2),.mov (.tmp 24),none,0⟩])
 .ret)))))⟩
def f89 : AFunc:=⟨9,[.tmp 4],false,
 (.seq (.region 0 [] [
 ⟨(some 4),.mov (.cst (.c (.bool false))),none,0⟩])
 (.seq (.region 0 [] [
 ⟨(some 5),.mov (.tmp 0),none,0⟩,
 ⟨(some 6),.mov (.tmp 1),none,0⟩,
 ⟨(some 7),.call 108 false [(.tmp 5),(.tmp 6)],none,0⟩,
 ⟨(some 8),.bin .geq (.tmp 7) (.cst (.c (.int .i64 0))),none,0⟩,
 ⟨(some 4),.mov (.tmp 8),none,0⟩])
 .ret))⟩
def f90 : AFunc:=⟨8,[.tmp 3],false,
 (.seq (.region 1 [] [
 ⟨(some 2),.box (.tmp 0),none,0⟩,
 ⟨(some 3),.mov (.cst (.c (.bool false))),none,1⟩])
 (.seq (.region 0 [] [
 ⟨(some 4),.load none (.tmp 1),none,0⟩,
 ⟨(some 5),.load (some 4) (.tmp 2),none,0⟩,
 ⟨(some 6),.callv (.tmp 4) [(.tmp 5)],none,0⟩,
 ⟨(some 7),.not (.tmp 6),none,0⟩,
 ⟨(some 3),.mov (.tmp 7),none,0⟩])
 .ret))⟩
def f91 : AFunc:=⟨9,[.tmp 4],false,
 (.seq (.region 0 [] [
 ⟨(some 4),.mov (.cst (.c (.bool false))),none,0⟩])
 (.seq (.region 0 [] [
 ⟨(some 5),.mov (.tmp 0),none,0⟩,
 ⟨(some 6),.mov (.tmp 1),none,0⟩,
 ⟨(some 7),.call 109 false [(.tmp 5),(.tmp 6)],none,0⟩,
 ⟨(some 8),.bin .geq (.tmp 7) (.cst (.c (.int .i64 0))),none,0⟩,
 ⟨(some 4),.mov (.tmp 8),none,0⟩])
 .ret))⟩
def f92 : AFunc:=⟨8,[.tmp 3],false,
 (.seq (.region 0 [] [
 ⟨(some 3),.mov (.cst (.c (.bool false))),none,0⟩])
 (.seq (.region 0 [] [
 ⟨(some 4),.load none (.tmp 1),none,0⟩,
 ⟨(some 5),.mov (.tmp 0),none,0⟩,
 ⟨(some 6),.callv (.tmp 4) [(.tmp 5)],none,0⟩,
 ⟨(some 7),.not (.tmp 6),none,0⟩,
 ⟨(some 3),.mov (.tmp 7),none,0⟩])
 .ret))⟩
def f93 : AFunc:=⟨44,[.tmp 4,.cell 5 (some 2)],false,
 (.seq (.region 2 [] [
 ⟨(some 3),.box (.tmp 1),none,0⟩,
 ⟨(some 4),.mov (.cst (.c (.int .i64 0))),none,1⟩,
 ⟨(some 5),.alloc [(.int .i64 0),(.bool false)],none,1⟩])
 (.seq (.region 0 [(0,4),(1,4),(2,4),(3,4),(7,8),(8,9)] [
 ⟨(some 9),.mov (.tmp 0),none,0⟩,
 ⟨(some 10),.nilchk (.tmp 9),none,0⟩,
 ⟨(some 11),.faddr 12 (.tmp 10),none,0⟩,
 ⟨(some 12),.load none (.tmp 11),none,0⟩,
 ⟨(some 13),.load (some 2) (.tmp 3),none,0⟩,
 ⟨(some 14),.lookup true false [(some .i64),none] (.c (.int .i64 0)) true (.tmp 12) (.tmp 13),none,0⟩,
 ⟨(some 8),.mov (.tmp 14),none,0⟩,
 ⟨(some 15),.extract 0 (.tmp 8),none,0⟩,
 ⟨(some 16),.extract 1 (.tmp 8),none,0⟩,
 ⟨(some 4),.mov (.tmp 15),none,0⟩,
 ⟨(some 6),.mov (.tmp 16),none,0⟩])
 (.seq (.seq (.region 0 [] [
 ⟨(some 17),.mov (.tmp 6),none,0⟩,
 ⟨(some 18),.not (.tmp 17),none,0⟩])
 (.cond (.tmp 18)
 (.seq (.region 0 [] [
 ⟨(some 7),.mov (.cst (.c (.int .i64 20))),none,0⟩])
 (.seq (.seq (.region 0 [] [
 ⟨(some 19),.faddr 1 (.tmp 3),none,0⟩,
 ⟨(some 20),.load none (.tmp 19),none,0⟩])
 (.cond (.tmp 20)
 (.region 0 [] [
 ⟨(some 7),.mov (.cst (.c (.int .i64 10))),none,0⟩])
 .skip))
 (.seq (.region 0 [] [
 ⟨(some 21),.faddr 0 (.tmp 3),none,0⟩,
 ⟨(some 22),.load none (.tmp 21),none,0⟩,
 ⟨(some 23),.mov (.tmp 7),none,0⟩,
 ⟨(some 24),.bin .quo (.tmp 22) (.tmp 23),none,0⟩,
 ⟨(some 4),.mov (.tmp 24),none,0⟩])
 (.region 0 [(0,4),(1,4),(2,4),(3,4),(0,5),(1,5),(2,5),(3,5),(4,5)] [
 ⟨(some 25),.mov (.tmp 0),none,0⟩,
 ⟨(some 26),.nilchk (.tmp 25),none,0⟩,
 ⟨(some 27),.faddr 12 (.tmp 26),none,0⟩,
 ⟨(some 28),.load none (.tmp 27),none,0⟩,
 ⟨(some 29),.load (some 2) (.tmp 3),none,0⟩,
 ⟨(some 30),.mov (.tmp 4),none,0⟩,
 ⟨none,.mapupd true false [(some .i64),none] (.tmp 28) (.tmp 29) (.tmp 30),none,0⟩]))))
 .skip))
 (.seq (.region 0 [(0,1),(0,2),(0,3),(1,3),(2,3),(0,4),(1,4),(2,4),(0,5),(1,5),(2,5),(0,6),(1,6),(2,6),(0,7),(1,7),(2,7),(0,8),(0,9),(0,10),(1,10),(2,10),(3,10),(4,10),(5,10),(6,10),(7,10),(8,10),(9,10),(0,11),(1,11),(2,11),(3,11),(4,11),(5,11),(6,11),(7,11),(8,11),(9,11),(0,12),(1,13),(2,13),(3,13),(4,13),(5,13),(6,13),(7,13),(8,13),(9,13),(10,13),(11,13),(12,13)] [
 ⟨(some 31),.mov (.tmp 4),none,0⟩,
 ⟨(some 32),.faddr 0 (.tmp 3),none,0⟩,
 ⟨(some 33),.load none (.tmp 32),none,0⟩,
 ⟨(some 34),.mov (.tmp 0),none,0⟩,
 ⟨(some 35),.nilchk (.tmp 34),none,0⟩,
 ⟨(some 36),.faddr 0 (.tmp 35),none,0⟩,
 ⟨(some 37),.faddr 7 (.tmp 36),none,0⟩,
 ⟨(some 38),.load none (.tmp 37),none,0⟩,
 ⟨(some 39),.bin .sub (.tmp 33) (.tmp 38),none,0⟩,
 ⟨(some 40),.mm true (.cst (.c (.int .i64 0))) (.tmp 39),none,0⟩,
 ⟨(some 41),.faddr 1 (.tmp 3),none,0⟩,
 ⟨(some 42),.load none (.tmp 41),none,0⟩,
 ⟨(some 43),.build [(.int .i64 0),(.bool false)] [(0,1,(.tmp 40)),(1,1,(.tmp 42))],none,0⟩,
 ⟨(some 4),.mov (.tmp 31),none,0⟩,
 ⟨none,.store (some 2) (.tmp 5) (.tmp 43),none,0⟩])
 .ret))))⟩
def f94 : AFunc:=⟨15,[.cell 4 (some 2)],false,
 (.seq (.region 2 [] [
 ⟨(some 2),.box (.tmp 0),none,0⟩,
 ⟨(some 4),.alloc [(.int .i64 0),(.int .i64 0)],none,1⟩])
 (.seq (.region 1 [(0,2),(1,2),(0,5),(1,5),(2,5),(3,5),(4,5),(0,6),(1,6),(2,6),(3,6),(4,6),(0,7),(1,7),(2,7),(3,7),(4,7),(5,7),(6,7),(0,8),(1,8),(2,8),(3,8),(4,8)] [
 ⟨(some 5),.faddr 0 (.tmp 2),none,0⟩,
 ⟨(some 6),.load none (.tmp 5),none,0⟩,
 ⟨(some 7),.mov (.tmp 1),none,0⟩,
 ⟨(some 8),.bslice 1 2 [(.int .i64 0)] [(0,(.tmp 6)),(1,(.tmp 7))],none,0⟩,
 ⟨(some 9),.call 46 true [(.tmp 8)],none,1⟩,
 ⟨(some 10),.faddr 1 (.tmp 2),none,1⟩,
 ⟨(some 11),.load none (.tmp 10),none,1⟩,
 ⟨(some 12),.mov (.tmp 1),none,1⟩,
 ⟨(some 13),.mm true (.tmp 11) (.tmp 12),none,1⟩,
 ⟨(some 14),.build [(.int .i64 0),(.int .i64 0)] [(0,1,(.tmp 9)),(1,1,(.tmp 13))],none,1⟩,
 ⟨none,.store (some 2) (.tmp 4) (.tmp 14),none,1⟩])
 .ret))⟩
def f95 : AFunc:=⟨12,[.tmp 4],false,
 (.seq (.region 0 [] [
 ⟨(some 4),.mov (.cst (.c (.int .i64 0))),none,0⟩])
 (.seq (.region 0 [(0,2),(1,2),(0,3),(1,3),(2,3),(0,4),(1,4),(0,5),(1,5)] [
 ⟨(some 5),.faddr 0 (.tmp 1),none,0⟩,
 ⟨(some 6),.load none (.tmp 5),none,0⟩,
 ⟨(some 7),.mov (.tmp 0),none,0⟩,
 ⟨(some 8),.load none (.tmp 2),none,0⟩,
 ⟨(some 9),.iaddr 2 (.tmp 7) (.tmp 8),none,0⟩,
 ⟨(some 10),.load (some 2) (.tmp 9),none,0⟩,
 ⟨(some 11),.callv (.tmp 6) [(.tmp 10)],none,0⟩,
 ⟨(some 4),.mov (.tmp 11),none,0⟩])
 .ret))⟩
def f96 : AFunc:=⟨24,[.tmp 6],false,
 (.seq (.region 1 [] [
 ⟨(some 3),.box (.tmp 0),none,0⟩,
 ⟨(some 6),.mov (.cst (.c (.bool false))),none,1⟩])
 (.seq (.region 0 [] [
 ⟨(some 7),.mov (.tmp 1),none,0⟩,
 ⟨(some 8),.faddr 0 (.tmp 3),none,0⟩,
 ⟨(some 9),.load none (.tmp 8),none,0⟩,
 ⟨(some 10),.bin .leq (.tmp 7) (.tmp 9),none,0⟩,
 ⟨(some 11),.mov (.tmp 10),none,0⟩,
 ⟨(some 12),.faddr 0 (.tmp 3),some (11,true),0⟩,
 ⟨(some 13),.load none (.tmp 12),some (11,true),0⟩,
 ⟨(some 14),.faddr 1 (.tmp 3),some (11,true),0⟩,
 ⟨(some 15),.load none (.tmp 14),some (11,true),0⟩,
 ⟨(some 16),.bin .leq (.tmp 13) (.tmp 15),some (11,true),0⟩,
 ⟨(some 17),.pick (.tmp 11) (.tmp 16) (.cst (.c (.bool false))),none,0⟩,
 ⟨(some 18),.mov (.tmp 17),none,0⟩,
 ⟨(some 19),.faddr 1 (.tmp 3),some (18,true),0⟩,
 ⟨(some 20),.load none (.tmp 19),some (18,true),0⟩,
 ⟨(some 21),.mov (.tmp 2),some (18,true),0⟩,
 ⟨(some 22),.bin .leq (.tmp 20) (.tmp 21),some (18,true),0⟩,
 ⟨(some 23),.pick (.tmp 18) (.tmp 22) (.cst (.c (.bool false))),none,0⟩,
 ⟨(some 6),.mov (.tmp 23),none,0⟩])
 .ret))⟩
def f97 : AFunc:=⟨9,[.tmp 4],false,
 (.seq (.region 0 [] [
 ⟨(some 4),.mov (.cst (.c (.bool false))),none,0⟩])
 (.seq (.region 0 [] [
 ⟨(some 5),.mov (.tmp 0),none,0⟩,
 ⟨(some 6),.mov (.tmp 1),none,0⟩,
 ⟨(some 7),.call 110 false [(.tmp 5),(.tmp 6)],none,0⟩,
 ⟨(some 8),.bin .geq (.tmp 7) (.cst (.c (.int .i64 0))),none,0⟩,
 ⟨(some 4),.mov (.tmp 8),none,0⟩])
 .ret))⟩
def f98 : AFunc:=⟨8,[.tmp 3],true,
 (.seq (.region 1 [] [
 ⟨(some 2),.box (.tmp 0),none,0⟩,
 ⟨(some 3),.mov (.cst (.c (.bool false))),none,1⟩])
 (.seq (.region 0 [] [
 ⟨(some 4),.load none (.tmp 1),none,0⟩,
 ⟨(some 5),.load (some 2) (.tmp 2),none,0⟩,
 ⟨(some 6),.callv (.tmp 4) [(.tmp 5)],none,0⟩,
 ⟨(some 7),.not (.tmp 6),none,0⟩,
 ⟨(some 3),.mov (.tmp 7),none,0⟩])
 .ret))⟩
def f99 : AFunc:=⟨9,[.tmp 4],false,
 (.seq (.region 0 [] [
 ⟨(some 4),.mov (.cst (.c (.bool false))),none,0⟩])
 (.seq (.region 0 [] [
 ⟨(some 5),.mov (.tmp 0),none,0⟩,
 ⟨(some 6),.mov (.tmp 1),none,0⟩,
 ⟨(some 7),.call 111 false [(.tmp 5),(.tmp 6)],none,0⟩,
 ⟨(some 8),.bin .geq (.tmp 7) (.cst (.c (.int .i64 0))),none,0⟩,
 ⟨(some 4),.mov (.tmp 8),none,0⟩])
 .ret))⟩
def f100 : AFunc:=⟨8,[.tmp 3],true,
 (.seq (.region 1 [] [
 ⟨(some 2),.box (.tmp 0),none,0⟩,
 ⟨(some 3),.mov (.cst (.c (.bool false))),none,1⟩])
 (.seq (.region 0 [] [
 ⟨(some 4),.load none (.tmp 1),none,0⟩,
 ⟨(some 5),.load (some 3) (.tmp 2),none,0⟩,
 ⟨(some 6),.callv (.tmp 4) [(.tmp 5)],none,0⟩,
 ⟨(some 7),.not (.tmp 6),none,0⟩,
 ⟨(some 3),.mov (.tmp 7),none,0⟩])
 .ret))⟩
def f101 : AFunc:=⟨5,[.tmp 2],false,
 (.seq (.region 0 [] [
 ⟨(some 2),.mov (.cst (.c (.bool false))),none,0⟩])
 (.seq (.region 0 [] [
 ⟨(some 3),.mov (.tmp 0),none,0⟩,
 ⟨(some 4),.call 58 true [(.tmp 3),(.cst (.c (.int .i64 0))),(.cst (.c (.int .i64 9)))],none,0⟩,
 ⟨(some 2),.mov (.tmp 4),none,0⟩])
 .ret))⟩
def f103 : AFunc:=⟨13,[.tmp 4],false,
 (.seq (.region 1 [] [
 ⟨(some 2),.box (.tmp 0),none,0⟩,
 ⟨(some 4),.mov (.cst (.c .nils)),none,1⟩])
 (.seq (.seq (.region 0 [] [
 ⟨(some 6),.mov (.tmp 1),none,0⟩])
 (.block 0 (.range (.tmp 6) [7]
 (.region 1 [] [
 ⟨(some 5),.alloc [(.int .i64 0),(.int .i64 0)],none,0⟩,
 ⟨none,.store (some 2) (.tmp 5) (.tmp 7),none,1⟩])
 (.block 1 (.region 2 [] [
 ⟨(some 8),.load none (.tmp 2),none,0⟩,
 ⟨(some 9),.load (some 2) (.tmp 5),none,0⟩,
 ⟨(some 10),.bslice 2 1 [(.int .i64 0),(.int .i64 0)] [(0,(.tmp 9))],none,0⟩,
 ⟨(some 11),.append 2 16 (.tmp 8) (.tmp 10),none,1⟩,
 ⟨none,.store none (.tmp 2) (.tmp 11),none,2⟩])))))
 (.seq (.region 0 [] [
 ⟨(some 12),.load none (.tmp 2),none,0⟩,
 ⟨(some 4),.mov (.tmp 12),none,0⟩])
 .ret)))⟩
def f104 : AFunc:=⟨83,[],false,
 (.seq (.region 1 [] [
 ⟨(some 8),.faddr 0 (.tmp 1),none,0⟩,
 ⟨(some 9),.load none (.tmp 8),none,0⟩,
 ⟨(some 10),.faddr 1 (.tmp 1),none,0⟩,
 ⟨(some 11),.load none (.tmp 10),none,0⟩,
 ⟨(some 12),.build [(.int .i64 0),(.int .i64 0)] [(0,1,(.tmp 9)),(1,1,(.tmp 11))],none,0⟩,
 ⟨(some 4),.alloc [(.int .i64 0),(.int .i64 0)],none,0⟩,
 ⟨none,.store (some 2) (.tmp 4) (.tmp 12),none,1⟩])
 (.seq (.region 0 [] [
 ⟨(some 13),.load none (.tmp 2),none,0⟩,
 ⟨(some 14),.nilchk (.tmp 13),none,0⟩,
 ⟨(some 15),.faddr 0 (.tmp 14),none,0⟩,
 ⟨(some 16),.faddr 9 (.tmp 15),none,0⟩,
 ⟨(some 17),.load none (.tmp 16),none,0⟩,
 ⟨(some 18),.len (.tmp 17),none,0⟩,
 ⟨(some 19),.mov (.cst (.c (.int .i64 0))),none,0⟩])
 (.block 0 (.loop ⟨[5,6,7,20,21,22,23,24,25,26,27,28,29,30,31,32,33,34,35,36,37,38,39,40,41,42,43,44,45,46,47,48,49,50,51,52,53,54,55,56,57,58,59,60,61,62,63,64,65,66,67,68,69,70,71,72,73,74,75,76,77,78,79,80,81,82],false,[]⟩
 (.seq (.region 0 [] [
 ⟨(some 20),.bin .lss (.tmp 19) (.tmp 18),none,0⟩])
 (.seq (.cond (.tmp 20)
 .skip
 (.exit 0))
 (.seq (.block 1 (.seq (.region 1 [] [
 ⟨(some 21),.mov (.tmp 19),none,0⟩,
 ⟨(some 22),.iaddr 3 (.tmp 17) (.tmp 19),none,0⟩,
 ⟨(some 23),.load (some 3) (.tmp 22),none,0⟩,
 ⟨(some 6),.alloc [(.int .i64 0),(.int .i64 0),(.int .i64 0)],none,0⟩,
 ⟨(some 5),.mov (.tmp 21),none,1⟩,
 ⟨none,.store (some 3) (.tmp 6) (.tmp 23),none,1⟩])
 (.seq (.region 0 [(0,2),(1,2),(0,3),(1,3),(0,4),(1,4),(2,4),(3,4),(0,5),(1,5),(2,5),(3,5),(0,6),(1,6),(0,7),(1,7),(2,7),(3,7),(4,7),(5,7),(6,7),(0,8),(1,8),(2,8),(3,8),(4,8),(5,8),(6,8),(0,9),(1,9),(2,9),(3,9),(4,9),(5,9),(6,9),(7,9),(8,9),(0,10),(1,10),(2,10),(3,10),(4,10),(5,10),(6,10),(0,11),(1,11),(2,11),(3,11),(4,11),(5,11),(6,11),(0,12),(1,12)] [
 ⟨(some 24),.faddr 0 (.tmp 4),none,0⟩,
 ⟨(some 25),.load none (.tmp 24),none,0⟩,
 ⟨(some 26),.faddr 0 (.tmp 6),none,0⟩,
 ⟨(some 27),.load none (.tmp 26),none,0⟩,
 ⟨(some 28),.faddr 1 (.tmp 6),none,0⟩,
 ⟨(some 29),.load none (.tmp 28),none,0⟩,
 ⟨(some 30),.bin .sub (.tmp 27) (.tmp 29),none,0⟩,
 ⟨(some 31),.faddr 2 (.tmp 1),none,0⟩,
 ⟨(some 32),.load none (.tmp 31),none,0⟩,
 ⟨(some 33),.mov (.tmp 5),none,0⟩,
 ⟨(some 34),.iaddr 1 (.tmp 32) (.tmp 33),none,0⟩,
 ⟨(some 35),.load none (.tmp 34),none,0⟩,
 ⟨(some 36),.bin .add (.tmp 30) (.tmp 35),none,0⟩,
 ⟨(some 37),.bin .add (.tmp 25) (.tmp 36),none,0⟩,
 ⟨(some 38),.faddr 0 (.tmp 4),none,0⟩,
 ⟨none,.store none (.tmp 38) (.tmp 37),none,0⟩])
 (.seq (.region 1 [(0,2),(1,2),(0,3),(1,3),(0,4),(1,4),(2,4),(3,4),(0,5),(1,5),(2,5),(3,5),(0,6),(1,6),(2,6),(3,6),(0,7),(1,7),(2,7),(3,7),(0,8),(1,8),(2,8),(3,8),(0,9),(1,9),(0,11),(1,11),(2,11),(3,11),(4,11),(5,11),(6,11),(7,11),(8,11),(9,11),(10,11),(0,12),(1,12),(2,12),(3,12),(4,12),(5,12),(6,12),(7,12),(8,12),(9,12),(10,12),(0,13),(1,13),(2,13),(3,13),(4,13),(5,13),(6,13),(7,13),(8,13),(9,13),(10,13),(0,14),(1,14),(2,14),(3,14),(4,14),(5,14),(6,14),(7,14),(8,14),(9,14),(10,14),(0,15),(1,15),(2,15),(3,15),(4,15),(5,15),(6,15),(7,15),(8,15),(9,15),(10,15),(11,15),(12,15),(13,15),(14,15),(0,16),(1,16),(2,16),(3,16),(4,16),(5,16),(6,16),(7,16),(8,16),(9,16),(10,16),(11,16),(12,16),(13,16),(14,16),(0,17),(1,17),(2,17),(3,17),(4,17),(5,17),(6,17),(7,17),(8,17),(9,17),(10,17),(0,19),(1,19),(2,19),(3,19),(4,19),(5,19),(6,19),(7,19),(8,19),(9,19),(10,19),(11,19),(12,19),(13,19),(14,19),(15,19),(16,19),(17,19),(18,19)] [
 ⟨(some 39),.faddr 1 (.tmp 4),none,0⟩,
 ⟨(some 40),.load none (.tmp 39),none,0⟩,
 ⟨(some 41),.faddr 2 (.tmp 6),none,0⟩,
 ⟨(some 42),.load none (.tmp 41),none,0⟩,
 ⟨(some 43),.load none (.tmp 2),none,0⟩,
 ⟨(some 44),.nilchk (.tmp 43),none,0⟩,
 ⟨(some 45),.faddr 0 (.tmp 44),none,0⟩,
 ⟨(some 46),.faddr 6 (.tmp 45),none,0⟩,
 ⟨(some 47),.load none (.tmp 46),none,0⟩,
 ⟨(some 48),.bin .mul (.tmp 42) (.tmp 47),none,0⟩,
 ⟨(some 49),.bin .add (.tmp 40) (.tmp 48),none,0⟩,
 ⟨(some 50),.load none (.tmp 2),none,0⟩,
 ⟨(some 51),.nilchk (.tmp 50),none,0⟩,
 ⟨(some 52),.faddr 0 (.tmp 51),none,0⟩,
 ⟨(some 53),.load (some 12) (.tmp 52),none,0⟩,
 ⟨(some 54),.faddr 0 (.tmp 4),none,0⟩,
 ⟨(some 55),.load none (.tmp 54),none,0⟩,
 ⟨(some 56),.call 43 true [(.tmp 53),(.tmp 55)],none,0⟩,
 ⟨(some 57),.build [(.int .i64 0),(.bool false)] [(0,1,(.tmp 49)),(1,1,(.tmp 56))],none,0⟩,
 ⟨(some 7),.alloc [(.int .i64 0),(.bool false)],none,0⟩,
 ⟨none,.store (some 2) (.tmp 7) (.tmp 57),none,1⟩])
 (.seq (.seq (.region 0 [] [
 ⟨(some 58),.load none (.tmp 2),none,0⟩,
 ⟨(some 59),.nilchk (.tmp 58),none,0⟩,
 ⟨(some 60),.faddr 0 (.tmp 59),none,0⟩,
 ⟨(some 61),.faddr 10 (.tmp 60),none,0⟩,
 ⟨(some 62),.load none (.tmp 61),none,0⟩,
 ⟨(some 63),.mov (.tmp 5),none,0⟩,
 ⟨(some 64),.iaddr 1 (.tmp 62) (.tmp 63),none,0⟩,
 ⟨(some 65),.load none (.tmp 64),none,0⟩,
 ⟨(some 66),.mov (.cst (.c (.int .i64 0))),none,0⟩])
 (.block 2 (.loop ⟨[67,68,69,70,71,72,73,74],false,[]⟩
 (.seq (.region 0 [] [
 ⟨(some 67),.bin .lss (.tmp 66) (.tmp 65),none,0⟩])
 (.seq (.cond (.tmp 67)
 .skip
 (.exit 2))
 (.seq (.block 3 (.region 0 [] [
 ⟨(some 69),.load none (.tmp 2),none,0⟩,
 ⟨(some 70),.load (some 2) (.tmp 7),none,0⟩,
 ⟨(some 71),.call 93 false [(.tmp 69),(.tmp 70)],none,0⟩,
 ⟨(some 68),.mov (.tmp 71),none,0⟩,
 ⟨(some 72),.extract 0 (.tmp 68),none,0⟩,
 ⟨(some 73),.extract 1 (.tmp 68),none,0⟩,
 ⟨none,.store (some 2) (.tmp 7) (.tmp 73),none,0⟩]))
 (.region 0 [] [
 ⟨(some 74),.bin .add (.tmp 66) (.cst (.c (.int .i64 1))),none,0⟩,
 ⟨(some 66),.mov (.tmp 74),none,0⟩])))))))
 (.seq (.region 0 [] [
 ⟨(some 75),.faddr 0 (.tmp 7),none,0⟩,
 ⟨(some 76),.load none (.tmp 75),none,0⟩,
 ⟨(some 77),.faddr 1 (.tmp 4),none,0⟩,
 ⟨none,.store none (.tmp 77) (.tmp 76),none,0⟩])
 (.seq (.region 0 [] [
 ⟨(some 78),.mov (.tmp 0),none,0⟩,
 ⟨(some 79),.load (some 2) (.tmp 4),none,0⟩,
 ⟨(some 80),.callv (.tmp 78) [(.tmp 79)],none,0⟩,
 ⟨(some 81),.not (.tmp 80),none,0⟩])
 (.cond (.tmp 81)
 .ret
 .skip))))))))
 (.region 0 [] [
 ⟨(some 82),.bin .add (.tmp 19) (.cst (.c (.int .i64 1))),none,0⟩,
 ⟨(some 19),.mov (.tmp 82),none,0⟩]))))))))⟩
def f105 : AFunc:=⟨11,[],false,
 (.seq (.region 1 [] [
 ⟨(some 2),.box (.tmp 0),none,0⟩])
 (.seq (.region 2 [] [
 ⟨(some 5),.load none (.tmp 1),none,0⟩,
 ⟨(some 6),.len (.tmp 5),none,0⟩,
 ⟨(some 7),.mkslice 1 8 [(.int .i64 0)] (.tmp 6),none,0⟩,
 ⟨(some 3),.alloc [.nils],none,1⟩,
 ⟨none,.store none (.tmp 3) (.tmp 7),none,2⟩])
 (.seq (.region 1 [] [
 ⟨(some 4),.alloc [.nilfn],none,0⟩])
 (.seq (.region 0 [] [
 ⟨(some 8),.mkfn 106 none [(.tmp 1),(.tmp 2),(.tmp 3),(.tmp 4)],none,0⟩,
 ⟨none,.store none (.tmp 4) (.tmp 8),none,0⟩])
 (.region 0 [] [
 ⟨(some 9),.load none (.tmp 4),none,0⟩,
 ⟨(some 10),.callv (.tmp 9) [(.cst (.c (.int .i64 0)))],none,0⟩])))))⟩
def f106 : AFunc:=⟨39,[.tmp 6],false,
 (.seq (.region 0 [] [
 ⟨(some 6),.mov (.cst (.c (.bool false))),none,0⟩])
 (.seq (.seq (.region 0 [] [
 ⟨(some 8),.mov (.tmp 0),none,0⟩,
 ⟨(some 9),.load none (.tmp 1),none,0⟩,
 ⟨(some 10),.len (.tmp 9),none,0⟩,
 ⟨(some 11),.bin .eql (.tmp 8) (.tmp 10),none,0⟩])
 (.cond (.tmp 11)
 (.seq (.region 0 [] [
 ⟨(some 12),.load none (.tmp 2),none,0⟩,
 ⟨(some 13),.load none (.tmp 3),none,0⟩,
 ⟨(some 14),.callv (.tmp 12) [(.tmp 13)],none,0⟩,
 ⟨(some 6),.mov (.tmp 14),none,0⟩])
 .ret)
 .skip))
 (.seq (.seq (.region 0 [] [
 ⟨(some 15),.load none (.tmp 1),none,0⟩,
 ⟨(some 16),.mov (.tmp 0),none,0⟩,
 ⟨(some 17),.iaddr 2 (.tmp 15) (.tmp 16),none,0⟩,
 ⟨(some 18),.load (some 2) (.tmp 17),none,0⟩,
 ⟨(some 19),.call 75 true [(.tmp 18)],none,0⟩,
 ⟨(some 20),.mov (.cst (.c (.int .i64 0))),none,0⟩])
 (.block 0 (.loop ⟨[6,7,21,22,23,24,25,26,27,28,29,30,31,32,33,34,35,36,37,38],false,[]⟩
 (.seq (.region 0 [] [
 ⟨(some 21),.bin .lss (.tmp 20) (.tmp 19),none,0⟩])
 (.seq (.cond (.tmp 21)
 .skip
 (.exit 0))
 (.seq (.block 1 (.seq (.region 0 [] [
 ⟨(some 22),.mov (.tmp 20),none,0⟩,
 ⟨(some 7),.mov (.tmp 22),none,0⟩])
 (.seq (.region 0 [(0,1),(0,2),(1,2),(0,3),(1,3),(2,3),(0,4),(1,4),(0,5),(1,5),(0,6),(1,6),(0,7),(1,7),(2,7),(3,7),(4,7),(5,7),(6,7),(0,8),(1,8)] [
 ⟨(some 23),.load none (.tmp 3),none,0⟩,
 ⟨(some 24),.mov (.tmp 0),none,0⟩,
 ⟨(some 25),.load none (.tmp 1),none,0⟩,
 ⟨(some 26),.mov (.tmp 0),none,0⟩,
 ⟨(some 27),.iaddr 2 (.tmp 25) (.tmp 26),none,0⟩,
 ⟨(some 28),.faddr 0 (.tmp 27),none,0⟩,
 ⟨(some 29),.load none (.tmp 28),none,0⟩,
 ⟨(some 30),.mov (.tmp 7),none,0⟩,
 ⟨(some 31),.bin .add (.tmp 29) (.tmp 30),none,0⟩,
 ⟨(some 32),.iaddr 1 (.tmp 23) (.tmp 24),none,0⟩,
 ⟨none,.store none (.tmp 32) (.tmp 31),none,0⟩])
 (.seq (.region 0 [] [
 ⟨(some 33),.load none (.tmp 4),none,0⟩,
 ⟨(some 34),.mov (.tmp 0),none,0⟩,
 ⟨(some 35),.bin .add (.tmp 34) (.cst (.c (.int .i64 1))),none,0⟩,
 ⟨(some 36),.callv (.tmp 33) [(.tmp 35)],none,0⟩,
 ⟨(some 37),.not (.tmp 36),none,0⟩])
 (.cond (.tmp 37)
 (.seq (.region 0 [] [
 ⟨(some 6),.mov (.cst (.c (.bool false))),none,0⟩])
 .ret)
 .skip)))))
 (.region 0 [] [
 ⟨(some 38),.bin .add (.tmp 20) (.cst (.c (.int .i64 1))),none,0⟩,
 ⟨(some 20),.mov (.tmp 38),none,0⟩])))))))
 (.seq (.region 0 [] [
 ⟨(some 6),.mov (.cst (.c (.bool true))),none,0⟩])
 .ret))))⟩
def f107 : AFunc:=⟨19,[.tmp 4],false,
 (.seq (.region 0 [] [
 ⟨(some 4),.mov (.cst (.c (.int .i64 0))),none,0⟩])
 (.seq (.seq (.region 0 [] [
 ⟨(some 6),.mov (.tmp 0),none,0⟩,
 ⟨(some 7),.len (.tmp 6),none,0⟩,
 ⟨(some 8),.mov (.cst (.c (.int .i64 0))),none,0⟩])
 (.block 0 (.loop ⟨[4,5,9,10,11,12,13,14,15,16,17,18],false,[]⟩
 (.seq (.region 0 [] [
 ⟨(some 9),.bin .lss (.tmp 8) (.tmp 7),none,0⟩])
 (.seq (.cond (.tmp 9)
 .skip
 (.exit 0))
 (.seq (.block 1 (.seq (.region 0 [] [
 ⟨(some 10),.mov (.tmp 8),none,0⟩,
 ⟨(some 5),.mov (.tmp 10),none,0⟩])
 (.seq (.region 0 [] [
 ⟨(some 11),.mov (.tmp 1),none,0⟩,
 ⟨(some 12),.mov (.tmp 0),none,0⟩,
 ⟨(some 13),.mov (.tmp 5),none,0⟩,
 ⟨(some 14),.iaddr 1 (.tmp 12) (.tmp 13),none,0⟩,
 ⟨(some 15),.load none (.tmp 14),none,0⟩,
 ⟨(some 16),.bin .eql (.tmp 11) (.tmp 15),none,0⟩])
 (.cond (.tmp 16)
 (.seq (.region 0 [] [
 ⟨(some 17),.mov (.tmp 5),none,0⟩,
 ⟨(some 4),.mov (.tmp 17),none,0⟩])
 .ret)
 .skip))))
 (.region 0 [] [
 ⟨(some 18),.bin .add (.tmp 8) (.cst (.c (.int .i64 1))),none,0⟩,
 ⟨(some 8),.mov (.tmp 18),none,0⟩])))))))
 (.seq (.region 0 [] [
 ⟨(some 4),.mov (.cst (.c (.int .i64 (-1)))),none,0⟩])
 .ret)))⟩
def f108 : AFunc:=⟨19,[.tmp 4],false,
 (.seq (.region 0 [] [
 ⟨(some 4),.mov (.cst (.c (.int .i64 0))),none,0⟩])
 (.seq (.seq (.region 0 [] [
 ⟨(some 6),.mov (.tmp 0),none,0⟩,
 ⟨(some 7),.len (.tmp 6),none,0⟩,
 ⟨(some 8),.mov (.cst (.c (.int .i64 0))),none,0⟩])
 (.block 0 (.loop ⟨[4,5,9,10,11,12,13,14,15,16,17,18],false,[]⟩
 (.seq (.region 0 [] [
 ⟨(some 9),.bin .lss (.tmp 8) (.tmp 7),none,0⟩])
 (.seq (.cond (.tmp 9)
 .skip
 (.exit 0))
 (.seq (.block 1 (.seq (.region 0 [] [
 ⟨(some 10),.mov (.tmp 8),none,0⟩,
 ⟨(some 5),.mov (.tmp 10),none,0⟩])
 (.seq (.region 0 [] [
 ⟨(some 11),.mov (.tmp 1),none,0⟩,
 ⟨(some 12),.mov (.tmp 0),none,0⟩,
 ⟨(some 13),.mov (.tmp 5),none,0⟩,
 ⟨(some 14),.iaddr 4 (.tmp 12) (.tmp 13),none,0⟩,
 ⟨(some 15),.load (some 4) (.tmp 14),none,0⟩,
 ⟨(some 16),.callv (.tmp 11) [(.tmp 15)],none,0⟩])
 (.cond (.tmp 16)
 (.seq (.region 0 [] [
 ⟨(some 17),.mov (.tmp 5),none,0⟩,
 ⟨(some 4),.mov (.tmp 17),none,0⟩])
 .ret)
 .skip))))
 (.region 0 [] [
 ⟨(some 18),.bin .add (.tmp 8) (.cst (.c (.int .i64 1))),none,0⟩,
 ⟨(some 8),.mov (.tmp 18),none,0⟩])))))))
 (.seq (.region 0 [] [
 ⟨(some 4),.mov (.cst (.c (.int .i64 (-1)))),none,0⟩])
 .ret)))⟩
def f109 : AFunc:=⟨19,[.tmp 4],false,
 (.seq (.region 0 [] [
 ⟨(some 4),.mov (.cst (.c (.int .i64 0))),none,0⟩])
 (.seq (.seq (.region 0 [] [
 ⟨(some 6),.mov (.tmp 0),none,0⟩,
 ⟨(some 7),.len (.tmp 6),none,0⟩,
 ⟨(some 8),.mov (.cst (.c (.int .i64 0))),none,0⟩])
 (.block 0 (.loop ⟨[4,5,9,10,11,12,13,14,15,16,17,18],false,[]⟩
 (.seq (.region 0 [] [
 ⟨(some 9),.bin .lss (.tmp 8) (.tmp 7),none,0⟩])
 (.seq (.cond (.tmp 9)
 .skip
 (.exit 0))
 (.seq (.block 1 (.seq (.region 0 [] [
 ⟨(some 10),.mov (.tmp 8),none,0⟩,
 ⟨(some 5),.mov (.tmp 10),none,0⟩])
 (.seq (.region 0 [] [
 ⟨(some 11),.mov (.tmp 1),none,0⟩,
 ⟨(some 12),.mov (.tmp 0),none,0⟩,
 ⟨(some 13),.mov (.tmp 5),none,0⟩,
 ⟨(some 14),.iaddr 1 (.tmp 12) (.tmp 13),none,0⟩,
 ⟨(some 15),.load none (.tmp 14),none,0⟩,
 ⟨(some 16),.callv (.tmp 11) [(.tmp 15)],none,0⟩])
 (.cond (.tmp 16)
 (.seq (.region 0 [] [
 ⟨(some 17),.mov (.tmp 5),none,0⟩,
 ⟨(some 4),.mov (.tmp 17),none,0⟩])
 .ret)
 .skip))))
 (.region 0 [] [
 ⟨(some 18),.bin .add (.tmp 8) (.cst (.c (.int .i64 1))),none,0⟩,
 ⟨(some 8),.mov (.tmp 18),none,0⟩])))))))
 (.seq (.region 0 [] [
 ⟨(some 4),.mov (.cst (.c (.int .i64 (-1)))),none,0⟩])
 .ret)))⟩
def f110 : AFunc:=⟨19,[.tmp 4],false,
 (.seq (.region 0 [] [
 ⟨(some 4),.mov (.cst (.c (.int .i64 0))),none,0⟩])
 (.seq (.seq (.region 0 [] [
 ⟨(some 6),.mov (.tmp 0),none,0⟩,
 ⟨(some 7),.len (.tmp 6),none,0⟩,
 ⟨(some 8),.mov (.cst (.c (.int .i64 0))),none,0⟩])
 (.block 0 (.loop ⟨[4,5,9,10,11,12,13,14,15,16,17,18],false,[]⟩
 (.seq (.region 0 [] [
 ⟨(some 9),.bin .lss (.tmp 8) (.tmp 7),none,0⟩])
 (.seq (.cond (.tmp 9)
 .skip
 (.exit 0))
 (.seq (.block 1 (.seq (.region 0 [] [
 ⟨(some 10),.mov (.tmp 8),none,0⟩,
 ⟨(some 5),.mov (.tmp 10),none,0⟩])
 (.seq (.region 0 [] [
 ⟨(some 11),.mov (.tmp 1),none,0⟩,
 ⟨(some 12),.mov (.tmp 0),none,0⟩,
 ⟨(some 13),.mov (.tmp 5),none,0⟩,
 ⟨(some 14),.iaddr 2 (.tmp 12) (.tmp 13),none,0⟩,
 ⟨(some 15),.load (some 2) (.tmp 14),none,0⟩,
 ⟨(some 16),.callv (.tmp 11) [(.tmp 15)],none,0⟩])
 (.cond (.tmp 16)
 (.seq (.region 0 [] [
 ⟨(some 17),.mov (.tmp 5),none,0⟩,
 ⟨(some 4),.mov (.tmp 17),none,0⟩])
 .ret)
 .skip))))
 (.region 0 [] [
 ⟨(some 18),.bin .add (.tmp 8) (.cst (.c (.int .i64 1))),none,0⟩,
 ⟨(some 8),.mov (.tmp 18),none,0⟩])))))))
 (.seq (.region 0 [] [
 ⟨(some 4),.mov (.cst (.c (.int .i64 (-1)))),none,0⟩])
 .ret)))⟩
def f111 : AFunc:=⟨19,[.tmp 4],false,
 (.seq (.region 0 [] [
 ⟨(some 4),.mov (.cst (.c (.int .i64 0))),none,0⟩])
 (.seq (.seq (.region 0 [] [
 ⟨(some 6),.mov (.tmp 0),none,0⟩,
 ⟨(some 7),.len (.tmp 6),none,0⟩,
 ⟨(some 8),.mov (.cst (.c (.int .i64 0))),none,0⟩])
 (.block 0 (.loop ⟨[4,5,9,10,11,12,13,14,15,16,17,18],false,[]⟩
 (.seq (.region 0 [] [
 ⟨(some 9),.bin .lss (.tmp 8) (.tmp 7),none,0⟩])
 (.seq (.cond (.tmp 9)
 .skip
 (.exit 0))
 (.seq (.block 1 (.seq (.region 0 [] [
 ⟨(some 10),.mov (.tmp 8),none,0⟩,
 ⟨(some 5),.mov (.tmp 10),none,0⟩])
 (.seq (.region 0 [] [
 ⟨(some 11),.mov (.tmp 1),none,0⟩,
 ⟨(some 12),.mov (.tmp 0),none,0⟩,
 ⟨(some 13),.mov (.tmp 5),none,0⟩,
 ⟨(some 14),.iaddr 3 (.tmp 12) (.tmp 13),none,0⟩,
 ⟨(some 15),.load (some 3) (.tmp 14),none,0⟩,
 ⟨(some 16),.callv (.tmp 11) [(.tmp 15)],none,0⟩])
 (.cond (.tmp 16)
 (.seq (.region 0 [] [
 ⟨(some 17),.mov (.tmp 5),none,0⟩,
 ⟨(some 4),.mov (.tmp 17),none,0⟩])
 .ret)
 .skip))))
 (.region 0 [] [
 ⟨(some 18),.bin .add (.tmp 8) (.cst (.c (.int .i64 1))),none,0⟩,
 ⟨(some 8),.mov (.tmp 18),none,0⟩])))))))
 (.seq (.region 0 [] [
 ⟨(some 4),.mov (.cst (.c (.int .i64 (-1)))),none,0⟩])
 .ret)))⟩
def tabL : List (Option AFunc):=[none,none,none,some f3,none,none,none,none,none,none,some f10,some f11,some f12,some f13,some f14,some f15,some f16,some f17,some f18,some f19,some f20,some f21,some f22,some f23,some f24,some f25,some f26,none,none,none,none,none,none,none,none,none,some f36,some f37,some f38,some f39,some f40,some f41,some f42,some f43,some f44,some f45,some f46,some f47,some f48,some f49,some f50,some f51,some f52,some f53,some f54,some f55,some f56,some f57,some f58,some f59,some f60,some f61,some f62,some f63,some f64,some f65,some f66,some f67,some f68,some f69,some f70,some f71,some f72,some f73,some f74,some f75,none,none,none,none,none,none,some f82,some f83,some f84,some f85,some f86,some f87,some f88,some f89,some f90,some f91,some f92,some f93,some f94,some f95,some f96,some f97,some f98,some f99,some f100,some f101,none,some f103,some f104,some f105,some f106,some f107,some f108,some f109,some f110,some f111,none,none,none,none,none,none,none,none,none,none,none,none,none,none,none,none,none]
def tab (k:Nat):Option AFunc:=(nth tabL k).join
def annL : List (Nat × Nat × Ann):=[(4,0,⟨[10,140,141,142,143,144,145,146,147,148,149,150,151,152,153,154,155,156,157,158,159,160,161,162,163,164,165,166,167,168,169,170,171,172,173,174,175,176,177,178,179,180,181,182,183,184,185,186,187,188,189,190,191,192,193,194,195,196,197,198,199,200,201],false,[]⟩),(4,2,⟨[10,208,209,210,211,212,213,214,215,216,217,218,219,220,221,222,223,224,225,226,227,228,229,230,231,232,233,234,235,236,237,238,239,240,241],false,[]⟩),(9,0,⟨[9,43,44,45,46,47,48,49,50,51,52,53,54,55,56,57,58,59,60,61,62,63,64,65,66,67,68,69,70,71,72,73,74,75,76,77],true,[(7,(some 8),2),(7,(some 9),3)]⟩),(9,2,⟨[11,78,79,80,81,82,83,84,85,86,87,88,89,90,91,92,93,94,95,96,97,98,99,100,101],true,[(7,(some 11),4)]⟩),(9,4,⟨[6,252,253,254,255,256,257,258,259,260,261,262,263,264,265,266,267,268,269,270,271,272,273,274,275,276,277,278,279,280,281,282,283,284,285,286,287,288,289,290,291],false,[]⟩),(13,0,⟨[10,11,41,42,43,44,45,46,47,48,49,50,51,52,53,54,55,56,57,58,59,60,61,62,63,64,65,66,67],false,[]⟩),(14,0,⟨[10,35,36,37,38,39,40,41,42,43,44,45,46,47,48,49,50,51,52,53,54,55,56,57,58,59,60,61,62,63,64,65,66,67,68],false,[]⟩),(14,2,⟨[47,48,49,50,51,52,53,54,55,56,57,58,59,60,61,62,63,64,65,66,67],false,[]⟩),(15,0,⟨[8,22,23,24,25,26,27],false,[]⟩),(18,0,⟨[4,9,10,32,33,34,35,36,37,38,39,40,41,42,43,44,45,46],false,[]⟩),(22,0,⟨[7,19,20,21,22,23,24,25,26,27,28,29,30,31,32,33],false,[(6,none,4)]⟩),(23,0,⟨[2,3,6,18,19,20,21,22,23,24,25,26,27,28,29,30,31,32,33],false,[]⟩),(25,1,⟨[6,76,77,78,79,80,81,82,83,84,85],false,[]⟩),(28,0,⟨[7,38,39,40,41,42,43,44,45,46,47,48,49,50,51,52,53,54,55,56,57,58,59,60,61,62,63,64,65],true,[(5,(some 2),1)]⟩),(29,0,⟨[13,14,15,16,17,18,19,20,21,22,23,24,25,26,27,28],false,[]⟩),(30,0,⟨[27,28,29,30,31,32,33,34,35,36,37,38,39,40,41,42,43,44],true,[(3,(some 8),2)]⟩),(30,2,⟨[6,45,46,47,48,49,50,51,52,53,54,55,56,57,58,59,60,61,62,63,64,65,66,67,68],true,[(3,(some 9),3)]⟩),(30,4,⟨[8,69,70,71,72,73,74,75,76,77,78,79,80,81,82,83,84,85,86,87,88,89,90,91,92,93],true,[(3,(some 11),4)]⟩),(32,0,⟨[4,11,12,13,14,15,16,17,18,19,20,21,22,23,24,25,26,27,28,29,30,31,32,33,34,35,36,37,38,39,40,41,42],false,[]⟩),(34,0,⟨[9,10,11,12,13,14,15,16,17,18,19,20,21,22,23,24,25,26,27,28,29,30,31],true,[(5,(some 11),4)]⟩),(36,0,⟨[4,11,12,13,14,15,16,17,18,19,20,21,22,23,24,25],false,[]⟩),(37,0,⟨[4,5,6,33,34,35,36,37,38,39,40,41,42,43,44,45],true,[]⟩),(44,0,⟨[6,7,15,16,17,18,19,20,21,22,23,24,25,26,27,28,29,30,31,32,33,34,35,36,37,38,39,40,41,42,43,44],false,[(4,none,2)]⟩),(45,2,⟨[8,40,41,42,43,44,45,46,47,48,49,50,51,52,53,54,55,56,57,58,59,60,61,62,63,64,65,66,67,68,69,70,71,72,73,74,75,76,77,78,79,80,81,82,83,84],false,[]⟩),(48,0,⟨[5,6,7,8,9,10,11,12],true,[(2,none,1)]⟩),(50,0,⟨[10,19,20,21,22,23,24,25,26,27,28,29,30,31,32,33,34,35,36,37,38],false,[]⟩),(62,0,⟨[8,9,22,23,24,25,26,27,28,29,30,31,32,33,34],false,[(6,none,1)]⟩),(64,0,⟨[7,17,18,19,20,21,22,23],false,[]⟩),(77,0,⟨[2,5,73,74,75,76,77,78,79,80,81,82,83,84,85,86,87,88,89,90,91,92,93,94,95,96,97,98,99,100,101,102,103,104,105,106,107,108,109,110,111,112,113,114,115,116],true,[]⟩),(77,2,⟨[2,117,118,119,120,121,122,123,124,125,126,127,128,129,130,131,132,133,134,135,136,137,138,139,140,141,142,143],false,[]⟩),(84,2,⟨[8,9,36,37,38,39,40,41,42,43,44,45,46,47,48,49,50,51],false,[]⟩),(87,0,⟨[6,12,13,14,15,16,17,18,19,20,21,22,23,24],false,[]⟩),(88,0,⟨[12,13,14,15,16,17,18,19,20,21,22,23],false,[]⟩),(104,0,⟨[5,6,7,20,21,22,23,24,25,26,27,28,29,30,31,32,33,34,35,36,37,38,39,40,41,42,43,44,45,46,47,48,49,50,51,52,53,54,55,56,57,58,59,60,61,62,63,64,65,66,67,68,69,70,71,72,73,74,75,76,77,78,79,80,81,82],false,[]⟩),(104,2,⟨[67,68,69,70,71,72,73,74],false,[]⟩),(106,0,⟨[6,7,21,22,23,24,25,26,27,28,29,30,31,32,33,34,35,36,37,38],false,[]⟩),(107,0,⟨[4,5,9,10,11,12,13,14,15,16,17,18],false,[]⟩),(108,0,⟨[4,5,9,10,11,12,13,14,15,16,17,18],false,[]⟩),(109,0,⟨[4,5,9,10,11,12,13,14,15,16,17,18],false,[]⟩),(110,0,⟨[4,5,9,10,11,12,13,14,15,16,17,18],false,[]⟩),(111,0,⟨[4,5,9,10,11,12,13,14,15,16,17,18],false,[]⟩)]
def dropL : List Nat:=[71,73,98,100]
def cloneL : List (Nat × Nat):=[(52,3)]
def growL : List (Nat × Nat):=[]
def pureL : List Nat:=[0,1,2,3,4,5,6,7,8,9,10,11,12,13,14,15,16,17,18,19,20,21,22,23,24,25,26,27,28,29,30,31,32,33,34,35,36,37,41,43,46,47,48,49,55,57,58,60,61,65,67,68,69,71,73,74,75,76,77,78,79,80,81,86,87,88,94,96,101,102,107,113]
def pinL : List (Nat × Nat × Nat × Bool):=[(3,220,11,false),(3,222,11,false)]
end Am.Vt
