/-
  A part of the proof: the texts VtTabA of this seat, joined.
-/
import Derived.Test.YtphjbeffckignaaGreatAmA
namespace Am.Vt
open Go Am
set_option maxRecDepth 100000
def f12 : AFunc:=⟨159,[.tmp 8],false,
 (.seq (.region 2 [] [
 ⟨(some 4),.box (.tmp 0),none,0⟩,
 ⟨(some 5),.box (.tmp 1),none,1⟩,
 ⟨(some 8),.mov (.cst (.c (.bool false))),none,2⟩])
 (.seq (.region 1 [] [
 ⟨(some 26),.load (some 17) (.tmp 4),none,0⟩,
 ⟨(some 9),.alloc [(.int .i64 0),(.int .i64 0),(.int .i64 0),(.int .i64 0),(.int .i64 0),(.int .i64 0),(.int .i64 0),(.int .i64 0),.nils,.nils,.nils,.nils,(.int .i64 0),.nils,(.int .i64 0),(.int .i64 0),(.int .i64 0)],none,0⟩,
 ⟨none,.store (some 17) (.tmp 9) (.tmp 26),none,1⟩])
 (.seq (.region 4 [(0,1),(0,2),(0,3),(0,5),(1,5),(2,5),(3,5),(4,5),(0,6),(1,6),(2,6),(3,6),(4,6)] [
 ⟨(some 27),.bslice 4 0 [(.int .i64 0),(.bool false),(.int .i64 0),(.int .i64 0)] [],none,0⟩,
 ⟨(some 28),.faddr 0 (.tmp 4),none,1⟩,
 ⟨(some 29),.faddr 11 (.tmp 28),none,1⟩,
 ⟨(some 30),.load none (.tmp 29),none,1⟩,
 ⟨(some 31),.append 4 32 (.tmp 27) (.tmp 30),none,1⟩,
 ⟨(some 32),.load (some 4) (.tmp 5),none,2⟩,
 ⟨(some 33),.bslice 4 1 [(.int .i64 0),(.bool false),(.int .i64 0),(.int .i64 0)] [(0,(.tmp 32))],none,2⟩,
 ⟨(some 34),.append 4 32 (.tmp 31) (.tmp 33),none,3⟩,
 ⟨(some 35),.faddr 0 (.tmp 9),none,4⟩,
 ⟨(some 36),.faddr 11 (.tmp 35),none,4⟩,
 ⟨none,.store none (.tmp 36) (.tmp 34),none,4⟩])
 (.seq (.seq (.region 0 [] [
 ⟨(some 37),.load (some 17) (.tmp 4),none,0⟩,
 ⟨(some 38),.call 36 true [(.tmp 37)],none,0⟩,
 ⟨(some 39),.not (.tmp 38),none,0⟩,
 ⟨(some 40),.mov (.tmp 39),none,0⟩,
 ⟨(some 41),.load (some 17) (.tmp 9),some (40,false),0⟩,
 ⟨(some 42),.call 36 true [(.tmp 41)],some (40,false),0⟩,
 ⟨(some 43),.not (.tmp 42),some (40,false),0⟩,
 ⟨(some 44),.pick (.tmp 40) (.cst (.c (.bool true))) (.tmp 43),none,0⟩,
 ⟨(some 45),.mov (.tmp 44),none,0⟩,
 ⟨(some 46),.faddr 13 (.tmp 4),some (45,false),0⟩,
 ⟨(some 47),.load none (.tmp 46),some (45,false),0⟩,
 ⟨(some 48),.len (.tmp 47),some (45,false),0⟩,
 ⟨(some 49),.bin .eql (.tmp 48) (.cst (.c (.int .i64 0))),some (45,false),0⟩,
 ⟨(some 50),.pick (.tmp 45) (.cst (.c (.bool true))) (.tmp 49),none,0⟩])
 (.cond (.tmp 50)
 (.seq (.region 0 [] [
 ⟨(some 51),.call 16 true [],none,0⟩,
 ⟨(some 8),.mov (.tmp 51),none,0⟩])
 .ret)
 .skip))
 (.seq (.region 0 [] [
 ⟨(some 52),.mov (.tmp 3),none,0⟩,
 ⟨(some 53),.conv .i64 (.tmp 52),none,0⟩,
 ⟨(some 54),.faddr 13 (.tmp 4),none,0⟩,
 ⟨(some 55),.load none (.tmp 54),none,0⟩,
 ⟨(some 56),.len (.tmp 55),none,0⟩,
 ⟨(some 57),.bin .rem (.tmp 53) (.tmp 56),none,0⟩,
 ⟨(some 10),.mov (.tmp 57),none,0⟩])
 (.seq (.region 0 [] [
 ⟨(some 58),.load (some 17) (.tmp 4),none,0⟩,
 ⟨(some 59),.mov (.tmp 2),none,0⟩,
 ⟨(some 60),.call 38 true [(.tmp 58),(.tmp 59)],none,0⟩,
 ⟨(some 11),.mov (.tmp 60),none,0⟩])
 (.seq (.region 0 [] [
 ⟨(some 62),.load (some 17) (.tmp 4),none,0⟩,
 ⟨(some 63),.call 18 true [(.tmp 62)],none,0⟩,
 ⟨(some 64),.mov (.tmp 11),none,0⟩,
 ⟨(some 65),.call 19 true [(.tmp 64)],none,0⟩,
 ⟨(some 66),.mov (.tmp 10),none,0⟩,
 ⟨(some 67),.call 41 true [(.tmp 63),(.tmp 65),(.tmp 66)],none,0⟩,
 ⟨(some 61),.mov (.tmp 67),none,0⟩,
 ⟨(some 68),.extract 0 (.tmp 61),none,0⟩,
 ⟨(some 69),.extract 1 (.tmp 61),none,0⟩,
 ⟨(some 12),.mov (.tmp 68),none,0⟩,
 ⟨(some 13),.mov (.tmp 69),none,0⟩])
 (.seq (.region 0 [] [
 ⟨(some 71),.load (some 17) (.tmp 9),none,0⟩,
 ⟨(some 72),.call 18 true [(.tmp 71)],none,0⟩,
 ⟨(some 73),.mov (.tmp 11),none,0⟩,
 ⟨(some 74),.call 19 true [(.tmp 73)],none,0⟩,
 ⟨(some 75),.mov (.tmp 10),none,0⟩,
 ⟨(some 76),.call 41 true [(.tmp 72),(.tmp 74),(.tmp 75)],none,0⟩,
 ⟨(some 70),.mov (.tmp 76),none,0⟩,
 ⟨(some 77),.extract 0 (.tmp 70),none,0⟩,
 ⟨(some 78),.extract 1 (.tmp 70),none,0⟩,
 ⟨(some 14),.mov (.tmp 77),none,0⟩,
 ⟨(some 15),.mov (.tmp 78),none,0⟩])
 (.seq (.region 0 [] [
 ⟨(some 80),.load (some 17) (.tmp 4),none,0⟩,
 ⟨(some 81),.call 18 true [(.tmp 80)],none,0⟩,
 ⟨(some 82),.mov (.tmp 11),none,0⟩,
 ⟨(some 83),.call 19 true [(.tmp 82)],none,0⟩,
 ⟨(some 84),.mov (.tmp 10),none,0⟩,
 ⟨(some 85),.call 40 true [(.tmp 81),(.tmp 83),(.tmp 84)],none,0⟩,
 ⟨(some 79),.mov (.tmp 85),none,0⟩,
 ⟨(some 86),.extract 0 (.tmp 79),none,0⟩,
 ⟨(some 87),.extract 1 (.tmp 79),none,0⟩,
 ⟨(some 16),.mov (.tmp 86),none,0⟩,
 ⟨(some 17),.mov (.tmp 87),none,0⟩])
 (.seq (.region 0 [] [
 ⟨(some 89),.load (some 17) (.tmp 9),none,0⟩,
 ⟨(some 90),.call 18 true [(.tmp 89)],none,0⟩,
 ⟨(some 91),.mov (.tmp 11),none,0⟩,
 ⟨(some 92),.call 19 true [(.tmp 91)],none,0⟩,
 ⟨(some 93),.mov (.tmp 10),none,0⟩,
 ⟨(some 94),.call 40 true [(.tmp 90),(.tmp 92),(.tmp 93)],none,0⟩,
 ⟨(some 88),.mov (.tmp 94),none,0⟩,
 ⟨(some 95),.extract 0 (.tmp 88),none,0⟩,
 ⟨(some 96),.extract 1 (.tmp 88),none,0⟩,
 ⟨(some 18),.mov (.tmp 95),none,0⟩,
 ⟨(some 19),.mov (.tmp 96),none,0⟩])
 (.seq (.region 0 [] [
 ⟨(some 98),.load (some 17) (.tmp 4),none,0⟩,
 ⟨(some 99),.call 18 true [(.tmp 98)],none,0⟩,
 ⟨(some 100),.call 51 true [(.tmp 99)],none,0⟩,
 ⟨(some 97),.mov (.tmp 100),none,0⟩,
 ⟨(some 101),.extract 0 (.tmp 97),none,0⟩,
 ⟨(some 102),.extract 1 (.tmp 97),none,0⟩,
 ⟨(some 103),.extract 2 (.tmp 97),none,0⟩,
 ⟨(some 20),.mov (.tmp 101),none,0⟩,
 ⟨(some 21),.mov (.tmp 102),none,0⟩,
 ⟨(some 22),.mov (.tmp 103),none,0⟩])
 (.seq (.region 0 [] [
 ⟨(some 105),.load (some 17) (.tmp 9),none,0⟩,
 ⟨(some 106),.call 18 true [(.tmp 105)],none,0⟩,
 ⟨(some 107),.call 51 true [(.tmp 106)],none,0⟩,
 ⟨(some 104),.mov (.tmp 107),none,0⟩,
 ⟨(some 108),.extract 0 (.tmp 104),none,0⟩,
 ⟨(some 109),.extract 1 (.tmp 104),none,0⟩,
 ⟨(some 110),.extract 2 (.tmp 104),none,0⟩,
 ⟨(some 23),.mov (.tmp 108),none,0⟩,
 ⟨(some 24),.mov (.tmp 109),none,0⟩,
 ⟨(some 25),.mov (.tmp 110),none,0⟩])
 (.seq (.region 0 [] [
 ⟨(some 111),.mov (.tmp 13),none,0⟩,
 ⟨(some 112),.bin .eql (.tmp 111) (.cst (.c (.int .i64 0))),none,0⟩,
 ⟨(some 113),.mov (.tmp 112),none,0⟩,
 ⟨(some 114),.mov (.tmp 15),some (113,true),0⟩,
 ⟨(some 115),.bin .eql (.tmp 114) (.cst (.c (.int .i64 0))),some (113,true),0⟩,
 ⟨(some 116),.pick (.tmp 113) (.tmp 115) (.cst (.c (.bool false))),none,0⟩,
 ⟨(some 117),.mov (.tmp 116),none,0⟩,
 ⟨(some 118),.mov (.tmp 17),some (117,true),0⟩,
 ⟨(some 119),.bin .eql (.tmp 118) (.cst (.c (.int .i64 0))),some (117,true),0⟩,
 ⟨(some 120),.pick (.tmp 117) (.tmp 119) (.cst (.c (.bool false))),none,0⟩,
 ⟨(some 121),.mov (.tmp 120),none,0⟩,
 ⟨(some 122),.mov (.tmp 19),some (121,true),0⟩,
 ⟨(some 123),.bin .eql (.tmp 122) (.cst (.c (.int .i64 0))),some (121,true),0⟩,
 ⟨(some 124),.pick (.tmp 121) (.tmp 123) (.cst (.c (.bool false))),none,0⟩,
 ⟨(some 125),.mov (.tmp 124),none,0⟩,
 ⟨(some 126),.mov (.tmp 12),some (125,true),0⟩,
 ⟨(some 127),.bin .eql (.tmp 126) (.cst (.c (.int .i64 3))),some (125,true),0⟩,
 ⟨(some 128),.mov (.tmp 127),some (125,true),0⟩,
 ⟨(some 129),.mov (.tmp 14),some (128,false),0⟩,
 ⟨(some 130),.mov (.tmp 12),some (128,false),0⟩,
 ⟨(some 131),.bin .eql (.tmp 129) (.tmp 130),some (128,false),0⟩,
 ⟨(some 132),.pick (.tmp 128) (.cst (.c (.bool true))) (.tmp 131),some (125,true),0⟩,
 ⟨(some 133),.pick (.tmp 125) (.tmp 132) (.cst (.c (.bool false))),none,0⟩,
 ⟨(some 134),.mov (.tmp 133),none,0⟩,
 ⟨(some 135),.mov (.tmp 16),some (134,true),0⟩,
 ⟨(some 136),.bin .eql (.tmp 135) (.cst (.c (.int .i64 3))),some (134,true),0⟩,
 ⟨(some 137),.mov (.tmp 136),some (134,true),0⟩,
 ⟨(some 138),.mov (.tmp 18),some (137,false),0⟩,
 ⟨(some 139),.mov (.tmp 16),some (137,false),0⟩,
 ⟨(some 140),.bin .eql (.tmp 138) (.tmp 139),some (137,false),0⟩,
 ⟨(some 141),.pick (.tmp 137) (.cst (.c (.bool true))) (.tmp 140),some (134,true),0⟩,
 ⟨(some 142),.pick (.tmp 134) (.tmp 141) (.cst (.c (.bool false))),none,0⟩,
 ⟨(some 143),.mov (.tmp 142),none,0⟩,
 ⟨(some 144),.mov (.tmp 22),some (143,true),0⟩,
 ⟨(some 145),.bin .neq (.tmp 144) (.cst (.c (.int .i64 0))),some (143,true),0⟩,
 ⟨(some 146),.mov (.tmp 145),some (143,true),0⟩,
 ⟨(some 147),.mov (.tmp 25),some (146,false),0⟩,
 ⟨(some 148),.bin .eql (.tmp 147) (.cst (.c (.int .i64 0))),some (146,false),0⟩,
 ⟨(some 149),.mov (.tmp 148),some (146,false),0⟩,
 ⟨(some 150),.mov (.tmp 24),some (149,true),0⟩,
 ⟨(some 151),.mov (.tmp 21),some (149,true),0⟩,
 ⟨(some 152),.bin .leq (.tmp 150) (.tmp 151),some (149,true),0⟩,
 ⟨(some 153),.pick (.tmp 149) (.tmp 152) (.cst (.c (.bool false))),some (146,false),0⟩,
 ⟨(some 154),.pick (.tmp 146) (.cst (.c (.bool true))) (.tmp 153),some (143,true),0⟩,
 ⟨(some 155),.pick (.tmp 143) (.tmp 154) (.cst (.c (.bool false))),none,0⟩,
 ⟨(some 156),.mov (.tmp 155),none,0⟩,
 ⟨(some 157),.call 16 true [],some (156,true),0⟩,
 ⟨(some 158),.pick (.tmp 156) (.tmp 157) (.cst (.c (.bool false))),none,0⟩,
 ⟨(some 8),.mov (.tmp 158),none,0⟩])
 .ret)))))))))))))⟩
def f15 : AFunc:=⟨12,[.tmp 2],false,
 (.seq (.region 1 [] [
 ⟨(some 1),.box (.tmp 0),none,0⟩,
 ⟨(some 2),.mov (.cst (.c (.bool false))),none,1⟩])
 (.seq (.region 0 [] [
 ⟨(some 3),.faddr 0 (.tmp 1),none,0⟩,
 ⟨(some 4),.load (some 12) (.tmp 3),none,0⟩,
 ⟨(some 5),.call 61 true [(.tmp 4)],none,0⟩,
 ⟨(some 6),.mov (.tmp 5),none,0⟩,
 ⟨(some 7),.faddr 13 (.tmp 1),some (6,true),0⟩,
 ⟨(some 8),.load none (.tmp 7),some (6,true),0⟩,
 ⟨(some 9),.len (.tmp 8),some (6,true),0⟩,
 ⟨(some 10),.bin .leq (.tmp 9) (.cst (.c (.int .i64 6))),some (6,true),0⟩,
 ⟨(some 11),.pick (.tmp 6) (.tmp 10) (.cst (.c (.bool false))),none,0⟩,
 ⟨(some 2),.mov (.tmp 11),none,0⟩])
 .ret))⟩
def f16 : AFunc:=⟨133,[.tmp 0],false,
 (.seq (.region 0 [] [
 ⟨(some 0),.mov (.cst (.c (.bool false))),none,0⟩])
 (.seq (.region 1 [] [
 ⟨(some 20),.call 46 true [(.cst (.c .nils))],none,0⟩,
 ⟨(some 21),.call 47 true [],none,0⟩,
 ⟨(some 22),.bslice 1 4 [(.int .i64 0)] [(0,(.cst (.c (.int .i64 2)))),(1,(.cst (.c (.int .i64 1)))),(2,(.cst (.c (.int .i64 3)))),(3,(.cst (.c (.int .i64 0))))],none,0⟩,
 ⟨(some 23),.build [(.int .i64 0),(.int .i64 0),.nils] [(0,1,(.cst (.c (.int .i64 1)))),(1,1,(.cst (.c (.int .i64 100)))),(2,1,(.tmp 22))],none,1⟩,
 ⟨(some 24),.call 17 true [(.tmp 20),(.tmp 21),(.tmp 23)],none,1⟩,
 ⟨(some 19),.mov (.tmp 24),none,1⟩,
 ⟨(some 25),.extract 0 (.tmp 19),none,1⟩,
 ⟨(some 26),.extract 1 (.tmp 19),none,1⟩,
 ⟨(some 1),.mov (.tmp 25),none,1⟩,
 ⟨(some 2),.mov (.tmp 26),none,1⟩])
 (.seq (.region 0 [] [
 ⟨(some 28),.call 46 true [(.cst (.c .nils))],none,0⟩,
 ⟨(some 29),.call 28 true [(.tmp 28),(.cst (.c (.int .i64 0))),(.cst (.c (.int .i64 8)))],none,0⟩,
 ⟨(some 27),.mov (.tmp 29),none,0⟩,
 ⟨(some 30),.extract 0 (.tmp 27),none,0⟩,
 ⟨(some 31),.extract 1 (.tmp 27),none,0⟩,
 ⟨(some 3),.mov (.tmp 30),none,0⟩,
 ⟨(some 4),.mov (.tmp 31),none,0⟩])
 (.seq (.region 0 [] [
 ⟨(some 33),.call 46 true [(.cst (.c .nils))],none,0⟩,
 ⟨(some 34),.call 28 true [(.tmp 33),(.cst (.c (.int .i64 0))),(.cst (.c (.int .i64 2)))],none,0⟩,
 ⟨(some 32),.mov (.tmp 34),none,0⟩,
 ⟨(some 35),.extract 0 (.tmp 32),none,0⟩,
 ⟨(some 36),.extract 1 (.tmp 32),none,0⟩,
 ⟨(some 5),.mov (.tmp 35),none,0⟩,
 ⟨(some 6),.mov (.tmp 36),none,0⟩])
 (.seq (.region 0 [] [
 ⟨(some 38),.call 46 true [(.cst (.c .nils))],none,0⟩,
 ⟨(some 39),.call 51 true [(.tmp 38)],none,0⟩,
 ⟨(some 37),.mov (.tmp 39),none,0⟩,
 ⟨(some 40),.extract 0 (.tmp 37),none,0⟩,
 ⟨(some 41),.extract 1 (.tmp 37),none,0⟩,
 ⟨(some 42),.extract 2 (.tmp 37),none,0⟩,
 ⟨(some 7),.mov (.tmp 40),none,0⟩,
 ⟨(some 8),.mov (.tmp 41),none,0⟩,
 ⟨(some 9),.mov (.tmp 42),none,0⟩])
 (.seq (.region 0 [] [
 ⟨(some 44),.call 46 true [(.cst (.c .nils))],none,0⟩,
 ⟨(some 45),.call 49 true [(.tmp 44),(.cst (.c (.int .i64 6)))],none,0⟩,
 ⟨(some 43),.mov (.tmp 45),none,0⟩,
 ⟨(some 46),.extract 0 (.tmp 43),none,0⟩,
 ⟨(some 47),.extract 1 (.tmp 43),none,0⟩,
 ⟨(some 48),.extract 2 (.tmp 43),none,0⟩,
 ⟨(some 10),.mov (.tmp 46),none,0⟩,
 ⟨(some 11),.mov (.tmp 47),none,0⟩,
 ⟨(some 12),.mov (.tmp 48),none,0⟩])
 (.seq (.region 0 [] [
 ⟨(some 50),.call 46 true [(.cst (.c .nils))],none,0⟩,
 ⟨(some 51),.call 47 true [],none,0⟩,
 ⟨(some 52),.call 39 true [(.tmp 50),(.tmp 51),(.cst (.c (.int .i64 0))),(.cst (.c (.int .i64 2)))],none,0⟩,
 ⟨(some 49),.mov (.tmp 52),none,0⟩,
 ⟨(some 53),.extract 0 (.tmp 49),none,0⟩,
 ⟨(some 54),.extract 1 (.tmp 49),none,0⟩,
 ⟨(some 13),.mov (.tmp 53),none,0⟩,
 ⟨(some 14),.mov (.tmp 54),none,0⟩])
 (.seq (.region 0 [] [
 ⟨(some 56),.call 46 true [(.cst (.c .nils))],none,0⟩,
 ⟨(some 57),.call 47 true [],none,0⟩,
 ⟨(some 58),.call 40 true [(.tmp 56),(.tmp 57),(.cst (.c (.int .i64 0)))],none,0⟩,
 ⟨(some 55),.mov (.tmp 58),none,0⟩,
 ⟨(some 59),.extract 0 (.tmp 55),none,0⟩,
 ⟨(some 60),.extract 1 (.tmp 55),none,0⟩,
 ⟨(some 15),.mov (.tmp 59),none,0⟩,
 ⟨(some 16),.mov (.tmp 60),none,0⟩])
 (.seq (.region 1 [] [
 ⟨(some 62),.call 48 true [(.cst (.c (.int .i64 91))),(.cst (.c (.int .i64 99)))],none,0⟩,
 ⟨(some 63),.bslice 2 1 [(.int .i64 0),(.int .i64 0)] [(0,(.tmp 62))],none,0⟩,
 ⟨(some 64),.call 46 true [(.tmp 63)],none,1⟩,
 ⟨(some 65),.call 50 true [(.tmp 64)],none,1⟩,
 ⟨(some 61),.mov (.tmp 65),none,1⟩,
 ⟨(some 66),.extract 0 (.tmp 61),none,1⟩,
 ⟨(some 67),.extract 1 (.tmp 61),none,1⟩,
 ⟨(some 17),.mov (.tmp 66),none,1⟩,
 ⟨(some 18),.mov (.tmp 67),none,1⟩])
 (.seq (.region 2 [] [
 ⟨(some 68),.mov (.tmp 2),none,0⟩,
 ⟨(some 69),.bin .eql (.tmp 68) (.cst (.c (.int .i64 0))),none,0⟩,
 ⟨(some 70),.mov (.tmp 69),none,0⟩,
 ⟨(some 71),.mov (.tmp 1),some (70,true),0⟩,
 ⟨(some 72),.bslice 1 3 [(.int .i64 0)] [(0,(.cst (.c (.int .i64 18)))),(1,(.cst (.c (.int .i64 31)))),(2,(.cst (.c (.int .i64 16))))],some (70,true),0⟩,
 ⟨(some 73),.call 25 true [(.tmp 71),(.tmp 72)],some (70,true),1⟩,
 ⟨(some 74),.pick (.tmp 70) (.tmp 73) (.cst (.c (.bool false))),none,1⟩,
 ⟨(some 75),.mov (.tmp 74),none,1⟩,
 ⟨(some 76),.mov (.tmp 4),some (75,true),1⟩,
 ⟨(some 77),.bin .eql (.tmp 76) (.cst (.c (.int .i64 0))),some (75,true),1⟩,
 ⟨(some 78),.pick (.tmp 75) (.tmp 77) (.cst (.c (.bool false))),none,1⟩,
 ⟨(some 79),.mov (.tmp 78),none,1⟩,
 ⟨(some 80),.mov (.tmp 3),some (79,true),1⟩,
 ⟨(some 81),.bin .eql (.tmp 80) (.cst (.c (.int .i64 4))),some (79,true),1⟩,
 ⟨(some 82),.pick (.tmp 79) (.tmp 81) (.cst (.c (.bool false))),none,1⟩,
 ⟨(some 83),.mov (.tmp 82),none,1⟩,
 ⟨(some 84),.mov (.tmp 6),some (83,true),1⟩,
 ⟨(some 85),.bin .eql (.tmp 84) (.cst (.c (.int .i64 10))),some (83,true),1⟩,
 ⟨(some 86),.pick (.tmp 83) (.tmp 85) (.cst (.c (.bool false))),none,1⟩,
 ⟨(some 87),.mov (.tmp 86),none,1⟩,
 ⟨(some 88),.mov (.tmp 9),some (87,true),1⟩,
 ⟨(some 89),.bin .eql (.tmp 88) (.cst (.c (.int .i64 0))),some (87,true),1⟩,
 ⟨(some 90),.pick (.tmp 87) (.tmp 89) (.cst (.c (.bool false))),none,1⟩,
 ⟨(some 91),.mov (.tmp 90),none,1⟩,
 ⟨(some 92),.mov (.tmp 8),some (91,true),1⟩,
 ⟨(some 93),.bin .eql (.tmp 92) (.cst (.c (.int .i64 9))),some (91,true),1⟩,
 ⟨(some 94),.pick (.tmp 91) (.tmp 93) (.cst (.c (.bool false))),none,1⟩,
 ⟨(some 95),.mov (.tmp 94),none,1⟩,
 ⟨(some 96),.call 46 true [(.cst (.c .nils))],some (95,true),1⟩,
 ⟨(some 97),.mov (.tmp 7),some (95,true),1⟩,
 ⟨(some 98),.call 34 true [(.tmp 96),(.tmp 97),(.cst (.c (.int .i64 9)))],some (95,true),1⟩,
 ⟨(some 99),.pick (.tmp 95) (.tmp 98) (.cst (.c (.bool false))),none,1⟩,
 ⟨(some 100),.mov (.tmp 99),none,1⟩,
 ⟨(some 101),.mov (.tmp 12),some (100,true),1⟩,
 ⟨(some 102),.bin .eql (.tmp 101) (.cst (.c (.int .i64 0))),some (100,true),1⟩,
 ⟨(some 103),.pick (.tmp 100) (.tmp 102) (.cst (.c (.bool false))),none,1⟩,
 ⟨(some 104),.mov (.tmp 103),none,1⟩,
 ⟨(some 105),.mov (.tmp 11),some (104,true),1⟩,
 ⟨(some 106),.bin .eql (.tmp 105) (.cst (.c (.int .i64 2))),some (104,true),1⟩,
 ⟨(some 107),.pick (.tmp 104) (.tmp 106) (.cst (.c (.bool false))),none,1⟩,
 ⟨(some 108),.mov (.tmp 107),none,1⟩,
 ⟨(some 109),.mov (.tmp 14),some (108,true),1⟩,
 ⟨(some 110),.bin .eql (.tmp 109) (.cst (.c (.int .i64 0))),some (108,true),1⟩,
 ⟨(some 111),.pick (.tmp 108) (.tmp 110) (.cst (.c (.bool false))),none,1⟩,
 ⟨(some 112),.mov (.tmp 111),none,1⟩,
 ⟨(some 113),.mov (.tmp 13),some (112,true),1⟩,
 ⟨(some 114),.bin .eql (.tmp 113) (.cst (.c (.int .i64 1))),some (112,true),1⟩,
 ⟨(some 115),.pick (.tmp 112) (.tmp 114) (.cst (.c (.bool false))),none,1⟩,
 ⟨(some 116),.mov (.tmp 115),none,1⟩,
 ⟨(some 117),.mov (.tmp 16),some (116,true),1⟩,
 ⟨(some 118),.bin .eql (.tmp 117) (.cst (.c (.int .i64 0))),some (116,true),1⟩,
 ⟨(some 119),.pick (.tmp 116) (.tmp 118) (.cst (.c (.bool false))),none,1⟩,
 ⟨(some 120),.mov (.tmp 119),none,1⟩,
 ⟨(some 121),.mov (.tmp 15),some (120,true),1⟩,
 ⟨(some 122),.bin .eql (.tmp 121) (.cst (.c (.int .i64 3))),some (120,true),1⟩,
 ⟨(some 123),.pick (.tmp 120) (.tmp 122) (.cst (.c (.bool false))),none,1⟩,
 ⟨(some 124),.mov (.tmp 123),none,1⟩,
 ⟨(some 125),.mov (.tmp 18),some (124,true),1⟩,
 ⟨(some 126),.bin .eql (.tmp 125) (.cst (.c (.int .i64 0))),some (124,true),1⟩,
 ⟨(some 127),.pick (.tmp 124) (.tmp 126) (.cst (.c (.bool false))),none,1⟩,
 ⟨(some 128),.mov (.tmp 127),none,1⟩,
 ⟨(some 129),.mov (.tmp 17),some (128,true),1⟩,
 ⟨(some 130),.bslice 1 1 [(.int .i64 0)] [(0,(.cst (.c (.int .i64 3))))],some (128,true),1⟩,
 ⟨(some 131),.call 25 true [(.tmp 129),(.tmp 130)],some (128,true),2⟩,
 ⟨(some 132),.pick (.tmp 128) (.tmp 131) (.cst (.c (.bool false))),none,2⟩,
 ⟨(some 0),.mov (.tmp 132),none,2⟩])
 .ret))))))))))⟩
def f17 : AFunc:=⟨40,[.tmp 6,.tmp 7],false,
 (.seq (.region 2 [] [
 ⟨(some 3),.box (.tmp 0),none,0⟩,
 ⟨(some 5),.box (.tmp 2),none,1⟩,
 ⟨(some 6),.mov (.cst (.c .nils)),none,2⟩,
 ⟨(some 7),.mov (.cst (.c (.int .i64 0))),none,2⟩])
 (.seq (.seq (.region 0 [] [
 ⟨(some 13),.load (some 17) (.tmp 3),none,0⟩,
 ⟨(some 14),.call 22 true [(.tmp 13)],none,0⟩,
 ⟨(some 8),.mov (.tmp 14),none,0⟩])
 (.seq (.region 0 [] [
 ⟨(some 15),.mov (.tmp 8),none,0⟩,
 ⟨(some 16),.bin .neq (.tmp 15) (.cst (.c (.int .i64 0))),none,0⟩])
 (.cond (.tmp 16)
 (.seq (.region 0 [] [
 ⟨(some 17),.mov (.tmp 8),none,0⟩,
 ⟨(some 6),.mov (.cst (.c .nils)),none,0⟩,
 ⟨(some 7),.mov (.tmp 17),none,0⟩])
 .ret)
 .skip)))
 (.seq (.region 1 [] [
 ⟨(some 19),.load (some 17) (.tmp 3),none,0⟩,
 ⟨(some 20),.load (some 3) (.tmp 5),none,0⟩,
 ⟨(some 21),.call 62 true [(.tmp 19),(.tmp 20)],none,0⟩,
 ⟨(some 18),.mov (.tmp 21),none,0⟩,
 ⟨(some 22),.extract 0 (.tmp 18),none,0⟩,
 ⟨(some 23),.extract 1 (.tmp 18),none,0⟩,
 ⟨(some 9),.alloc [(.int .i64 0),(.int .i64 0),(.int .i64 0),(.int .i64 0),(.int .i64 0),(.int .i64 0),(.int .i64 0),(.int .i64 0),(.int .i64 0),(.int .i64 0),(.int .i64 0),(.int .i64 0),(.int .i64 0),(.int .i64 0),(.int .i64 0),(.int .i64 0),(.int .i64 0),(.int .i64 0),(.int .i64 0),(.int .i64 0)],none,0⟩,
 ⟨none,.store (some 20) (.tmp 9) (.tmp 22),none,1⟩,
 ⟨(some 10),.mov (.tmp 23),none,1⟩])
 (.seq (.seq (.region 0 [] [
 ⟨(some 25),.load (some 17) (.tmp 3),none,0⟩,
 ⟨(some 26),.mov (.tmp 1),none,0⟩,
 ⟨(some 27),.call 63 true [(.tmp 25),(.tmp 26)],none,0⟩,
 ⟨(some 24),.mov (.tmp 27),none,0⟩,
 ⟨(some 28),.extract 0 (.tmp 24),none,0⟩,
 ⟨(some 29),.extract 1 (.tmp 24),none,0⟩,
 ⟨(some 11),.mov (.tmp 28),none,0⟩,
 ⟨(some 12),.mov (.tmp 29),none,0⟩])
 (.seq (.region 0 [] [
 ⟨(some 30),.mov (.tmp 12),none,0⟩,
 ⟨(some 31),.not (.tmp 30),none,0⟩,
 ⟨(some 32),.mov (.tmp 31),none,0⟩,
 ⟨(some 33),.mov (.tmp 10),some (32,false),0⟩,
 ⟨(some 34),.not (.tmp 33),some (32,false),0⟩,
 ⟨(some 35),.pick (.tmp 32) (.cst (.c (.bool true))) (.tmp 34),none,0⟩])
 (.cond (.tmp 35)
 (.seq (.region 0 [] [
 ⟨(some 6),.mov (.cst (.c .nils)),none,0⟩,
 ⟨(some 7),.mov (.cst (.c (.int .i64 2))),none,0⟩])
 .ret)
 .skip)))
 (.seq (.region 0 [] [
 ⟨(some 36),.load (some 20) (.tmp 9),none,0⟩,
 ⟨(some 37),.load (some 17) (.tmp 3),none,0⟩,
 ⟨(some 38),.mov (.tmp 1),none,0⟩,
 ⟨(some 39),.call 64 true [(.tmp 36),(.tmp 37),(.tmp 38)],none,0⟩,
 ⟨(some 6),.mov (.tmp 39),none,0⟩,
 ⟨(some 7),.mov (.cst (.c (.int .i64 0))),none,0⟩])
 .ret)))))⟩
def f18 : AFunc:=⟨35,[.cell 2 (some 17)],false,
 (.seq (.region 2 [] [
 ⟨(some 1),.box (.tmp 0),none,0⟩,
 ⟨(some 2),.alloc [(.int .i64 0),(.int .i64 0),(.int .i64 0),(.int .i64 0),(.int .i64 0),(.int .i64 0),(.int .i64 0),(.int .i64 0),.nils,.nils,.nils,.nils,(.int .i64 0),.nils,(.int .i64 0),(.int .i64 0),(.int .i64 0)],none,1⟩])
 (.seq (.region 1 [(0,3),(1,3),(2,3),(0,4),(1,4),(2,4),(0,5),(1,5),(2,5),(3,5),(4,5),(0,6),(1,6),(2,6),(3,6),(4,6),(0,7),(1,7),(2,7),(3,7),(4,7),(5,7),(6,7),(0,8),(1,8),(2,8),(3,8),(4,8),(5,8),(6,8),(3,9),(4,9),(5,9),(6,9),(0,11),(1,11),(2,11),(3,11),(4,11),(5,11),(6,11),(7,11),(8,11),(9,11),(10,11)] [
 ⟨(some 5),.faddr 0 (.tmp 1),none,0⟩,
 ⟨(some 6),.load (some 12) (.tmp 5),none,0⟩,
 ⟨(some 7),.call 58 true [(.tmp 6)],none,0⟩,
 ⟨(some 8),.faddr 12 (.tmp 1),none,0⟩,
 ⟨(some 9),.load none (.tmp 8),none,0⟩,
 ⟨(some 10),.faddr 14 (.tmp 1),none,0⟩,
 ⟨(some 11),.load none (.tmp 10),none,0⟩,
 ⟨(some 12),.faddr 15 (.tmp 1),none,0⟩,
 ⟨(some 13),.load (some 2) (.tmp 12),none,0⟩,
 ⟨(some 14),.call 65 true [(.tmp 13)],none,0⟩,
 ⟨(some 15),.build [(.int .i64 0),(.int .i64 0),(.int .i64 0),(.int .i64 0),(.int .i64 0),(.int .i64 0),(.int .i64 0),(.int .i64 0),.nils,.nils,.nils,.nils,(.int .i64 0),.nils,(.int .i64 0),(.int .i64 0),(.int .i64 0)] [(0,12,(.tmp 7)),(12,1,(.tmp 9)),(14,1,(.tmp 11)),(15,2,(.tmp 14))],none,0⟩,
 ⟨(some 3),.alloc [(.int .i64 0),(.int .i64 0),(.int .i64 0),(.int .i64 0),(.int .i64 0),(.int .i64 0),(.int .i64 0),(.int .i64 0),.nils,.nils,.nils,.nils,(.int .i64 0),.nils,(.int .i64 0),(.int .i64 0),(.int .i64 0)],none,0⟩,
 ⟨none,.store (some 17) (.tmp 3) (.tmp 15),none,1⟩])
 (.seq (.seq (.region 0 [] [
 ⟨(some 4),.mov (.cst (.c (.int .i64 0))),none,0⟩])
 (.block 0 (.loop ⟨[16,17,18,19,20,21,22,23,24,25,26,27,28,29,30,31,32,33],true,[(3,(some 13),2)]⟩
 (.seq (.seq (.region 0 [] [
 ⟨(some 16),.mov (.tmp 4),none,0⟩,
 ⟨(some 17),.faddr 13 (.tmp 1),none,0⟩,
 ⟨(some 18),.load none (.tmp 17),none,0⟩,
 ⟨(some 19),.len (.tmp 18),none,0⟩,
 ⟨(some 20),.bin .lss (.tmp 16) (.tmp 19),none,0⟩])
 (.cond (.tmp 20)
 .skip
 (.exit 0)))
 (.seq (.block 1 (.region 2 [(0,2),(1,2),(0,3),(1,3),(0,4),(1,4),(2,4),(3,4),(0,5),(1,5),(0,6),(1,6),(0,7),(1,7),(0,8),(1,8)] [
 ⟨(some 23),.faddr 13 (.tmp 3),none,0⟩,
 ⟨(some 24),.load none (.tmp 23),none,0⟩,
 ⟨(some 25),.faddr 13 (.tmp 1),none,0⟩,
 ⟨(some 26),.load none (.tmp 25),none,0⟩,
 ⟨(some 27),.mov (.tmp 4),none,0⟩,
 ⟨(some 28),.iaddr 2 (.tmp 26) (.tmp 27),none,0⟩,
 ⟨(some 29),.load (some 2) (.tmp 28),none,0⟩,
 ⟨(some 30),.call 65 true [(.tmp 29)],none,0⟩,
 ⟨(some 31),.bslice 2 1 [(.int .i64 0),(.int .i64 0)] [(0,(.tmp 30))],none,0⟩,
 ⟨(some 32),.append 2 16 (.tmp 24) (.tmp 31),none,1⟩,
 ⟨(some 33),.faddr 13 (.tmp 3),none,2⟩,
 ⟨none,.store none (.tmp 33) (.tmp 32),none,2⟩]))
 (.region 0 [] [
 ⟨(some 21),.mov (.tmp 4),none,0⟩,
 ⟨(some 22),.bin .add (.tmp 21) (.cst (.c (.int .i64 1))),none,0⟩,
 ⟨(some 4),.mov (.tmp 22),none,0⟩]))))))
 (.seq (.region 0 [] [
 ⟨(some 34),.load (some 17) (.tmp 3),none,0⟩,
 ⟨none,.store (some 17) (.tmp 2) (.tmp 34),none,0⟩])
 .ret))))⟩
def f19 : AFunc:=⟨27,[.tmp 2],false,
 (.seq (.region 0 [] [
 ⟨(some 2),.mov (.cst (.c .nils)),none,0⟩])
 (.seq (.region 1 [] [
 ⟨(some 5),.bslice 2 0 [(.int .i64 0),(.int .i64 0)] [],none,0⟩,
 ⟨(some 3),.mov (.tmp 5),none,1⟩])
 (.seq (.seq (.region 0 [] [
 ⟨(some 4),.mov (.cst (.c (.int .i64 0))),none,0⟩])
 (.block 0 (.loop ⟨[6,7,8,9,10,11,12,13,14,15,16,17,18,19,20,21,22,23,24,25],true,[(3,none,2)]⟩
 (.seq (.seq (.region 0 [] [
 ⟨(some 6),.mov (.tmp 4),none,0⟩,
 ⟨(some 7),.mov (.tmp 0),none,0⟩,
 ⟨(some 8),.len (.tmp 7),none,0⟩,
 ⟨(some 9),.bin .lss (.tmp 6) (.tmp 8),none,0⟩])
 (.cond (.tmp 9)
 .skip
 (.exit 0)))
 (.seq (.block 1 (.region 2 [(0,1),(0,2),(1,2),(0,3),(0,4),(0,5),(0,6),(1,6),(2,6),(3,6),(4,6),(5,6),(0,7),(1,7),(2,7),(3,7),(4,7),(5,7),(6,7),(0,8),(1,8),(2,8),(3,8),(4,8),(5,8),(0,9),(1,9),(2,9),(3,9),(4,9),(5,9),(0,10),(1,10),(2,10),(3,10),(4,10),(5,10),(0,11),(0,12)] [
 ⟨(some 12),.mov (.tmp 3),none,0⟩,
 ⟨(some 13),.mov (.tmp 0),none,0⟩,
 ⟨(some 14),.mov (.tmp 4),none,0⟩,
 ⟨(some 15),.iaddr 2 (.tmp 13) (.tmp 14),none,0⟩,
 ⟨(some 16),.faddr 0 (.tmp 15),none,0⟩,
 ⟨(some 17),.load none (.tmp 16),none,0⟩,
 ⟨(some 18),.mov (.tmp 0),none,0⟩,
 ⟨(some 19),.mov (.tmp 4),none,0⟩,
 ⟨(some 20),.iaddr 2 (.tmp 18) (.tmp 19),none,0⟩,
 ⟨(some 21),.faddr 1 (.tmp 20),none,0⟩,
 ⟨(some 22),.load none (.tmp 21),none,0⟩,
 ⟨(some 23),.build [(.int .i64 0),(.int .i64 0)] [(0,1,(.tmp 17)),(1,1,(.tmp 22))],none,0⟩,
 ⟨(some 24),.bslice 2 1 [(.int .i64 0),(.int .i64 0)] [(0,(.tmp 23))],none,0⟩,
 ⟨(some 25),.append 2 16 (.tmp 12) (.tmp 24),none,1⟩,
 ⟨(some 3),.mov (.tmp 25),none,2⟩]))
 (.region 0 [] [
 ⟨(some 10),.mov (.tmp 4),none,0⟩,
 ⟨(some 11),.bin .add (.tmp 10) (.cst (.c (.int .i64 1))),none,0⟩,
 ⟨(some 4),.mov (.tmp 11),none,0⟩]))))))
 (.seq (.region 0 [] [
 ⟨(some 26),.mov (.tmp 3),none,0⟩,
 ⟨(some 2),.mov (.tmp 26),none,0⟩])
 .ret))))⟩
def f21 : AFunc:=⟨5,[.tmp 2],false,
 (.seq (.region 1 [] [
 ⟨(some 1),.box (.tmp 0),none,0⟩,
 ⟨(some 2),.mov (.cst (.c (.int .i64 0))),none,1⟩])
 (.seq (.region 0 [] [
 ⟨(some 3),.load (some 17) (.tmp 1),none,0⟩,
 ⟨(some 4),.call 67 true [(.tmp 3)],none,0⟩,
 ⟨(some 2),.mov (.tmp 4),none,0⟩])
 .ret))⟩
def f22 : AFunc:=⟨43,[.tmp 2],false,
 (.seq (.region 1 [] [
 ⟨(some 1),.box (.tmp 0),none,0⟩,
 ⟨(some 2),.mov (.cst (.c (.int .i64 0))),none,1⟩])
 (.seq (.seq (.region 0 [] [
 ⟨(some 5),.faddr 13 (.tmp 1),none,0⟩,
 ⟨(some 6),.load none (.tmp 5),none,0⟩,
 ⟨(some 7),.len (.tmp 6),none,0⟩,
 ⟨(some 8),.bin .gtr (.tmp 7) (.cst (.c (.int .i64 4))),none,0⟩])
 (.cond (.tmp 8)
 (.seq (.region 0 [] [
 ⟨(some 2),.mov (.cst (.c (.int .i64 3))),none,0⟩])
 .ret)
 .skip))
 (.seq (.seq (.region 0 [] [
 ⟨(some 10),.faddr 0 (.tmp 1),none,0⟩,
 ⟨(some 11),.load (some 12) (.tmp 10),none,0⟩,
 ⟨(some 12),.call 68 true [(.tmp 11)],none,0⟩,
 ⟨(some 9),.mov (.tmp 12),none,0⟩,
 ⟨(some 13),.extract 0 (.tmp 9),none,0⟩,
 ⟨(some 14),.extract 1 (.tmp 9),none,0⟩,
 ⟨(some 3),.mov (.tmp 13),none,0⟩,
 ⟨(some 4),.mov (.tmp 14),none,0⟩])
 (.seq (.region 0 [] [
 ⟨(some 15),.mov (.tmp 4),none,0⟩,
 ⟨(some 16),.bin .neq (.tmp 15) (.cst (.c (.int .i64 0))),none,0⟩])
 (.cond (.tmp 16)
 (.seq (.region 0 [] [
 ⟨(some 17),.mov (.tmp 4),none,0⟩,
 ⟨(some 2),.mov (.tmp 17),none,0⟩])
 .ret)
 .skip)))
 (.seq (.seq (.region 0 [] [
 ⟨(some 18),.faddr 12 (.tmp 1),none,0⟩,
 ⟨(some 19),.load none (.tmp 18),none,0⟩,
 ⟨(some 20),.faddr 0 (.tmp 1),none,0⟩,
 ⟨(some 21),.faddr 0 (.tmp 20),none,0⟩,
 ⟨(some 22),.load none (.tmp 21),none,0⟩,
 ⟨(some 23),.call 69 true [(.tmp 19),(.cst (.c (.int .i64 0))),(.tmp 22)],none,0⟩,
 ⟨(some 24),.not (.tmp 23),none,0⟩,
 ⟨(some 25),.mov (.tmp 24),none,0⟩,
 ⟨(some 26),.faddr 13 (.tmp 1),some (25,false),0⟩,
 ⟨(some 27),.load none (.tmp 26),some (25,false),0⟩,
 ⟨(some 28),.call 70 false [(.tmp 27),(.cst (.c (.fn 71 false [] [])))],some (25,false),0⟩,
 ⟨(some 29),.not (.tmp 28),some (25,false),0⟩,
 ⟨(some 30),.pick (.tmp 25) (.cst (.c (.bool true))) (.tmp 29),none,0⟩,
 ⟨(some 31),.mov (.tmp 30),none,0⟩,
 ⟨(some 32),.faddr 14 (.tmp 1),some (31,false),0⟩,
 ⟨(some 33),.load none (.tmp 32),some (31,false),0⟩,
 ⟨(some 34),.call 69 true [(.tmp 33),(.cst (.c (.int .i64 0))),(.cst (.c (.int .i64 9999)))],some (31,false),0⟩,
 ⟨(some 35),.not (.tmp 34),some (31,false),0⟩,
 ⟨(some 36),.pick (.tmp 31) (.cst (.c (.bool true))) (.tmp 35),none,0⟩,
 ⟨(some 37),.mov (.tmp 36),none,0⟩,
 ⟨(some 38),.faddr 15 (.tmp 1),some (37,false),0⟩,
 ⟨(some 39),.load (some 2) (.tmp 38),some (37,false),0⟩,
 ⟨(some 40),.call 71 true [(.tmp 39)],some (37,false),0⟩,
 ⟨(some 41),.not (.tmp 40),some (37,false),0⟩,
 ⟨(some 42),.pick (.tmp 37) (.cst (.c (.bool true))) (.tmp 41),none,0⟩])
 (.cond (.tmp 42)
 (.seq (.region 0 [] [
 ⟨(some 2),.mov (.cst (.c (.int .i64 1))),none,0⟩])
 .ret)
 .skip))
 (.seq (.region 0 [] [
 ⟨(some 2),.mov (.cst (.c (.int .i64 0))),none,0⟩])
 .ret)))))⟩
end Am.Vt
