/-
  A part of the proof: the texts MvTabA of this seat, joined.
-/
import Derived.Test.YtgaifkhngaopgaaAmA
namespace Am.Mv
open Go Am
set_option maxRecDepth 100000
/-- 2 gosem.cut.init -/
def f2 : AFunc := ⟨1,[],false,
 (.region 0 [] [
 ⟨(some 0),.call 1 true [],none,0⟩])⟩
/-- 3 isatis/isatislaw11.MovePlays -/
def f3 : AFunc := ⟨94,[.tmp 6],false,
 (.seq (.region 1 [] [
 ⟨(some 3),.box (.tmp 0),none,0⟩,
 ⟨(some 6),.mov (.cst (.c (.bool false))),none,1⟩])
 (.seq (.seq (.region 0 [] [
 ⟨(some 12),.load (some 7) (.tmp 3),none,0⟩,
 ⟨(some 13),.call 16 true [(.tmp 12)],none,0⟩,
 ⟨(some 14),.not (.tmp 13),none,0⟩,
 ⟨(some 15),.mov (.tmp 14),none,0⟩,
 ⟨(some 16),.mov (.tmp 1),some (15,false),0⟩,
 ⟨(some 17),.len (.tmp 16),some (15,false),0⟩,
 ⟨(some 18),.bin .gtr (.tmp 17) (.cst (.c (.int .i64 8))),some (15,false),0⟩,
 ⟨(some 19),.pick (.tmp 15) (.cst (.c (.bool true))) (.tmp 18),none,0⟩,
 ⟨(some 20),.mov (.tmp 19),none,0⟩,
 ⟨(some 21),.mov (.tmp 2),some (20,false),0⟩,
 ⟨(some 22),.len (.tmp 21),some (20,false),0⟩,
 ⟨(some 23),.bin .gtr (.tmp 22) (.cst (.c (.int .i64 8))),some (20,false),0⟩,
 ⟨(some 24),.pick (.tmp 20) (.cst (.c (.bool true))) (.tmp 23),none,0⟩])
 (.cond (.tmp 24)
 (.seq (.region 0 [] [
 ⟨(some 25),.call 17 true [],none,0⟩,
 ⟨(some 6),.mov (.tmp 25),none,0⟩])
 .ret)
 .skip))
 (.seq (.region 0 [] [
 ⟨(some 27),.load (some 7) (.tmp 3),none,0⟩,
 ⟨(some 28),.call 19 true [(.tmp 27)],none,0⟩,
 ⟨(some 29),.mov (.tmp 1),none,0⟩,
 ⟨(some 30),.call 20 true [(.tmp 29)],none,0⟩,
 ⟨(some 31),.mov (.tmp 2),none,0⟩,
 ⟨(some 32),.call 20 true [(.tmp 31)],none,0⟩,
 ⟨(some 33),.call 18 true [(.tmp 28),(.tmp 30),(.tmp 32)],none,0⟩,
 ⟨(some 26),.mov (.tmp 33),none,0⟩,
 ⟨(some 34),.extract 0 (.tmp 26),none,0⟩,
 ⟨(some 35),.extract 1 (.tmp 26),none,0⟩,
 ⟨(some 7),.mov (.tmp 34),none,0⟩,
 ⟨(some 8),.mov (.tmp 35),none,0⟩])
 (.seq (.region 0 [] [
 ⟨(some 36),.load (some 7) (.tmp 3),none,0⟩,
 ⟨(some 37),.call 21 true [(.tmp 36)],none,0⟩,
 ⟨(some 9),.mov (.tmp 37),none,0⟩])
 (.seq (.seq (.region 0 [] [
 ⟨(some 38),.load (some 7) (.tmp 3),none,0⟩,
 ⟨(some 39),.call 19 true [(.tmp 38)],none,0⟩,
 ⟨(some 40),.call 22 true [(.tmp 39)],none,0⟩,
 ⟨(some 41),.mov (.tmp 9),none,0⟩,
 ⟨(some 42),.bin .neq (.tmp 40) (.tmp 41),none,0⟩])
 (.cond (.tmp 42)
 (.seq (.region 0 [] [
 ⟨(some 6),.mov (.cst (.c (.bool false))),none,0⟩])
 .ret)
 .skip))
 (.seq (.seq (.region 0 [] [
 ⟨(some 43),.mov (.tmp 9),none,0⟩,
 ⟨(some 44),.bin .eql (.tmp 43) (.cst (.c (.int .i64 0))),none,0⟩,
 ⟨(some 45),.mov (.tmp 44),none,0⟩,
 ⟨(some 46),.load (some 7) (.tmp 3),some (45,true),0⟩,
 ⟨(some 47),.mov (.tmp 1),some (45,true),0⟩,
 ⟨(some 48),.call 23 true [(.tmp 46),(.tmp 47)],some (45,true),0⟩,
 ⟨(some 49),.not (.tmp 48),some (45,true),0⟩,
 ⟨(some 50),.mov (.tmp 49),some (45,true),0⟩,
 ⟨(some 51),.load (some 7) (.tmp 3),some (50,false),0⟩,
 ⟨(some 52),.mov (.tmp 2),some (50,false),0⟩,
 ⟨(some 53),.faddr 0 (.tmp 3),some (50,false),0⟩,
 ⟨(some 54),.load none (.tmp 53),some (50,false),0⟩,
 ⟨(some 55),.bin .add (.tmp 54) (.cst (.c (.int .i64 1))),some (50,false),0⟩,
 ⟨(some 56),.call 24 true [(.tmp 51),(.tmp 52),(.tmp 55)],some (50,false),0⟩,
 ⟨(some 57),.not (.tmp 56),some (50,false),0⟩,
 ⟨(some 58),.pick (.tmp 50) (.cst (.c (.bool true))) (.tmp 57),some (45,true),0⟩,
 ⟨(some 59),.pick (.tmp 45) (.tmp 58) (.cst (.c (.bool false))),none,0⟩])
 (.cond (.tmp 59)
 (.region 0 [] [
 ⟨(some 9),.mov (.cst (.c (.int .i64 2))),none,0⟩])
 .skip))
 (.seq (.region 0 [] [
 ⟨(some 10),.mov (.cst (.c .nils)),none,0⟩])
 (.seq (.seq (.region 0 [] [
 ⟨(some 60),.mov (.tmp 9),none,0⟩,
 ⟨(some 61),.bin .eql (.tmp 60) (.cst (.c (.int .i64 0))),none,0⟩])
 (.cond (.tmp 61)
 (.seq (.region 0 [] [
 ⟨(some 11),.mov (.cst (.c (.bool false))),none,0⟩])
 (.seq (.region 0 [] [
 ⟨(some 63),.load (some 7) (.tmp 3),none,0⟩,
 ⟨(some 64),.mov (.tmp 1),none,0⟩,
 ⟨(some 65),.mov (.tmp 2),none,0⟩,
 ⟨(some 66),.call 25 true [(.tmp 63),(.tmp 64),(.tmp 65)],none,0⟩,
 ⟨(some 62),.mov (.tmp 66),none,0⟩,
 ⟨(some 67),.extract 0 (.tmp 62),none,0⟩,
 ⟨(some 68),.extract 1 (.tmp 62),none,0⟩,
 ⟨(some 10),.mov (.tmp 67),none,0⟩,
 ⟨(some 11),.mov (.tmp 68),none,0⟩])
 (.seq (.region 0 [] [
 ⟨(some 69),.mov (.tmp 11),none,0⟩,
 ⟨(some 70),.not (.tmp 69),none,0⟩])
 (.cond (.tmp 70)
 (.region 0 [] [
 ⟨(some 9),.mov (.cst (.c (.int .i64 9))),none,0⟩])
 .skip))))
 .skip))
 (.seq (.seq (.region 0 [] [
 ⟨(some 71),.mov (.tmp 9),none,0⟩,
 ⟨(some 72),.bin .neq (.tmp 71) (.cst (.c (.int .i64 0))),none,0⟩])
 (.cond (.tmp 72)
 (.seq (.region 0 [] [
 ⟨(some 73),.mov (.tmp 8),none,0⟩,
 ⟨(some 74),.mov (.tmp 9),none,0⟩,
 ⟨(some 75),.bin .eql (.tmp 73) (.tmp 74),none,0⟩,
 ⟨(some 76),.mov (.tmp 75),none,0⟩,
 ⟨(some 77),.mov (.tmp 7),some (76,true),0⟩,
 ⟨(some 78),.len (.tmp 77),some (76,true),0⟩,
 ⟨(some 79),.bin .eql (.tmp 78) (.cst (.c (.int .i64 0))),some (76,true),0⟩,
 ⟨(some 80),.pick (.tmp 76) (.tmp 79) (.cst (.c (.bool false))),none,0⟩,
 ⟨(some 81),.mov (.tmp 80),none,0⟩,
 ⟨(some 82),.call 17 true [],some (81,true),0⟩,
 ⟨(some 83),.pick (.tmp 81) (.tmp 82) (.cst (.c (.bool false))),none,0⟩,
 ⟨(some 6),.mov (.tmp 83),none,0⟩])
 .ret)
 .skip))
 (.seq (.region 0 [] [
 ⟨(some 84),.mov (.tmp 8),none,0⟩,
 ⟨(some 85),.bin .eql (.tmp 84) (.cst (.c (.int .i64 0))),none,0⟩,
 ⟨(some 86),.mov (.tmp 85),none,0⟩,
 ⟨(some 87),.mov (.tmp 7),some (86,true),0⟩,
 ⟨(some 88),.mov (.tmp 10),some (86,true),0⟩,
 ⟨(some 89),.call 26 true [(.tmp 87),(.tmp 88)],some (86,true),0⟩,
 ⟨(some 90),.pick (.tmp 86) (.tmp 89) (.cst (.c (.bool false))),none,0⟩,
 ⟨(some 91),.mov (.tmp 90),none,0⟩,
 ⟨(some 92),.call 17 true [],some (91,true),0⟩,
 ⟨(some 93),.pick (.tmp 91) (.tmp 92) (.cst (.c (.bool false))),none,0⟩,
 ⟨(some 6),.mov (.tmp 93),none,0⟩])
 .ret))))))))))⟩
/-- 4 isatis/isatislaw11.MoveBest -/
def f4 : AFunc := ⟨186,[.tmp 4],false,
 (.seq (.region 1 [] [
 ⟨(some 2),.box (.tmp 0),none,0⟩,
 ⟨(some 4),.mov (.cst (.c (.bool false))),none,1⟩])
 (.seq (.seq (.region 0 [] [
 ⟨(some 21),.load (some 7) (.tmp 2),none,0⟩,
 ⟨(some 22),.call 16 true [(.tmp 21)],none,0⟩,
 ⟨(some 23),.not (.tmp 22),none,0⟩])
 (.cond (.tmp 23)
 (.seq (.region 0 [] [
 ⟨(some 24),.call 17 true [],none,0⟩,
 ⟨(some 4),.mov (.tmp 24),none,0⟩])
 .ret)
 .skip))
 (.seq (.region 0 [] [
 ⟨(some 26),.load (some 7) (.tmp 2),none,0⟩,
 ⟨(some 27),.call 19 true [(.tmp 26)],none,0⟩,
 ⟨(some 28),.call 27 true [(.tmp 27)],none,0⟩,
 ⟨(some 25),.mov (.tmp 28),none,0⟩,
 ⟨(some 29),.extract 0 (.tmp 25),none,0⟩,
 ⟨(some 30),.extract 1 (.tmp 25),none,0⟩,
 ⟨(some 31),.extract 2 (.tmp 25),none,0⟩,
 ⟨(some 5),.mov (.tmp 29),none,0⟩,
 ⟨(some 6),.mov (.tmp 30),none,0⟩,
 ⟨(some 7),.mov (.tmp 31),none,0⟩])
 (.seq (.region 0 [] [
 ⟨(some 33),.load (some 7) (.tmp 2),none,0⟩,
 ⟨(some 34),.call 19 true [(.tmp 33)],none,0⟩,
 ⟨(some 35),.call 28 true [(.tmp 34)],none,0⟩,
 ⟨(some 32),.mov (.tmp 35),none,0⟩,
 ⟨(some 36),.extract 0 (.tmp 32),none,0⟩,
 ⟨(some 37),.extract 1 (.tmp 32),none,0⟩,
 ⟨(some 8),.mov (.tmp 36),none,0⟩,
 ⟨(some 9),.mov (.tmp 37),none,0⟩])
 (.seq (.region 0 [] [
 ⟨(some 39),.load (some 7) (.tmp 2),none,0⟩,
 ⟨(some 40),.call 19 true [(.tmp 39)],none,0⟩,
 ⟨(some 41),.mov (.tmp 1),none,0⟩,
 ⟨(some 42),.call 29 true [(.tmp 40),(.tmp 41)],none,0⟩,
 ⟨(some 38),.mov (.tmp 42),none,0⟩,
 ⟨(some 43),.extract 0 (.tmp 38),none,0⟩,
 ⟨(some 44),.extract 1 (.tmp 38),none,0⟩,
 ⟨(some 10),.mov (.tmp 43),none,0⟩,
 ⟨(some 11),.mov (.tmp 44),none,0⟩])
 (.seq (.seq (.region 0 [] [
 ⟨(some 45),.load (some 7) (.tmp 2),none,0⟩,
 ⟨(some 46),.call 21 true [(.tmp 45)],none,0⟩,
 ⟨(some 12),.mov (.tmp 46),none,0⟩])
 (.seq (.region 0 [] [
 ⟨(some 47),.mov (.tmp 12),none,0⟩,
 ⟨(some 48),.bin .neq (.tmp 47) (.cst (.c (.int .i64 0))),none,0⟩])
 (.cond (.tmp 48)
 (.seq (.region 0 [] [
 ⟨(some 49),.mov (.tmp 7),none,0⟩,
 ⟨(some 50),.mov (.tmp 12),none,0⟩,
 ⟨(some 51),.bin .eql (.tmp 49) (.tmp 50),none,0⟩,
 ⟨(some 52),.mov (.tmp 51),none,0⟩,
 ⟨(some 53),.mov (.tmp 9),some (52,true),0⟩,
 ⟨(some 54),.mov (.tmp 12),some (52,true),0⟩,
 ⟨(some 55),.bin .eql (.tmp 53) (.tmp 54),some (52,true),0⟩,
 ⟨(some 56),.pick (.tmp 52) (.tmp 55) (.cst (.c (.bool false))),none,0⟩,
 ⟨(some 57),.mov (.tmp 56),none,0⟩,
 ⟨(some 58),.mov (.tmp 11),some (57,true),0⟩,
 ⟨(some 59),.mov (.tmp 12),some (57,true),0⟩,
 ⟨(some 60),.bin .eql (.tmp 58) (.tmp 59),some (57,true),0⟩,
 ⟨(some 61),.pick (.tmp 57) (.tmp 60) (.cst (.c (.bool false))),none,0⟩,
 ⟨(some 62),.mov (.tmp 61),none,0⟩,
 ⟨(some 63),.mov (.tmp 5),some (62,true),0⟩,
 ⟨(some 64),.len (.tmp 63),some (62,true),0⟩,
 ⟨(some 65),.bin .eql (.tmp 64) (.cst (.c (.int .i64 0))),some (62,true),0⟩,
 ⟨(some 66),.pick (.tmp 62) (.tmp 65) (.cst (.c (.bool false))),none,0⟩,
 ⟨(some 67),.mov (.tmp 66),none,0⟩,
 ⟨(some 68),.mov (.tmp 6),some (67,true),0⟩,
 ⟨(some 69),.bin .eql (.tmp 68) (.cst (.c (.int .i64 0))),some (67,true),0⟩,
 ⟨(some 70),.pick (.tmp 67) (.tmp 69) (.cst (.c (.bool false))),none,0⟩,
 ⟨(some 71),.mov (.tmp 70),none,0⟩,
 ⟨(some 72),.mov (.tmp 8),some (71,true),0⟩,
 ⟨(some 73),.bin .eql (.tmp 72) (.cst (.c (.int .i64 0))),some (71,true),0⟩,
 ⟨(some 74),.pick (.tmp 71) (.tmp 73) (.cst (.c (.bool false))),none,0⟩,
 ⟨(some 75),.mov (.tmp 74),none,0⟩,
 ⟨(some 76),.mov (.tmp 10),some (75,true),0⟩,
 ⟨(some 77),.bin .eql (.tmp 76) (.cst (.c (.int .i64 0))),some (75,true),0⟩,
 ⟨(some 78),.pick (.tmp 75) (.tmp 77) (.cst (.c (.bool false))),none,0⟩,
 ⟨(some 79),.mov (.tmp 78),none,0⟩,
 ⟨(some 80),.call 17 true [],some (79,true),0⟩,
 ⟨(some 81),.pick (.tmp 79) (.tmp 80) (.cst (.c (.bool false))),none,0⟩,
 ⟨(some 4),.mov (.tmp 81),none,0⟩])
 .ret)
 .skip)))
 (.seq (.region 0 [] [
 ⟨(some 83),.load (some 7) (.tmp 2),none,0⟩,
 ⟨(some 84),.call 30 true [(.tmp 83),(.cst (.c (.int .i64 (-1))))],none,0⟩,
 ⟨(some 82),.mov (.tmp 84),none,0⟩,
 ⟨(some 85),.extract 0 (.tmp 82),none,0⟩,
 ⟨(some 86),.extract 1 (.tmp 82),none,0⟩,
 ⟨(some 87),.extract 2 (.tmp 82),none,0⟩,
 ⟨(some 88),.extract 3 (.tmp 82),none,0⟩,
 ⟨(some 13),.mov (.tmp 85),none,0⟩,
 ⟨(some 14),.mov (.tmp 86),none,0⟩,
 ⟨(some 15),.mov (.tmp 87),none,0⟩,
 ⟨(some 16),.mov (.tmp 88),none,0⟩])
 (.seq (.seq (.region 0 [] [
 ⟨(some 89),.mov (.tmp 16),none,0⟩,
 ⟨(some 90),.mov (.tmp 89),none,0⟩,
 ⟨(some 91),.mov (.tmp 7),some (90,true),0⟩,
 ⟨(some 92),.bin .neq (.tmp 91) (.cst (.c (.int .i64 0))),some (90,true),0⟩,
 ⟨(some 93),.mov (.tmp 92),some (90,true),0⟩,
 ⟨(some 94),.mov (.tmp 9),some (93,false),0⟩,
 ⟨(some 95),.bin .neq (.tmp 94) (.cst (.c (.int .i64 0))),some (93,false),0⟩,
 ⟨(some 96),.pick (.tmp 93) (.cst (.c (.bool true))) (.tmp 95),some (90,true),0⟩,
 ⟨(some 97),.mov (.tmp 96),some (90,true),0⟩,
 ⟨(some 98),.mov (.tmp 5),some (97,false),0⟩,
 ⟨(some 99),.mov (.tmp 13),some (97,false),0⟩,
 ⟨(some 100),.call 31 true [(.tmp 98),(.tmp 99)],some (97,false),0⟩,
 ⟨(some 101),.not (.tmp 100),some (97,false),0⟩,
 ⟨(some 102),.pick (.tmp 97) (.cst (.c (.bool true))) (.tmp 101),some (90,true),0⟩,
 ⟨(some 103),.mov (.tmp 102),some (90,true),0⟩,
 ⟨(some 104),.mov (.tmp 6),some (103,false),0⟩,
 ⟨(some 105),.mov (.tmp 14),some (103,false),0⟩,
 ⟨(some 106),.bin .neq (.tmp 104) (.tmp 105),some (103,false),0⟩,
 ⟨(some 107),.pick (.tmp 103) (.cst (.c (.bool true))) (.tmp 106),some (90,true),0⟩,
 ⟨(some 108),.mov (.tmp 107),some (90,true),0⟩,
 ⟨(some 109),.mov (.tmp 8),some (108,false),0⟩,
 ⟨(some 110),.mov (.tmp 15),some (108,false),0⟩,
 ⟨(some 111),.bin .neq (.tmp 109) (.tmp 110),some (108,false),0⟩,
 ⟨(some 112),.pick (.tmp 108) (.cst (.c (.bool true))) (.tmp 111),some (90,true),0⟩,
 ⟨(some 113),.pick (.tmp 90) (.tmp 112) (.cst (.c (.bool false))),none,0⟩,
 ⟨(some 114),.mov (.tmp 113),none,0⟩,
 ⟨(some 115),.mov (.tmp 16),some (114,false),0⟩,
 ⟨(some 116),.not (.tmp 115),some (114,false),0⟩,
 ⟨(some 117),.mov (.tmp 116),some (114,false),0⟩,
 ⟨(some 118),.mov (.tmp 7),some (117,true),0⟩,
 ⟨(some 119),.bin .neq (.tmp 118) (.cst (.c (.int .i64 10))),some (117,true),0⟩,
 ⟨(some 120),.mov (.tmp 119),some (117,true),0⟩,
 ⟨(some 121),.mov (.tmp 9),some (120,false),0⟩,
 ⟨(some 122),.bin .neq (.tmp 121) (.cst (.c (.int .i64 10))),some (120,false),0⟩,
 ⟨(some 123),.pick (.tmp 120) (.cst (.c (.bool true))) (.tmp 122),some (117,true),0⟩,
 ⟨(some 124),.mov (.tmp 123),some (117,true),0⟩,
 ⟨(some 125),.mov (.tmp 5),some (124,false),0⟩,
 ⟨(some 126),.len (.tmp 125),some (124,false),0⟩,
 ⟨(some 127),.bin .neq (.tmp 126) (.cst (.c (.int .i64 0))),some (124,false),0⟩,
 ⟨(some 128),.pick (.tmp 124) (.cst (.c (.bool true))) (.tmp 127),some (117,true),0⟩,
 ⟨(some 129),.mov (.tmp 128),some (117,true),0⟩,
 ⟨(some 130),.mov (.tmp 6),some (129,false),0⟩,
 ⟨(some 131),.bin .neq (.tmp 130) (.cst (.c (.int .i64 0))),some (129,false),0⟩,
 ⟨(some 132),.pick (.tmp 129) (.cst (.c (.bool true))) (.tmp 131),some (117,true),0⟩,
 ⟨(some 133),.mov (.tmp 132),some (117,true),0⟩,
 ⟨(some 134),.mov (.tmp 8),some (133,false),0⟩,
 ⟨(some 135),.bin .neq (.tmp 134) (.cst (.c (.int .i64 0))),some (133,false),0⟩,
 ⟨(some 136),.pick (.tmp 133) (.cst (.c (.bool true))) (.tmp 135),some (117,true),0⟩,
 ⟨(some 137),.pick (.tmp 117) (.tmp 136) (.cst (.c (.bool false))),some (114,false),0⟩,
 ⟨(some 138),.pick (.tmp 114) (.cst (.c (.bool true))) (.tmp 137),none,0⟩])
 (.cond (.tmp 138)
 (.seq (.region 0 [] [
 ⟨(some 4),.mov (.cst (.c (.bool false))),none,0⟩])
 .ret)
 .skip))
 (.seq (.seq (.region 0 [] [
 ⟨(some 139),.mov (.tmp 1),none,0⟩,
 ⟨(some 140),.faddr 5 (.tmp 2),none,0⟩,
 ⟨(some 141),.load none (.tmp 140),none,0⟩,
 ⟨(some 142),.len (.tmp 141),none,0⟩,
 ⟨(some 143),.bin .sub (.tmp 142) (.cst (.c (.int .i64 1))),none,0⟩,
 ⟨(some 144),.call 32 true [(.tmp 139),(.cst (.c (.int .i64 0))),(.tmp 143)],none,0⟩,
 ⟨(some 145),.not (.tmp 144),none,0⟩])
 (.cond (.tmp 145)
 (.seq (.region 0 [] [
 ⟨(some 146),.mov (.tmp 11),none,0⟩,
 ⟨(some 147),.bin .eql (.tmp 146) (.cst (.c (.int .i64 2))),none,0⟩,
 ⟨(some 148),.mov (.tmp 147),none,0⟩,
 ⟨(some 149),.mov (.tmp 10),some (148,true),0⟩,
 ⟨(some 150),.bin .eql (.tmp 149) (.cst (.c (.int .i64 0))),some (148,true),0⟩,
 ⟨(some 151),.pick (.tmp 148) (.tmp 150) (.cst (.c (.bool false))),none,0⟩,
 ⟨(some 152),.mov (.tmp 151),none,0⟩,
 ⟨(some 153),.call 17 true [],some (152,true),0⟩,
 ⟨(some 154),.pick (.tmp 152) (.tmp 153) (.cst (.c (.bool false))),none,0⟩,
 ⟨(some 4),.mov (.tmp 154),none,0⟩])
 .ret)
 .skip))
 (.seq (.region 0 [] [
 ⟨(some 156),.load (some 7) (.tmp 2),none,0⟩,
 ⟨(some 157),.mov (.tmp 1),none,0⟩,
 ⟨(some 158),.call 30 true [(.tmp 156),(.tmp 157)],none,0⟩,
 ⟨(some 155),.mov (.tmp 158),none,0⟩,
 ⟨(some 159),.extract 0 (.tmp 155),none,0⟩,
 ⟨(some 160),.extract 1 (.tmp 155),none,0⟩,
 ⟨(some 161),.extract 2 (.tmp 155),none,0⟩,
 ⟨(some 162),.extract 3 (.tmp 155),none,0⟩,
 ⟨(some 17),.mov (.tmp 159),none,0⟩,
 ⟨(some 18),.mov (.tmp 160),none,0⟩,
 ⟨(some 19),.mov (.tmp 161),none,0⟩,
 ⟨(some 20),.mov (.tmp 162),none,0⟩])
 (.seq (.seq (.region 0 [] [
 ⟨(some 163),.mov (.tmp 20),none,0⟩,
 ⟨(some 164),.not (.tmp 163),none,0⟩])
 (.cond (.tmp 164)
 (.seq (.region 0 [] [
 ⟨(some 165),.mov (.tmp 11),none,0⟩,
 ⟨(some 166),.bin .eql (.tmp 165) (.cst (.c (.int .i64 10))),none,0⟩,
 ⟨(some 167),.mov (.tmp 166),none,0⟩,
 ⟨(some 168),.mov (.tmp 10),some (167,true),0⟩,
 ⟨(some 169),.bin .eql (.tmp 168) (.cst (.c (.int .i64 0))),some (167,true),0⟩,
 ⟨(some 170),.pick (.tmp 167) (.tmp 169) (.cst (.c (.bool false))),none,0⟩,
 ⟨(some 171),.mov (.tmp 170),none,0⟩,
 ⟨(some 172),.call 17 true [],some (171,true),0⟩,
 ⟨(some 173),.pick (.tmp 171) (.tmp 172) (.cst (.c (.bool false))),none,0⟩,
 ⟨(some 4),.mov (.tmp 173),none,0⟩])
 .ret)
 .skip))
 (.seq (.region 0 [] [
 ⟨(some 174),.mov (.tmp 11),none,0⟩,
 ⟨(some 175),.bin .eql (.tmp 174) (.cst (.c (.int .i64 0))),none,0⟩,
 ⟨(some 176),.mov (.tmp 175),none,0⟩,
 ⟨(some 177),.mov (.tmp 10),some (176,true),0⟩,
 ⟨(some 178),.mov (.tmp 14),some (176,true),0⟩,
 ⟨(some 179),.mov (.tmp 18),some (176,true),0⟩,
 ⟨(some 180),.bin .sub (.tmp 178) (.tmp 179),some (176,true),0⟩,
 ⟨(some 181),.bin .eql (.tmp 177) (.tmp 180),some (176,true),0⟩,
 ⟨(some 182),.pick (.tmp 176) (.tmp 181) (.cst (.c (.bool false))),none,0⟩,
 ⟨(some 183),.mov (.tmp 182),none,0⟩,
 ⟨(some 184),.call 17 true [],some (183,true),0⟩,
 ⟨(some 185),.pick (.tmp 183) (.tmp 184) (.cst (.c (.bool false))),none,0⟩,
 ⟨(some 4),.mov (.tmp 185),none,0⟩])
 .ret))))))))))))⟩
/-- 5 isatis/isatislaw11.MoveSeen -/
def f5 : AFunc := ⟨190,[.tmp 6],false,
 (.seq (.region 1 [] [
 ⟨(some 3),.box (.tmp 0),none,0⟩,
 ⟨(some 6),.mov (.cst (.c (.bool false))),none,1⟩])
 (.seq (.seq (.region 0 [] [
 ⟨(some 22),.load (some 7) (.tmp 3),none,0⟩,
 ⟨(some 23),.call 16 true [(.tmp 22)],none,0⟩,
 ⟨(some 24),.not (.tmp 23),none,0⟩,
 ⟨(some 25),.mov (.tmp 24),none,0⟩,
 ⟨(some 26),.mov (.tmp 1),some (25,false),0⟩,
 ⟨(some 27),.len (.tmp 26),some (25,false),0⟩,
 ⟨(some 28),.bin .gtr (.tmp 27) (.cst (.c (.int .i64 8))),some (25,false),0⟩,
 ⟨(some 29),.pick (.tmp 25) (.cst (.c (.bool true))) (.tmp 28),none,0⟩,
 ⟨(some 30),.mov (.tmp 29),none,0⟩,
 ⟨(some 31),.mov (.tmp 2),some (30,false),0⟩,
 ⟨(some 32),.len (.tmp 31),some (30,false),0⟩,
 ⟨(some 33),.bin .gtr (.tmp 32) (.cst (.c (.int .i64 8))),some (30,false),0⟩,
 ⟨(some 34),.pick (.tmp 30) (.cst (.c (.bool true))) (.tmp 33),none,0⟩])
 (.cond (.tmp 34)
 (.seq (.region 0 [] [
 ⟨(some 35),.call 17 true [],none,0⟩,
 ⟨(some 6),.mov (.tmp 35),none,0⟩])
 .ret)
 .skip))
 (.seq (.region 0 [] [
 ⟨(some 37),.load (some 7) (.tmp 3),none,0⟩,
 ⟨(some 38),.call 19 true [(.tmp 37)],none,0⟩,
 ⟨(some 39),.call 33 true [(.tmp 38)],none,0⟩,
 ⟨(some 36),.mov (.tmp 39),none,0⟩,
 ⟨(some 40),.extract 0 (.tmp 36),none,0⟩,
 ⟨(some 41),.extract 1 (.tmp 36),none,0⟩,
 ⟨(some 7),.mov (.tmp 40),none,0⟩,
 ⟨(some 8),.mov (.tmp 41),none,0⟩])
 (.seq (.region 0 [] [
 ⟨(some 43),.load (some 7) (.tmp 3),none,0⟩,
 ⟨(some 44),.call 19 true [(.tmp 43)],none,0⟩,
 ⟨(some 45),.mov (.tmp 1),none,0⟩,
 ⟨(some 46),.call 20 true [(.tmp 45)],none,0⟩,
 ⟨(some 47),.mov (.tmp 2),none,0⟩,
 ⟨(some 48),.call 20 true [(.tmp 47)],none,0⟩,
 ⟨(some 49),.call 34 true [(.tmp 44),(.tmp 46),(.tmp 48)],none,0⟩,
 ⟨(some 42),.mov (.tmp 49),none,0⟩,
 ⟨(some 50),.extract 0 (.tmp 42),none,0⟩,
 ⟨(some 51),.extract 1 (.tmp 42),none,0⟩,
 ⟨(some 52),.extract 2 (.tmp 42),none,0⟩,
 ⟨(some 9),.mov (.tmp 50),none,0⟩,
 ⟨(some 10),.mov (.tmp 51),none,0⟩,
 ⟨(some 11),.mov (.tmp 52),none,0⟩])
 (.seq (.seq (.region 0 [] [
 ⟨(some 53),.load (some 7) (.tmp 3),none,0⟩,
 ⟨(some 54),.call 21 true [(.tmp 53)],none,0⟩,
 ⟨(some 12),.mov (.tmp 54),none,0⟩])
 (.seq (.region 0 [] [
 ⟨(some 55),.mov (.tmp 12),none,0⟩,
 ⟨(some 56),.bin .neq (.tmp 55) (.cst (.c (.int .i64 0))),none,0⟩])
 (.cond (.tmp 56)
 (.seq (.region 0 [] [
 ⟨(some 57),.mov (.tmp 8),none,0⟩,
 ⟨(some 58),.mov (.tmp 12),none,0⟩,
 ⟨(some 59),.bin .eql (.tmp 57) (.tmp 58),none,0⟩,
 ⟨(some 60),.mov (.tmp 59),none,0⟩,
 ⟨(some 61),.mov (.tmp 11),some (60,true),0⟩,
 ⟨(some 62),.mov (.tmp 12),some (60,true),0⟩,
 ⟨(some 63),.bin .eql (.tmp 61) (.tmp 62),some (60,true),0⟩,
 ⟨(some 64),.pick (.tmp 60) (.tmp 63) (.cst (.c (.bool false))),none,0⟩,
 ⟨(some 65),.mov (.tmp 64),none,0⟩,
 ⟨(some 66),.mov (.tmp 7),some (65,true),0⟩,
 ⟨(some 67),.bin .eql (.tmp 66) (.cst (.c (.int .i64 0))),some (65,true),0⟩,
 ⟨(some 68),.pick (.tmp 65) (.tmp 67) (.cst (.c (.bool false))),none,0⟩,
 ⟨(some 69),.mov (.tmp 68),none,0⟩,
 ⟨(some 70),.mov (.tmp 9),some (69,true),0⟩,
 ⟨(some 71),.bin .eql (.tmp 70) (.cst (.c (.int .i64 0))),some (69,true),0⟩,
 ⟨(some 72),.pick (.tmp 69) (.tmp 71) (.cst (.c (.bool false))),none,0⟩,
 ⟨(some 73),.mov (.tmp 72),none,0⟩,
 ⟨(some 74),.mov (.tmp 10),some (73,true),0⟩,
 ⟨(some 75),.bin .eql (.tmp 74) (.cst (.c (.int .i64 0))),some (73,true),0⟩,
 ⟨(some 76),.pick (.tmp 73) (.tmp 75) (.cst (.c (.bool false))),none,0⟩,
 ⟨(some 77),.mov (.tmp 76),none,0⟩,
 ⟨(some 78),.call 17 true [],some (77,true),0⟩,
 ⟨(some 79),.pick (.tmp 77) (.tmp 78) (.cst (.c (.bool false))),none,0⟩,
 ⟨(some 6),.mov (.tmp 79),none,0⟩])
 .ret)
 .skip)))
 (.seq (.region 0 [] [
 ⟨(some 81),.load (some 7) (.tmp 3),none,0⟩,
 ⟨(some 82),.call 35 true [(.tmp 81),(.cst (.c .nils)),(.cst (.c .nils))],none,0⟩,
 ⟨(some 80),.mov (.tmp 82),none,0⟩,
 ⟨(some 83),.extract 0 (.tmp 80),none,0⟩,
 ⟨(some 84),.extract 1 (.tmp 80),none,0⟩,
 ⟨(some 85),.extract 2 (.tmp 80),none,0⟩,
 ⟨(some 13),.mov (.tmp 83),none,0⟩,
 ⟨(some 14),.mov (.tmp 84),none,0⟩,
 ⟨(some 15),.mov (.tmp 85),none,0⟩])
 (.seq (.seq (.region 0 [] [
 ⟨(some 86),.mov (.tmp 15),none,0⟩,
 ⟨(some 87),.mov (.tmp 86),none,0⟩,
 ⟨(some 88),.mov (.tmp 8),some (87,true),0⟩,
 ⟨(some 89),.bin .neq (.tmp 88) (.cst (.c (.int .i64 0))),some (87,true),0⟩,
 ⟨(some 90),.mov (.tmp 89),some (87,true),0⟩,
 ⟨(some 91),.mov (.tmp 7),some (90,false),0⟩,
 ⟨(some 92),.mov (.tmp 14),some (90,false),0⟩,
 ⟨(some 93),.bin .neq (.tmp 91) (.tmp 92),some (90,false),0⟩,
 ⟨(some 94),.pick (.tmp 90) (.cst (.c (.bool true))) (.tmp 93),some (87,true),0⟩,
 ⟨(some 95),.pick (.tmp 87) (.tmp 94) (.cst (.c (.bool false))),none,0⟩,
 ⟨(some 96),.mov (.tmp 95),none,0⟩,
 ⟨(some 97),.mov (.tmp 15),some (96,false),0⟩,
 ⟨(some 98),.not (.tmp 97),some (96,false),0⟩,
 ⟨(some 99),.mov (.tmp 98),some (96,false),0⟩,
 ⟨(some 100),.mov (.tmp 8),some (99,true),0⟩,
 ⟨(some 101),.bin .neq (.tmp 100) (.cst (.c (.int .i64 10))),some (99,true),0⟩,
 ⟨(some 102),.mov (.tmp 101),some (99,true),0⟩,
 ⟨(some 103),.mov (.tmp 7),some (102,false),0⟩,
 ⟨(some 104),.bin .neq (.tmp 103) (.cst (.c (.int .i64 0))),some (102,false),0⟩,
 ⟨(some 105),.pick (.tmp 102) (.cst (.c (.bool true))) (.tmp 104),some (99,true),0⟩,
 ⟨(some 106),.pick (.tmp 99) (.tmp 105) (.cst (.c (.bool false))),some (96,false),0⟩,
 ⟨(some 107),.pick (.tmp 96) (.cst (.c (.bool true))) (.tmp 106),none,0⟩])
 (.cond (.tmp 107)
 (.seq (.region 0 [] [
 ⟨(some 6),.mov (.cst (.c (.bool false))),none,0⟩])
 .ret)
 .skip))
 (.seq (.region 0 [] [
 ⟨(some 16),.mov (.cst (.c (.int .i64 0))),none,0⟩])
 (.seq (.seq (.region 0 [] [
 ⟨(some 108),.mov (.tmp 1),none,0⟩,
 ⟨(some 109),.len (.tmp 108),none,0⟩,
 ⟨(some 110),.faddr 0 (.tmp 3),none,0⟩,
 ⟨(some 111),.load none (.tmp 110),none,0⟩,
 ⟨(some 112),.bin .gtr (.tmp 109) (.tmp 111),none,0⟩,
 ⟨(some 113),.mov (.tmp 112),none,0⟩,
 ⟨(some 114),.load (some 7) (.tmp 3),some (113,false),0⟩,
 ⟨(some 115),.mov (.tmp 1),some (113,false),0⟩,
 ⟨(some 116),.call 36 true [(.tmp 114),(.tmp 115)],some (113,false),0⟩,
 ⟨(some 117),.not (.tmp 116),some (113,false),0⟩,
 ⟨(some 118),.pick (.tmp 113) (.cst (.c (.bool true))) (.tmp 117),none,0⟩,
 ⟨(some 119),.mov (.tmp 118),none,0⟩,
 ⟨(some 120),.load (some 7) (.tmp 3),some (119,false),0⟩,
 ⟨(some 121),.mov (.tmp 2),some (119,false),0⟩,
 ⟨(some 122),.mov (.tmp 1),some (119,false),0⟩,
 ⟨(some 123),.len (.tmp 122),some (119,false),0⟩,
 ⟨(some 124),.call 24 true [(.tmp 120),(.tmp 121),(.tmp 123)],some (119,false),0⟩,
 ⟨(some 125),.not (.tmp 124),some (119,false),0⟩,
 ⟨(some 126),.pick (.tmp 119) (.cst (.c (.bool true))) (.tmp 125),none,0⟩])
 (.cond (.tmp 126)
 (.region 0 [] [
 ⟨(some 16),.mov (.cst (.c (.int .i64 2))),none,0⟩])
 (.seq (.region 0 [] [
 ⟨(some 128),.load (some 7) (.tmp 3),none,0⟩,
 ⟨(some 129),.mov (.tmp 1),none,0⟩,
 ⟨(some 130),.mov (.tmp 2),none,0⟩,
 ⟨(some 131),.call 25 true [(.tmp 128),(.tmp 129),(.tmp 130)],none,0⟩,
 ⟨(some 127),.mov (.tmp 131),none,0⟩,
 ⟨(some 132),.extract 0 (.tmp 127),none,0⟩,
 ⟨(some 133),.extract 1 (.tmp 127),none,0⟩,
 ⟨(some 17),.mov (.tmp 132),none,0⟩,
 ⟨(some 18),.mov (.tmp 133),none,0⟩])
 (.seq (.region 0 [] [
 ⟨(some 134),.mov (.tmp 18),none,0⟩,
 ⟨(some 135),.not (.tmp 134),none,0⟩])
 (.cond (.tmp 135)
 (.region 0 [] [
 ⟨(some 16),.mov (.cst (.c (.int .i64 9))),none,0⟩])
 .skip)))))
 (.seq (.seq (.region 0 [] [
 ⟨(some 136),.mov (.tmp 16),none,0⟩,
 ⟨(some 137),.bin .neq (.tmp 136) (.cst (.c (.int .i64 0))),none,0⟩])
 (.cond (.tmp 137)
 (.seq (.region 0 [] [
 ⟨(some 138),.mov (.tmp 11),none,0⟩,
 ⟨(some 139),.mov (.tmp 16),none,0⟩,
 ⟨(some 140),.bin .eql (.tmp 138) (.tmp 139),none,0⟩,
 ⟨(some 141),.mov (.tmp 140),none,0⟩,
 ⟨(some 142),.mov (.tmp 9),some (141,true),0⟩,
 ⟨(some 143),.bin .eql (.tmp 142) (.cst (.c (.int .i64 0))),some (141,true),0⟩,
 ⟨(some 144),.pick (.tmp 141) (.tmp 143) (.cst (.c (.bool false))),none,0⟩,
 ⟨(some 145),.mov (.tmp 144),none,0⟩,
 ⟨(some 146),.mov (.tmp 10),some (145,true),0⟩,
 ⟨(some 147),.bin .eql (.tmp 146) (.cst (.c (.int .i64 0))),some (145,true),0⟩,
 ⟨(some 148),.pick (.tmp 145) (.tmp 147) (.cst (.c (.bool false))),none,0⟩,
 ⟨(some 149),.mov (.tmp 148),none,0⟩,
 ⟨(some 150),.call 17 true [],some (149,true),0⟩,
 ⟨(some 151),.pick (.tmp 149) (.tmp 150) (.cst (.c (.bool false))),none,0⟩,
 ⟨(some 6),.mov (.tmp 151),none,0⟩])
 .ret)
 .skip))
 (.seq (.region 0 [] [
 ⟨(some 153),.load (some 7) (.tmp 3),none,0⟩,
 ⟨(some 154),.mov (.tmp 1),none,0⟩,
 ⟨(some 155),.mov (.tmp 2),none,0⟩,
 ⟨(some 156),.call 35 true [(.tmp 153),(.tmp 154),(.tmp 155)],none,0⟩,
 ⟨(some 152),.mov (.tmp 156),none,0⟩,
 ⟨(some 157),.extract 0 (.tmp 152),none,0⟩,
 ⟨(some 158),.extract 1 (.tmp 152),none,0⟩,
 ⟨(some 159),.extract 2 (.tmp 152),none,0⟩,
 ⟨(some 19),.mov (.tmp 157),none,0⟩,
 ⟨(some 20),.mov (.tmp 158),none,0⟩,
 ⟨(some 21),.mov (.tmp 159),none,0⟩])
 (.seq (.seq (.region 0 [] [
 ⟨(some 160),.mov (.tmp 21),none,0⟩,
 ⟨(some 161),.not (.tmp 160),none,0⟩])
 (.cond (.tmp 161)
 (.seq (.region 0 [] [
 ⟨(some 162),.mov (.tmp 11),none,0⟩,
 ⟨(some 163),.bin .eql (.tmp 162) (.cst (.c (.int .i64 10))),none,0⟩,
 ⟨(some 164),.mov (.tmp 163),none,0⟩,
 ⟨(some 165),.mov (.tmp 9),some (164,true),0⟩,
 ⟨(some 166),.bin .eql (.tmp 165) (.cst (.c (.int .i64 0))),some (164,true),0⟩,
 ⟨(some 167),.pick (.tmp 164) (.tmp 166) (.cst (.c (.bool false))),none,0⟩,
 ⟨(some 168),.mov (.tmp 167),none,0⟩,
 ⟨(some 169),.mov (.tmp 10),some (168,true),0⟩,
 ⟨(some 170),.bin .eql (.tmp 169) (.cst (.c (.int .i64 0))),some (168,true),0⟩,
 ⟨(some 171),.pick (.tmp 168) (.tmp 170) (.cst (.c (.bool false))),none,0⟩,
 ⟨(some 172),.mov (.tmp 171),none,0⟩,
 ⟨(some 173),.call 17 true [],some (172,true),0⟩,
 ⟨(some 174),.pick (.tmp 172) (.tmp 173) (.cst (.c (.bool false))),none,0⟩,
 ⟨(some 6),.mov (.tmp 174),none,0⟩])
 .ret)
 .skip))
 (.seq (.region 0 [] [
 ⟨(some 175),.mov (.tmp 11),none,0⟩,
 ⟨(some 176),.bin .eql (.tmp 175) (.cst (.c (.int .i64 0))),none,0⟩,
 ⟨(some 177),.mov (.tmp 176),none,0⟩,
 ⟨(some 178),.mov (.tmp 9),some (177,true),0⟩,
 ⟨(some 179),.mov (.tmp 19),some (177,true),0⟩,
 ⟨(some 180),.bin .eql (.tmp 178) (.tmp 179),some (177,true),0⟩,
 ⟨(some 181),.pick (.tmp 177) (.tmp 180) (.cst (.c (.bool false))),none,0⟩,
 ⟨(some 182),.mov (.tmp 181),none,0⟩,
 ⟨(some 183),.mov (.tmp 10),some (182,true),0⟩,
 ⟨(some 184),.mov (.tmp 20),some (182,true),0⟩,
 ⟨(some 185),.bin .eql (.tmp 183) (.tmp 184),some (182,true),0⟩,
 ⟨(some 186),.pick (.tmp 182) (.tmp 185) (.cst (.c (.bool false))),none,0⟩,
 ⟨(some 187),.mov (.tmp 186),none,0⟩,
 ⟨(some 188),.call 17 true [],some (187,true),0⟩,
 ⟨(some 189),.pick (.tmp 187) (.tmp 188) (.cst (.c (.bool false))),none,0⟩,
 ⟨(some 6),.mov (.tmp 189),none,0⟩])
 .ret)))))))))))))⟩
/-- 6 isatis/isatislaw11.MoveTruth | loop 0 vars [13,14] kill 56 makes false -/
def f6 : AFunc := ⟨189,[.tmp 4],false,
 (.seq (.region 1 [] [
 ⟨(some 2),.box (.tmp 0),none,0⟩,
 ⟨(some 4),.mov (.cst (.c (.bool false))),none,1⟩])
 (.seq (.seq (.region 0 [] [
 ⟨(some 17),.load (some 7) (.tmp 2),none,0⟩,
 ⟨(some 18),.call 37 true [(.tmp 17)],none,0⟩,
 ⟨(some 19),.not (.tmp 18),none,0⟩])
 (.cond (.tmp 19)
 (.seq (.region 0 [] [
 ⟨(some 20),.call 17 true [],none,0⟩,
 ⟨(some 4),.mov (.tmp 20),none,0⟩])
 .ret)
 .skip))
 (.seq (.region 0 [] [
 ⟨(some 22),.load (some 7) (.tmp 2),none,0⟩,
 ⟨(some 23),.call 19 true [(.tmp 22)],none,0⟩,
 ⟨(some 24),.call 27 true [(.tmp 23)],none,0⟩,
 ⟨(some 21),.mov (.tmp 24),none,0⟩,
 ⟨(some 25),.extract 0 (.tmp 21),none,0⟩,
 ⟨(some 26),.extract 1 (.tmp 21),none,0⟩,
 ⟨(some 27),.extract 2 (.tmp 21),none,0⟩,
 ⟨(some 5),.mov (.tmp 25),none,0⟩,
 ⟨(some 6),.mov (.tmp 26),none,0⟩,
 ⟨(some 7),.mov (.tmp 27),none,0⟩])
 (.seq (.seq (.region 0 [] [
 ⟨(some 28),.mov (.tmp 7),none,0⟩,
 ⟨(some 29),.bin .neq (.tmp 28) (.cst (.c (.int .i64 0))),none,0⟩])
 (.cond (.tmp 29)
 (.seq (.region 0 [] [
 ⟨(some 30),.mov (.tmp 7),none,0⟩,
 ⟨(some 31),.bin .eql (.tmp 30) (.cst (.c (.int .i64 10))),none,0⟩,
 ⟨(some 32),.mov (.tmp 31),none,0⟩,
 ⟨(some 33),.call 17 true [],some (32,true),0⟩,
 ⟨(some 34),.pick (.tmp 32) (.tmp 33) (.cst (.c (.bool false))),none,0⟩,
 ⟨(some 4),.mov (.tmp 34),none,0⟩])
 .ret)
 .skip))
 (.seq (.seq (.region 0 [] [
 ⟨(some 35),.load (some 7) (.tmp 2),none,0⟩,
 ⟨(some 36),.mov (.tmp 5),none,0⟩,
 ⟨(some 37),.call 23 true [(.tmp 35),(.tmp 36)],none,0⟩,
 ⟨(some 38),.not (.tmp 37),none,0⟩])
 (.cond (.tmp 38)
 (.seq (.region 0 [] [
 ⟨(some 4),.mov (.cst (.c (.bool false))),none,0⟩])
 .ret)
 .skip))
 (.seq (.region 0 [(0,2),(1,2),(0,4),(1,4),(2,4),(3,4),(0,5),(1,5),(2,5),(3,5),(4,5),(10,11),(11,12)] [
 ⟨(some 40),.load (some 7) (.tmp 2),none,0⟩,
 ⟨(some 41),.call 19 true [(.tmp 40)],none,0⟩,
 ⟨(some 42),.mov (.tmp 5),none,0⟩,
 ⟨(some 43),.call 20 true [(.tmp 42)],none,0⟩,
 ⟨(some 44),.load (some 7) (.tmp 2),none,0⟩,
 ⟨(some 45),.mov (.tmp 1),none,0⟩,
 ⟨(some 46),.call 38 true [(.tmp 44),(.tmp 45)],none,0⟩,
 ⟨(some 47),.call 20 true [(.tmp 46)],none,0⟩,
 ⟨(some 48),.call 18 true [(.tmp 41),(.tmp 43),(.tmp 47)],none,0⟩,
 ⟨(some 39),.mov (.tmp 48),none,0⟩,
 ⟨(some 49),.extract 0 (.tmp 39),none,0⟩,
 ⟨(some 50),.extract 1 (.tmp 39),none,0⟩,
 ⟨(some 8),.mov (.tmp 49),none,0⟩,
 ⟨(some 9),.mov (.tmp 50),none,0⟩])
 (.seq (.region 0 [] [
 ⟨(some 52),.load (some 7) (.tmp 2),none,0⟩,
 ⟨(some 53),.call 19 true [(.tmp 52)],none,0⟩,
 ⟨(some 54),.mov (.tmp 5),none,0⟩,
 ⟨(some 55),.call 20 true [(.tmp 54)],none,0⟩,
 ⟨(some 56),.call 39 true [(.tmp 53),(.tmp 55)],none,0⟩,
 ⟨(some 51),.mov (.tmp 56),none,0⟩,
 ⟨(some 57),.extract 0 (.tmp 51),none,0⟩,
 ⟨(some 58),.extract 1 (.tmp 51),none,0⟩,
 ⟨(some 59),.extract 2 (.tmp 51),none,0⟩,
 ⟨(some 10),.mov (.tmp 57),none,0⟩,
 ⟨(some 11),.mov (.tmp 58),none,0⟩,
 ⟨(some 12),.mov (.tmp 59),none,0⟩])
 (.seq (.seq (.region 0 [] [
 ⟨(some 60),.mov (.tmp 9),none,0⟩,
 ⟨(some 61),.bin .neq (.tmp 60) (.cst (.c (.int .i64 0))),none,0⟩,
 ⟨(some 62),.mov (.tmp 61),none,0⟩,
 ⟨(some 63),.mov (.tmp 12),some (62,false),0⟩,
 ⟨(some 64),.bin .neq (.tmp 63) (.cst (.c (.int .i64 0))),some (62,false),0⟩,
 ⟨(some 65),.pick (.tmp 62) (.cst (.c (.bool true))) (.tmp 64),none,0⟩,
 ⟨(some 66),.mov (.tmp 65),none,0⟩,
 ⟨(some 67),.mov (.tmp 10),some (66,false),0⟩,
 ⟨(some 68),.mov (.tmp 6),some (66,false),0⟩,
 ⟨(some 69),.bin .neq (.tmp 67) (.tmp 68),some (66,false),0⟩,
 ⟨(some 70),.pick (.tmp 66) (.cst (.c (.bool true))) (.tmp 69),none,0⟩,
 ⟨(some 71),.mov (.tmp 70),none,0⟩,
 ⟨(some 72),.load (some 7) (.tmp 2),some (71,false),0⟩,
 ⟨(some 73),.mov (.tmp 11),some (71,false),0⟩,
 ⟨(some 74),.faddr 0 (.tmp 2),some (71,false),0⟩,
 ⟨(some 75),.load none (.tmp 74),some (71,false),0⟩,
 ⟨(some 76),.bin .add (.tmp 75) (.cst (.c (.int .i64 1))),some (71,false),0⟩,
 ⟨(some 77),.call 24 true [(.tmp 72),(.tmp 73),(.tmp 76)],some (71,false),0⟩,
 ⟨(some 78),.not (.tmp 77),some (71,false),0⟩,
 ⟨(some 79),.pick (.tmp 71) (.cst (.c (.bool true))) (.tmp 78),none,0⟩,
 ⟨(some 80),.mov (.tmp 79),none,0⟩,
 ⟨(some 81),.mov (.tmp 8),some (80,false),0⟩,
 ⟨(some 82),.len (.tmp 81),some (80,false),0⟩,
 ⟨(some 83),.faddr 0 (.tmp 2),some (80,false),0⟩,
 ⟨(some 84),.load none (.tmp 83),some (80,false),0⟩,
 ⟨(some 85),.bin .add (.tmp 84) (.cst (.c (.int .i64 1))),some (80,false),0⟩,
 ⟨(some 86),.bin .neq (.tmp 82) (.tmp 85),some (80,false),0⟩,
 ⟨(some 87),.pick (.tmp 80) (.cst (.c (.bool true))) (.tmp 86),none,0⟩])
 (.cond (.tmp 87)
 (.seq (.region 0 [] [
 ⟨(some 4),.mov (.cst (.c (.bool false))),none,0⟩])
 .ret)
 .skip))
 (.seq (.region 0 [] [
 ⟨(some 88),.faddr 2 (.tmp 2),none,0⟩,
 ⟨(some 89),.load none (.tmp 88),none,0⟩,
 ⟨(some 13),.mov (.tmp 89),none,0⟩])
 (.seq (.seq (.region 0 [] [
 ⟨(some 14),.mov (.cst (.c (.int .i64 0))),none,0⟩])
 (.block 0 (.loop ⟨[4,90,91,92,93,94,95,96,97,98,99,100,101,102,103,104,105,106,107,108,109,110,111,112,113,114,115,116,117,118,119,120,121,122,123,124,125,126,127,128,129,130,131,132,133,134,135,136,137,138,139,140,141,142,143,144],false,[]⟩
 (.seq (.seq (.region 0 [] [
 ⟨(some 90),.mov (.tmp 14),none,0⟩,
 ⟨(some 91),.mov (.tmp 8),none,0⟩,
 ⟨(some 92),.len (.tmp 91),none,0⟩,
 ⟨(some 93),.bin .lss (.tmp 90) (.tmp 92),none,0⟩])
 (.cond (.tmp 93)
 .skip
 (.exit 0)))
 (.seq (.block 1 (.seq (.seq (.region 0 [(0,1),(7,8),(7,12),(8,12),(9,12),(10,12),(11,12),(16,17),(24,25),(24,29),(25,29),(26,29),(27,29),(28,29),(24,30),(25,30),(26,30),(27,30),(28,30),(29,30),(24,31),(25,31),(26,31),(27,31),(28,31),(29,31),(30,31),(24,32),(25,32),(26,32),(27,32),(28,32),(29,32),(24,33),(25,33),(26,33),(27,33),(28,33),(29,33),(24,34),(25,34),(26,34),(27,34),(28,34),(29,34),(24,35),(25,35),(26,35),(27,35),(28,35),(24,36),(25,36),(26,36),(27,36),(28,36),(29,36),(30,36),(31,36),(32,36),(33,36),(34,36),(35,36),(24,37),(25,37),(26,37),(27,37),(28,37),(29,37),(30,37),(31,37),(32,37),(33,37),(34,37),(35,37),(36,37),(24,38),(25,38),(26,38),(27,38),(28,38),(29,38),(30,38),(31,38),(32,38),(33,38),(34,38),(35,38),(24,39),(25,39),(26,39),(27,39),(28,39),(29,39),(30,39),(31,39),(32,39),(33,39),(34,39),(35,39),(24,40),(25,40),(26,40),(27,40),(28,40),(29,40),(30,40),(31,40),(32,40),(33,40),(34,40),(35,40),(24,41),(25,41),(26,41),(27,41),(28,41)] [
 ⟨(some 96),.mov (.tmp 8),none,0⟩,
 ⟨(some 97),.mov (.tmp 14),none,0⟩,
 ⟨(some 98),.iaddr 3 (.tmp 96) (.tmp 97),none,0⟩,
 ⟨(some 99),.faddr 1 (.tmp 98),none,0⟩,
 ⟨(some 100),.load none (.tmp 99),none,0⟩,
 ⟨(some 101),.bin .lss (.tmp 100) (.cst (.c (.int .i64 0))),none,0⟩,
 ⟨(some 102),.mov (.tmp 101),none,0⟩,
 ⟨(some 103),.mov (.tmp 8),some (102,false),0⟩,
 ⟨(some 104),.mov (.tmp 14),some (102,false),0⟩,
 ⟨(some 105),.iaddr 3 (.tmp 103) (.tmp 104),some (102,false),0⟩,
 ⟨(some 106),.faddr 1 (.tmp 105),some (102,false),0⟩,
 ⟨(some 107),.load none (.tmp 106),some (102,false),0⟩,
 ⟨(some 108),.mov (.tmp 13),some (102,false),0⟩,
 ⟨(some 109),.bin .gtr (.tmp 107) (.tmp 108),some (102,false),0⟩,
 ⟨(some 110),.pick (.tmp 102) (.cst (.c (.bool true))) (.tmp 109),none,0⟩,
 ⟨(some 111),.mov (.tmp 110),none,0⟩,
 ⟨(some 112),.mov (.tmp 8),some (111,false),0⟩,
 ⟨(some 113),.mov (.tmp 14),some (111,false),0⟩,
 ⟨(some 114),.iaddr 3 (.tmp 112) (.tmp 113),some (111,false),0⟩,
 ⟨(some 115),.faddr 0 (.tmp 114),some (111,false),0⟩,
 ⟨(some 116),.load none (.tmp 115),some (111,false),0⟩,
 ⟨(some 117),.bin .lss (.tmp 116) (.cst (.c (.int .i64 0))),some (111,false),0⟩,
 ⟨(some 118),.pick (.tmp 111) (.cst (.c (.bool true))) (.tmp 117),none,0⟩,
 ⟨(some 119),.mov (.tmp 118),none,0⟩,
 ⟨(some 120),.mov (.tmp 8),some (119,false),0⟩,
 ⟨(some 121),.mov (.tmp 14),some (119,false),0⟩,
 ⟨(some 122),.iaddr 3 (.tmp 120) (.tmp 121),some (119,false),0⟩,
 ⟨(some 123),.faddr 2 (.tmp 122),some (119,false),0⟩,
 ⟨(some 124),.load none (.tmp 123),some (119,false),0⟩,
 ⟨(some 125),.mov (.tmp 13),some (119,false),0⟩,
 ⟨(some 126),.mov (.tmp 8),some (119,false),0⟩,
 ⟨(some 127),.mov (.tmp 14),some (119,false),0⟩,
 ⟨(some 128),.iaddr 3 (.tmp 126) (.tmp 127),some (119,false),0⟩,
 ⟨(some 129),.faddr 1 (.tmp 128),some (119,false),0⟩,
 ⟨(some 130),.load none (.tmp 129),some (119,false),0⟩,
 ⟨(some 131),.bin .sub (.tmp 125) (.tmp 130),some (119,false),0⟩,
 ⟨(some 132),.mov (.tmp 8),some (119,false),0⟩,
 ⟨(some 133),.mov (.tmp 14),some (119,false),0⟩,
 ⟨(some 134),.iaddr 3 (.tmp 132) (.tmp 133),some (119,false),0⟩,
 ⟨(some 135),.faddr 0 (.tmp 134),some (119,false),0⟩,
 ⟨(some 136),.load none (.tmp 135),some (119,false),0⟩,
 ⟨(some 137),.bin .add (.tmp 131) (.tmp 136),some (119,false),0⟩,
 ⟨(some 138),.bin .neq (.tmp 124) (.tmp 137),some (119,false),0⟩,
 ⟨(some 139),.pick (.tmp 119) (.cst (.c (.bool true))) (.tmp 138),none,0⟩])
 (.cond (.tmp 139)
 (.seq (.region 0 [] [
 ⟨(some 4),.mov (.cst (.c (.bool false))),none,0⟩])
 .ret)
 .skip))
 (.region 0 [] [
 ⟨(some 140),.mov (.tmp 8),none,0⟩,
 ⟨(some 141),.mov (.tmp 14),none,0⟩,
 ⟨(some 142),.iaddr 3 (.tmp 140) (.tmp 141),none,0⟩,
 ⟨(some 143),.faddr 2 (.tmp 142),none,0⟩,
 ⟨(some 144),.load none (.tmp 143),none,0⟩,
 ⟨(some 13),.mov (.tmp 144),none,0⟩])))
 (.region 0 [] [
 ⟨(some 94),.mov (.tmp 14),none,0⟩,
 ⟨(some 95),.bin .add (.tmp 94) (.cst (.c (.int .i64 1))),none,0⟩,
 ⟨(some 14),.mov (.tmp 95),none,0⟩]))))))
 (.seq (.region 0 [] [
 ⟨(some 146),.load (some 7) (.tmp 2),none,0⟩,
 ⟨(some 147),.call 19 true [(.tmp 146)],none,0⟩,
 ⟨(some 148),.mov (.tmp 5),none,0⟩,
 ⟨(some 149),.call 20 true [(.tmp 148)],none,0⟩,
 ⟨(some 150),.mov (.tmp 11),none,0⟩,
 ⟨(some 151),.call 20 true [(.tmp 150)],none,0⟩,
 ⟨(some 152),.call 18 true [(.tmp 147),(.tmp 149),(.tmp 151)],none,0⟩,
 ⟨(some 145),.mov (.tmp 152),none,0⟩,
 ⟨(some 153),.extract 0 (.tmp 145),none,0⟩,
 ⟨(some 154),.extract 1 (.tmp 145),none,0⟩,
 ⟨(some 15),.mov (.tmp 153),none,0⟩,
 ⟨(some 16),.mov (.tmp 154),none,0⟩])
 (.seq (.region 0 [(0,1),(0,2),(0,4),(1,4),(2,4),(3,4),(11,13),(12,13),(11,14),(12,14),(11,15),(12,15),(19,20),(19,21),(19,25),(20,25),(21,25),(22,25),(23,25),(24,25),(19,26),(20,26),(21,26),(22,26),(23,26),(24,26),(19,28),(20,28),(21,28),(22,28),(23,28),(24,28),(25,28),(26,28),(27,28)] [
 ⟨(some 155),.mov (.tmp 13),none,0⟩,
 ⟨(some 156),.faddr 2 (.tmp 2),none,0⟩,
 ⟨(some 157),.load none (.tmp 156),none,0⟩,
 ⟨(some 158),.bin .sub (.tmp 155) (.tmp 157),none,0⟩,
 ⟨(some 159),.mov (.tmp 6),none,0⟩,
 ⟨(some 160),.bin .geq (.tmp 158) (.tmp 159),none,0⟩,
 ⟨(some 161),.mov (.tmp 160),none,0⟩,
 ⟨(some 162),.mov (.tmp 16),some (161,true),0⟩,
 ⟨(some 163),.bin .eql (.tmp 162) (.cst (.c (.int .i64 0))),some (161,true),0⟩,
 ⟨(some 164),.pick (.tmp 161) (.tmp 163) (.cst (.c (.bool false))),none,0⟩,
 ⟨(some 165),.mov (.tmp 164),none,0⟩,
 ⟨(some 166),.mov (.tmp 15),some (165,true),0⟩,
 ⟨(some 167),.len (.tmp 166),some (165,true),0⟩,
 ⟨(some 168),.faddr 0 (.tmp 2),some (165,true),0⟩,
 ⟨(some 169),.load none (.tmp 168),some (165,true),0⟩,
 ⟨(some 170),.bin .add (.tmp 169) (.cst (.c (.int .i64 1))),some (165,true),0⟩,
 ⟨(some 171),.bin .eql (.tmp 167) (.tmp 170),some (165,true),0⟩,
 ⟨(some 172),.pick (.tmp 165) (.tmp 171) (.cst (.c (.bool false))),none,0⟩,
 ⟨(some 173),.mov (.tmp 172),none,0⟩,
 ⟨(some 174),.mov (.tmp 15),some (173,true),0⟩,
 ⟨(some 175),.faddr 0 (.tmp 2),some (173,true),0⟩,
 ⟨(some 176),.load none (.tmp 175),some (173,true),0⟩,
 ⟨(some 177),.iaddr 3 (.tmp 174) (.tmp 176),some (173,true),0⟩,
 ⟨(some 178),.faddr 2 (.tmp 177),some (173,true),0⟩,
 ⟨(some 179),.load none (.tmp 178),some (173,true),0⟩,
 ⟨(some 180),.faddr 2 (.tmp 2),some (173,true),0⟩,
 ⟨(some 181),.load none (.tmp 180),some (173,true),0⟩,
 ⟨(some 182),.bin .sub (.tmp 179) (.tmp 181),some (173,true),0⟩,
 ⟨(some 183),.mov (.tmp 6),some (173,true),0⟩,
 ⟨(some 184),.bin .eql (.tmp 182) (.tmp 183),some (173,true),0⟩,
 ⟨(some 185),.pick (.tmp 173) (.tmp 184) (.cst (.c (.bool false))),none,0⟩,
 ⟨(some 186),.mov (.tmp 185),none,0⟩,
 ⟨(some 187),.call 17 true [],some (186,true),0⟩,
 ⟨(some 188),.pick (.tmp 186) (.tmp 187) (.cst (.c (.bool false))),none,0⟩,
 ⟨(some 4),.mov (.tmp 188),none,0⟩])
 .ret))))))))))))⟩
/-- 7 isatis/isatislaw11.MoveLoss | loop 0 vars [12] kill 21 makes false | loop 2 vars [13,14] kill 33 makes false | loop 4 vars [15,16] kill 16 makes false -/
def f7 : AFunc := ⟨128,[.tmp 4],false,
 (.seq (.region 1 [] [
 ⟨(some 2),.box (.tmp 0),none,0⟩,
 ⟨(some 4),.mov (.cst (.c (.bool false))),none,1⟩])
 (.seq (.seq (.region 0 [] [
 ⟨(some 17),.load (some 7) (.tmp 2),none,0⟩,
 ⟨(some 18),.call 37 true [(.tmp 17)],none,0⟩,
 ⟨(some 19),.not (.tmp 18),none,0⟩])
 (.cond (.tmp 19)
 (.seq (.region 0 [] [
 ⟨(some 20),.call 17 true [],none,0⟩,
 ⟨(some 4),.mov (.tmp 20),none,0⟩])
 .ret)
 .skip))
 (.seq (.region 0 [] [
 ⟨(some 21),.load (some 7) (.tmp 2),none,0⟩,
 ⟨(some 22),.mov (.tmp 1),none,0⟩,
 ⟨(some 23),.call 40 true [(.tmp 21),(.tmp 22)],none,0⟩,
 ⟨(some 5),.mov (.tmp 23),none,0⟩])
 (.seq (.region 0 [] [
 ⟨(some 25),.load (some 7) (.tmp 2),none,0⟩,
 ⟨(some 26),.call 19 true [(.tmp 25)],none,0⟩,
 ⟨(some 27),.mov (.tmp 5),none,0⟩,
 ⟨(some 28),.call 20 true [(.tmp 27)],none,0⟩,
 ⟨(some 29),.call 39 true [(.tmp 26),(.tmp 28)],none,0⟩,
 ⟨(some 24),.mov (.tmp 29),none,0⟩,
 ⟨(some 30),.extract 0 (.tmp 24),none,0⟩,
 ⟨(some 31),.extract 1 (.tmp 24),none,0⟩,
 ⟨(some 32),.extract 2 (.tmp 24),none,0⟩,
 ⟨(some 6),.mov (.tmp 30),none,0⟩,
 ⟨(some 7),.mov (.tmp 31),none,0⟩,
 ⟨(some 8),.mov (.tmp 32),none,0⟩])
 (.seq (.region 0 [] [
 ⟨(some 34),.load (some 7) (.tmp 2),none,0⟩,
 ⟨(some 35),.call 19 true [(.tmp 34)],none,0⟩,
 ⟨(some 36),.mov (.tmp 5),none,0⟩,
 ⟨(some 37),.call 20 true [(.tmp 36)],none,0⟩,
 ⟨(some 38),.call 18 true [(.tmp 35),(.tmp 37),(.cst (.c .nils))],none,0⟩,
 ⟨(some 33),.mov (.tmp 38),none,0⟩,
 ⟨(some 39),.extract 0 (.tmp 33),none,0⟩,
 ⟨(some 40),.extract 1 (.tmp 33),none,0⟩,
 ⟨(some 9),.mov (.tmp 39),none,0⟩,
 ⟨(some 10),.mov (.tmp 40),none,0⟩])
 (.seq (.seq (.region 0 [] [
 ⟨(some 41),.mov (.tmp 8),none,0⟩,
 ⟨(some 42),.bin .neq (.tmp 41) (.cst (.c (.int .i64 0))),none,0⟩])
 (.cond (.tmp 42)
 (.seq (.region 0 [] [
 ⟨(some 43),.mov (.tmp 8),none,0⟩,
 ⟨(some 44),.bin .eql (.tmp 43) (.cst (.c (.int .i64 9))),none,0⟩,
 ⟨(some 45),.mov (.tmp 44),none,0⟩,
 ⟨(some 46),.call 17 true [],some (45,true),0⟩,
 ⟨(some 47),.pick (.tmp 45) (.tmp 46) (.cst (.c (.bool false))),none,0⟩,
 ⟨(some 4),.mov (.tmp 47),none,0⟩])
 .ret)
 .skip))
 (.seq (.seq (.region 0 [] [
 ⟨(some 48),.mov (.tmp 10),none,0⟩,
 ⟨(some 49),.bin .neq (.tmp 48) (.cst (.c (.int .i64 0))),none,0⟩,
 ⟨(some 50),.mov (.tmp 49),none,0⟩,
 ⟨(some 51),.mov (.tmp 9),some (50,false),0⟩,
 ⟨(some 52),.len (.tmp 51),some (50,false),0⟩,
 ⟨(some 53),.faddr 0 (.tmp 2),some (50,false),0⟩,
 ⟨(some 54),.load none (.tmp 53),some (50,false),0⟩,
 ⟨(some 55),.bin .add (.tmp 54) (.cst (.c (.int .i64 1))),some (50,false),0⟩,
 ⟨(some 56),.bin .neq (.tmp 52) (.tmp 55),some (50,false),0⟩,
 ⟨(some 57),.pick (.tmp 50) (.cst (.c (.bool true))) (.tmp 56),none,0⟩])
 (.cond (.tmp 57)
 (.seq (.region 0 [] [
 ⟨(some 4),.mov (.cst (.c (.bool false))),none,0⟩])
 .ret)
 .skip))
 (.seq (.region 1 [] [
 ⟨(some 58),.mov (.tmp 9),none,0⟩,
 ⟨(some 59),.len (.tmp 58),none,0⟩,
 ⟨(some 60),.mkslice 1 8 [(.int .i64 0)] (.tmp 59),none,0⟩,
 ⟨(some 11),.mov (.tmp 60),none,1⟩])
 (.seq (.seq (.region 0 [] [
 ⟨(some 12),.mov (.cst (.c (.int .i64 0))),none,0⟩])
 (.block 0 (.loop ⟨[61,62,63,64,65,66,67,68,69,70,71,72,73,74,75,76,77,78,79,80,81],false,[]⟩
 (.seq (.seq (.region 0 [] [
 ⟨(some 61),.mov (.tmp 12),none,0⟩,
 ⟨(some 62),.mov (.tmp 9),none,0⟩,
 ⟨(some 63),.len (.tmp 62),none,0⟩,
 ⟨(some 64),.bin .lss (.tmp 61) (.tmp 63),none,0⟩])
 (.cond (.tmp 64)
 .skip
 (.exit 0)))
 (.seq (.block 1 (.region 0 [(0,1),(0,2),(1,2),(0,3),(1,3),(2,3),(0,4),(1,4),(0,5),(1,5),(0,6),(1,6),(0,7),(1,7),(2,7),(3,7),(4,7),(5,7),(6,7),(0,8),(1,8),(2,8),(3,8),(4,8),(5,8),(6,8),(7,8),(0,9),(1,9),(2,9),(3,9),(4,9),(5,9),(6,9),(0,10),(1,10),(2,10),(3,10),(4,10),(5,10),(6,10),(0,11),(1,11),(2,11),(3,11),(4,11),(5,11),(6,11),(0,12),(1,12),(2,12),(3,12),(4,12),(5,12),(6,12),(0,13),(1,13)] [
 ⟨(some 67),.mov (.tmp 11),none,0⟩,
 ⟨(some 68),.mov (.tmp 12),none,0⟩,
 ⟨(some 69),.mov (.tmp 9),none,0⟩,
 ⟨(some 70),.mov (.tmp 12),none,0⟩,
 ⟨(some 71),.iaddr 3 (.tmp 69) (.tmp 70),none,0⟩,
 ⟨(some 72),.faddr 0 (.tmp 71),none,0⟩,
 ⟨(some 73),.load none (.tmp 72),none,0⟩,
 ⟨(some 74),.mov (.tmp 9),none,0⟩,
 ⟨(some 75),.mov (.tmp 12),none,0⟩,
 ⟨(some 76),.iaddr 3 (.tmp 74) (.tmp 75),none,0⟩,
 ⟨(some 77),.faddr 0 (.tmp 76),none,0⟩,
 ⟨(some 78),.load none (.tmp 77),none,0⟩,
 ⟨(some 79),.bin .quo (.tmp 78) (.cst (.c (.int .i64 2))),none,0⟩,
 ⟨(some 80),.bin .sub (.tmp 73) (.tmp 79),none,0⟩,
 ⟨(some 81),.iaddr 1 (.tmp 67) (.tmp 68),none,0⟩,
 ⟨none,.store none (.tmp 81) (.tmp 80),none,0⟩]))
 (.region 0 [] [
 ⟨(some 65),.mov (.tmp 12),none,0⟩,
 ⟨(some 66),.bin .add (.tmp 65) (.cst (.c (.int .i64 1))),none,0⟩,
 ⟨(some 12),.mov (.tmp 66),none,0⟩]))))))
 (.seq (.region 0 [(0,1),(0,2),(0,6),(1,6),(2,6),(3,6),(4,6),(5,6),(0,7),(1,7),(2,7),(3,7),(4,7),(5,7)] [
 ⟨(some 82),.mov (.tmp 9),none,0⟩,
 ⟨(some 83),.faddr 0 (.tmp 2),none,0⟩,
 ⟨(some 84),.load none (.tmp 83),none,0⟩,
 ⟨(some 85),.iaddr 3 (.tmp 82) (.tmp 84),none,0⟩,
 ⟨(some 86),.faddr 2 (.tmp 85),none,0⟩,
 ⟨(some 87),.load none (.tmp 86),none,0⟩,
 ⟨(some 88),.faddr 2 (.tmp 2),none,0⟩,
 ⟨(some 89),.load none (.tmp 88),none,0⟩,
 ⟨(some 90),.bin .sub (.tmp 87) (.tmp 89),none,0⟩,
 ⟨(some 13),.mov (.tmp 90),none,0⟩])
 (.seq (.seq (.region 0 [] [
 ⟨(some 14),.mov (.cst (.c (.int .i64 0))),none,0⟩])
 (.block 2 (.loop ⟨[15,16,91,92,93,94,95,96,97,98,99,100,101,102,103,104,105,106,107,108,109,110,111,112,113,114,115,116,117,118,119,120,121],false,[]⟩
 (.seq (.seq (.region 0 [] [
 ⟨(some 91),.mov (.tmp 14),none,0⟩,
 ⟨(some 92),.faddr 3 (.tmp 2),none,0⟩,
 ⟨(some 93),.load none (.tmp 92),none,0⟩,
 ⟨(some 94),.bin .lss (.tmp 91) (.tmp 93),none,0⟩])
 (.cond (.tmp 94)
 .skip
 (.exit 2)))
 (.seq (.block 3 (.seq (.region 0 [] [
 ⟨(some 15),.mov (.cst (.c (.int .i64 0))),none,0⟩])
 (.seq (.seq (.region 0 [] [
 ⟨(some 16),.mov (.cst (.c (.int .i64 1))),none,0⟩])
 (.block 4 (.loop ⟨[97,98,99,100,101,102,103,104,105,106,107,108,109,110,111,112],false,[]⟩
 (.seq (.seq (.region 0 [] [
 ⟨(some 97),.mov (.tmp 16),none,0⟩,
 ⟨(some 98),.mov (.tmp 11),none,0⟩,
 ⟨(some 99),.len (.tmp 98),none,0⟩,
 ⟨(some 100),.bin .lss (.tmp 97) (.tmp 99),none,0⟩])
 (.cond (.tmp 100)
 .skip
 (.exit 4)))
 (.seq (.block 5 (.seq (.region 0 [(0,1),(0,4),(1,4),(2,4),(3,4),(0,5),(1,5),(2,5),(3,5),(4,5),(0,6),(1,6),(2,6),(3,6),(0,7),(1,7),(2,7),(3,7)] [
 ⟨(some 103),.mov (.tmp 11),none,0⟩,
 ⟨(some 104),.mov (.tmp 16),none,0⟩,
 ⟨(some 105),.iaddr 1 (.tmp 103) (.tmp 104),none,0⟩,
 ⟨(some 106),.load none (.tmp 105),none,0⟩,
 ⟨(some 107),.mov (.tmp 11),none,0⟩,
 ⟨(some 108),.mov (.tmp 15),none,0⟩,
 ⟨(some 109),.iaddr 1 (.tmp 107) (.tmp 108),none,0⟩,
 ⟨(some 110),.load none (.tmp 109),none,0⟩,
 ⟨(some 111),.bin .gtr (.tmp 106) (.tmp 110),none,0⟩])
 (.cond (.tmp 111)
 (.region 0 [] [
 ⟨(some 112),.mov (.tmp 16),none,0⟩,
 ⟨(some 15),.mov (.tmp 112),none,0⟩])
 .skip)))
 (.region 0 [] [
 ⟨(some 101),.mov (.tmp 16),none,0⟩,
 ⟨(some 102),.bin .add (.tmp 101) (.cst (.c (.int .i64 1))),none,0⟩,
 ⟨(some 16),.mov (.tmp 102),none,0⟩]))))))
 (.seq (.region 0 [] [
 ⟨(some 113),.mov (.tmp 13),none,0⟩,
 ⟨(some 114),.mov (.tmp 11),none,0⟩,
 ⟨(some 115),.mov (.tmp 15),none,0⟩,
 ⟨(some 116),.iaddr 1 (.tmp 114) (.tmp 115),none,0⟩,
 ⟨(some 117),.load none (.tmp 116),none,0⟩,
 ⟨(some 118),.bin .sub (.tmp 113) (.tmp 117),none,0⟩,
 ⟨(some 13),.mov (.tmp 118),none,0⟩])
 (.region 0 [] [
 ⟨(some 119),.mov (.tmp 11),none,0⟩,
 ⟨(some 120),.mov (.tmp 15),none,0⟩,
 ⟨(some 121),.iaddr 1 (.tmp 119) (.tmp 120),none,0⟩,
 ⟨none,.store none (.tmp 121) (.cst (.c (.int .i64 0))),none,0⟩])))))
 (.region 0 [] [
 ⟨(some 95),.mov (.tmp 14),none,0⟩,
 ⟨(some 96),.bin .add (.tmp 95) (.cst (.c (.int .i64 1))),none,0⟩,
 ⟨(some 14),.mov (.tmp 96),none,0⟩]))))))
 (.seq (.region 0 [] [
 ⟨(some 122),.mov (.tmp 6),none,0⟩,
 ⟨(some 123),.mov (.tmp 13),none,0⟩,
 ⟨(some 124),.bin .eql (.tmp 122) (.tmp 123),none,0⟩,
 ⟨(some 125),.mov (.tmp 124),none,0⟩,
 ⟨(some 126),.call 17 true [],some (125,true),0⟩,
 ⟨(some 127),.pick (.tmp 125) (.tmp 126) (.cst (.c (.bool false))),none,0⟩,
 ⟨(some 4),.mov (.tmp 127),none,0⟩])
 .ret))))))))))))⟩
/-- 8 isatis/isatislaw11.MoveNoBetter -/
def f8 : AFunc := ⟨76,[.tmp 4],false,
 (.seq (.region 1 [] [
 ⟨(some 2),.box (.tmp 0),none,0⟩,
 ⟨(some 4),.mov (.cst (.c (.bool false))),none,1⟩])
 (.seq (.seq (.region 0 [] [
 ⟨(some 12),.load (some 7) (.tmp 2),none,0⟩,
 ⟨(some 13),.call 37 true [(.tmp 12)],none,0⟩,
 ⟨(some 14),.not (.tmp 13),none,0⟩])
 (.cond (.tmp 14)
 (.seq (.region 0 [] [
 ⟨(some 15),.call 17 true [],none,0⟩,
 ⟨(some 4),.mov (.tmp 15),none,0⟩])
 .ret)
 .skip))
 (.seq (.region 0 [] [
 ⟨(some 16),.load (some 7) (.tmp 2),none,0⟩,
 ⟨(some 17),.mov (.tmp 1),none,0⟩,
 ⟨(some 18),.call 40 true [(.tmp 16),(.tmp 17)],none,0⟩,
 ⟨(some 5),.mov (.tmp 18),none,0⟩])
 (.seq (.region 0 [] [
 ⟨(some 20),.load (some 7) (.tmp 2),none,0⟩,
 ⟨(some 21),.call 19 true [(.tmp 20)],none,0⟩,
 ⟨(some 22),.call 27 true [(.tmp 21)],none,0⟩,
 ⟨(some 19),.mov (.tmp 22),none,0⟩,
 ⟨(some 23),.extract 0 (.tmp 19),none,0⟩,
 ⟨(some 24),.extract 1 (.tmp 19),none,0⟩,
 ⟨(some 25),.extract 2 (.tmp 19),none,0⟩,
 ⟨(some 6),.mov (.tmp 23),none,0⟩,
 ⟨(some 7),.mov (.tmp 24),none,0⟩,
 ⟨(some 8),.mov (.tmp 25),none,0⟩])
 (.seq (.region 0 [] [
 ⟨(some 27),.load (some 7) (.tmp 2),none,0⟩,
 ⟨(some 28),.call 19 true [(.tmp 27)],none,0⟩,
 ⟨(some 29),.mov (.tmp 5),none,0⟩,
 ⟨(some 30),.call 20 true [(.tmp 29)],none,0⟩,
 ⟨(some 31),.call 39 true [(.tmp 28),(.tmp 30)],none,0⟩,
 ⟨(some 26),.mov (.tmp 31),none,0⟩,
 ⟨(some 32),.extract 0 (.tmp 26),none,0⟩,
 ⟨(some 33),.extract 1 (.tmp 26),none,0⟩,
 ⟨(some 34),.extract 2 (.tmp 26),none,0⟩,
 ⟨(some 9),.mov (.tmp 32),none,0⟩,
 ⟨(some 10),.mov (.tmp 33),none,0⟩,
 ⟨(some 11),.mov (.tmp 34),none,0⟩])
 (.seq (.seq (.region 0 [] [
 ⟨(some 35),.mov (.tmp 8),none,0⟩,
 ⟨(some 36),.bin .neq (.tmp 35) (.cst (.c (.int .i64 0))),none,0⟩])
 (.cond (.tmp 36)
 (.seq (.region 0 [] [
 ⟨(some 37),.mov (.tmp 8),none,0⟩,
 ⟨(some 38),.bin .eql (.tmp 37) (.cst (.c (.int .i64 10))),none,0⟩,
 ⟨(some 39),.mov (.tmp 38),none,0⟩,
 ⟨(some 40),.mov (.tmp 11),some (39,true),0⟩,
 ⟨(some 41),.bin .eql (.tmp 40) (.cst (.c (.int .i64 9))),some (39,true),0⟩,
 ⟨(some 42),.pick (.tmp 39) (.tmp 41) (.cst (.c (.bool false))),none,0⟩,
 ⟨(some 43),.mov (.tmp 42),none,0⟩,
 ⟨(some 44),.call 17 true [],some (43,true),0⟩,
 ⟨(some 45),.pick (.tmp 43) (.tmp 44) (.cst (.c (.bool false))),none,0⟩,
 ⟨(some 4),.mov (.tmp 45),none,0⟩])
 .ret)
 .skip))
 (.seq (.region 0 [] [
 ⟨(some 46),.load (some 7) (.tmp 2),none,0⟩,
 ⟨(some 47),.mov (.tmp 6),none,0⟩,
 ⟨(some 48),.call 23 true [(.tmp 46),(.tmp 47)],none,0⟩,
 ⟨(some 49),.mov (.tmp 48),none,0⟩,
 ⟨(some 50),.mov (.tmp 11),some (49,true),0⟩,
 ⟨(some 51),.bin .eql (.tmp 50) (.cst (.c (.int .i64 9))),some (49,true),0⟩,
 ⟨(some 52),.mov (.tmp 51),some (49,true),0⟩,
 ⟨(some 53),.mov (.tmp 11),some (52,false),0⟩,
 ⟨(some 54),.bin .eql (.tmp 53) (.cst (.c (.int .i64 0))),some (52,false),0⟩,
 ⟨(some 55),.mov (.tmp 54),some (52,false),0⟩,
 ⟨(some 56),.mov (.tmp 9),some (55,true),0⟩,
 ⟨(some 57),.mov (.tmp 7),some (55,true),0⟩,
 ⟨(some 58),.bin .leq (.tmp 56) (.tmp 57),some (55,true),0⟩,
 ⟨(some 59),.pick (.tmp 55) (.tmp 58) (.cst (.c (.bool false))),some (52,false),0⟩,
 ⟨(some 60),.mov (.tmp 59),some (52,false),0⟩,
 ⟨(some 61),.mov (.tmp 9),some (60,true),0⟩,
 ⟨(some 62),.mov (.tmp 7),some (60,true),0⟩,
 ⟨(some 63),.bin .lss (.tmp 61) (.tmp 62),some (60,true),0⟩,
 ⟨(some 64),.mov (.tmp 63),some (60,true),0⟩,
 ⟨(some 65),.mov (.tmp 5),some (64,false),0⟩,
 ⟨(some 66),.mov (.tmp 6),some (64,false),0⟩,
 ⟨(some 67),.call 41 true [(.tmp 65),(.tmp 66)],some (64,false),0⟩,
 ⟨(some 68),.not (.tmp 67),some (64,false),0⟩,
 ⟨(some 69),.pick (.tmp 64) (.cst (.c (.bool true))) (.tmp 68),some (60,true),0⟩,
 ⟨(some 70),.pick (.tmp 60) (.tmp 69) (.cst (.c (.bool false))),some (52,false),0⟩,
 ⟨(some 71),.pick (.tmp 52) (.cst (.c (.bool true))) (.tmp 70),some (49,true),0⟩,
 ⟨(some 72),.pick (.tmp 49) (.tmp 71) (.cst (.c (.bool false))),none,0⟩,
 ⟨(some 73),.mov (.tmp 72),none,0⟩,
 ⟨(some 74),.call 17 true [],some (73,true),0⟩,
 ⟨(some 75),.pick (.tmp 73) (.tmp 74) (.cst (.c (.bool false))),none,0⟩,
 ⟨(some 4),.mov (.tmp 75),none,0⟩])
 .ret)))))))⟩
/-- 9 isatis/isatislaw11.MoveMiller | loop 0 vars [11,12,13,14] kill 49 makes true reify [(11,(none,1)),(12,(none,1))] -/
def f9 : AFunc := ⟨149,[.tmp 4],false,
 (.seq (.region 1 [] [
 ⟨(some 2),.box (.tmp 0),none,0⟩,
 ⟨(some 4),.mov (.cst (.c (.bool false))),none,1⟩])
 (.seq (.seq (.region 0 [] [
 ⟨(some 20),.load (some 7) (.tmp 2),none,0⟩,
 ⟨(some 21),.call 37 true [(.tmp 20)],none,0⟩,
 ⟨(some 22),.not (.tmp 21),none,0⟩])
 (.cond (.tmp 22)
 (.seq (.region 0 [] [
 ⟨(some 23),.call 17 true [],none,0⟩,
 ⟨(some 4),.mov (.tmp 23),none,0⟩])
 .ret)
 .skip))
 (.seq (.region 0 [] [
 ⟨(some 25),.load (some 7) (.tmp 2),none,0⟩,
 ⟨(some 26),.call 19 true [(.tmp 25)],none,0⟩,
 ⟨(some 27),.call 27 true [(.tmp 26)],none,0⟩,
 ⟨(some 24),.mov (.tmp 27),none,0⟩,
 ⟨(some 28),.extract 0 (.tmp 24),none,0⟩,
 ⟨(some 29),.extract 1 (.tmp 24),none,0⟩,
 ⟨(some 30),.extract 2 (.tmp 24),none,0⟩,
 ⟨(some 5),.mov (.tmp 28),none,0⟩,
 ⟨(some 6),.mov (.tmp 29),none,0⟩,
 ⟨(some 7),.mov (.tmp 30),none,0⟩])
 (.seq (.region 0 [] [
 ⟨(some 32),.load (some 7) (.tmp 2),none,0⟩,
 ⟨(some 33),.call 19 true [(.tmp 32)],none,0⟩,
 ⟨(some 34),.call 33 true [(.tmp 33)],none,0⟩,
 ⟨(some 31),.mov (.tmp 34),none,0⟩,
 ⟨(some 35),.extract 0 (.tmp 31),none,0⟩,
 ⟨(some 36),.extract 1 (.tmp 31),none,0⟩,
 ⟨(some 8),.mov (.tmp 35),none,0⟩,
 ⟨(some 9),.mov (.tmp 36),none,0⟩])
 (.seq (.seq (.region 0 [] [
 ⟨(some 37),.mov (.tmp 9),none,0⟩,
 ⟨(some 38),.bin .neq (.tmp 37) (.cst (.c (.int .i64 0))),none,0⟩])
 (.cond (.tmp 38)
 (.seq (.region 0 [] [
 ⟨(some 39),.mov (.tmp 9),none,0⟩,
 ⟨(some 40),.bin .eql (.tmp 39) (.cst (.c (.int .i64 10))),none,0⟩,
 ⟨(some 41),.mov (.tmp 40),none,0⟩,
 ⟨(some 42),.mov (.tmp 7),some (41,true),0⟩,
 ⟨(some 43),.mov (.tmp 9),some (41,true),0⟩,
 ⟨(some 44),.bin .eql (.tmp 42) (.tmp 43),some (41,true),0⟩,
 ⟨(some 45),.pick (.tmp 41) (.tmp 44) (.cst (.c (.bool false))),none,0⟩,
 ⟨(some 46),.mov (.tmp 45),none,0⟩,
 ⟨(some 47),.call 17 true [],some (46,true),0⟩,
 ⟨(some 48),.pick (.tmp 46) (.tmp 47) (.cst (.c (.bool false))),none,0⟩,
 ⟨(some 4),.mov (.tmp 48),none,0⟩])
 .ret)
 .skip))
 (.seq (.seq (.region 0 [] [
 ⟨(some 49),.mov (.tmp 7),none,0⟩,
 ⟨(some 50),.bin .eql (.tmp 49) (.cst (.c (.int .i64 0))),none,0⟩,
 ⟨(some 51),.mov (.tmp 50),none,0⟩,
 ⟨(some 52),.mov (.tmp 8),some (51,true),0⟩,
 ⟨(some 53),.mov (.tmp 6),some (51,true),0⟩,
 ⟨(some 54),.bin .lss (.tmp 52) (.tmp 53),some (51,true),0⟩,
 ⟨(some 55),.pick (.tmp 51) (.tmp 54) (.cst (.c (.bool false))),none,0⟩,
 ⟨(some 56),.mov (.tmp 55),none,0⟩,
 ⟨(some 57),.mov (.tmp 7),some (56,false),0⟩,
 ⟨(some 58),.bin .neq (.tmp 57) (.cst (.c (.int .i64 0))),some (56,false),0⟩,
 ⟨(some 59),.mov (.tmp 58),some (56,false),0⟩,
 ⟨(some 60),.mov (.tmp 7),some (59,true),0⟩,
 ⟨(some 61),.bin .neq (.tmp 60) (.cst (.c (.int .i64 10))),some (59,true),0⟩,
 ⟨(some 62),.pick (.tmp 59) (.tmp 61) (.cst (.c (.bool false))),some (56,false),0⟩,
 ⟨(some 63),.pick (.tmp 56) (.cst (.c (.bool true))) (.tmp 62),none,0⟩])
 (.cond (.tmp 63)
 (.seq (.region 0 [] [
 ⟨(some 4),.mov (.cst (.c (.bool false))),none,0⟩])
 .ret)
 .skip))
 (.seq (.region 0 [] [
 ⟨(some 64),.load (some 7) (.tmp 2),none,0⟩,
 ⟨(some 65),.mov (.tmp 1),none,0⟩,
 ⟨(some 66),.call 38 true [(.tmp 64),(.tmp 65)],none,0⟩,
 ⟨(some 10),.mov (.tmp 66),none,0⟩])
 (.seq (.region 0 [] [
 ⟨(some 11),.mov (.cst (.c .nils)),none,0⟩,
 ⟨(some 12),.mov (.cst (.c .nils)),none,0⟩])
 (.seq (.region 0 [] [
 ⟨(some 67),.mov (.tmp 8),none,0⟩,
 ⟨(some 13),.mov (.tmp 67),none,0⟩])
 (.seq (.seq (.region 0 [] [
 ⟨(some 14),.mov (.cst (.c (.int .i64 0))),none,0⟩])
 (.block 0 (.loop ⟨[4,15,16,17,68,69,70,71,72,73,74,75,76,77,78,79,80,81,82,83,84,85,86,87,88,89,90,91,92,93,94,95,96,97,98,99,100,101,102,103,104,105,106,107,108,109,110,111,112],true,[(11,none,1),(12,none,1)]⟩
 (.seq (.seq (.region 0 [] [
 ⟨(some 68),.mov (.tmp 14),none,0⟩,
 ⟨(some 69),.faddr 0 (.tmp 2),none,0⟩,
 ⟨(some 70),.load none (.tmp 69),none,0⟩,
 ⟨(some 71),.bin .leq (.tmp 68) (.tmp 70),none,0⟩])
 (.cond (.tmp 71)
 .skip
 (.exit 0)))
 (.seq (.block 1 (.seq (.region 0 [] [
 ⟨(some 75),.load (some 7) (.tmp 2),none,0⟩,
 ⟨(some 76),.call 19 true [(.tmp 75)],none,0⟩,
 ⟨(some 77),.mov (.tmp 11),none,0⟩,
 ⟨(some 78),.call 20 true [(.tmp 77)],none,0⟩,
 ⟨(some 79),.mov (.tmp 12),none,0⟩,
 ⟨(some 80),.call 20 true [(.tmp 79)],none,0⟩,
 ⟨(some 81),.call 34 true [(.tmp 76),(.tmp 78),(.tmp 80)],none,0⟩,
 ⟨(some 74),.mov (.tmp 81),none,0⟩,
 ⟨(some 82),.extract 0 (.tmp 74),none,0⟩,
 ⟨(some 83),.extract 1 (.tmp 74),none,0⟩,
 ⟨(some 84),.extract 2 (.tmp 74),none,0⟩,
 ⟨(some 15),.mov (.tmp 82),none,0⟩,
 ⟨(some 16),.mov (.tmp 83),none,0⟩,
 ⟨(some 17),.mov (.tmp 84),none,0⟩])
 (.seq (.seq (.region 0 [] [
 ⟨(some 85),.mov (.tmp 17),none,0⟩,
 ⟨(some 86),.bin .neq (.tmp 85) (.cst (.c (.int .i64 0))),none,0⟩,
 ⟨(some 87),.mov (.tmp 86),none,0⟩,
 ⟨(some 88),.mov (.tmp 15),some (87,false),0⟩,
 ⟨(some 89),.faddr 5 (.tmp 2),some (87,false),0⟩,
 ⟨(some 90),.load none (.tmp 89),some (87,false),0⟩,
 ⟨(some 91),.len (.tmp 90),some (87,false),0⟩,
 ⟨(some 92),.bin .sub (.tmp 91) (.cst (.c (.int .i64 1))),some (87,false),0⟩,
 ⟨(some 93),.call 32 true [(.tmp 88),(.cst (.c (.int .i64 0))),(.tmp 92)],some (87,false),0⟩,
 ⟨(some 94),.not (.tmp 93),some (87,false),0⟩,
 ⟨(some 95),.pick (.tmp 87) (.cst (.c (.bool true))) (.tmp 94),none,0⟩,
 ⟨(some 96),.mov (.tmp 95),none,0⟩,
 ⟨(some 97),.mov (.tmp 16),some (96,false),0⟩,
 ⟨(some 98),.mov (.tmp 13),some (96,false),0⟩,
 ⟨(some 99),.bin .lss (.tmp 97) (.tmp 98),some (96,false),0⟩,
 ⟨(some 100),.pick (.tmp 96) (.cst (.c (.bool true))) (.tmp 99),none,0⟩])
 (.cond (.tmp 100)
 (.seq (.region 0 [] [
 ⟨(some 4),.mov (.cst (.c (.bool false))),none,0⟩])
 .ret)
 .skip))
 (.seq (.region 0 [] [
 ⟨(some 101),.mov (.tmp 16),none,0⟩,
 ⟨(some 13),.mov (.tmp 101),none,0⟩])
 (.seq (.region 2 [] [
 ⟨(some 102),.mov (.tmp 11),none,0⟩,
 ⟨(some 103),.mov (.tmp 15),none,0⟩,
 ⟨(some 104),.bslice 1 1 [(.int .i64 0)] [(0,(.tmp 103))],none,0⟩,
 ⟨(some 105),.append 1 8 (.tmp 102) (.tmp 104),none,1⟩,
 ⟨(some 11),.mov (.tmp 105),none,2⟩])
 (.seq (.region 0 [] [
 ⟨(some 106),.mov (.tmp 10),none,0⟩,
 ⟨(some 107),.mov (.tmp 14),none,0⟩,
 ⟨(some 108),.call 42 true [(.tmp 106),(.tmp 107)],none,0⟩])
 (.cond (.tmp 108)
 (.region 2 [] [
 ⟨(some 109),.mov (.tmp 12),none,0⟩,
 ⟨(some 110),.mov (.tmp 14),none,0⟩,
 ⟨(some 111),.bslice 1 1 [(.int .i64 0)] [(0,(.tmp 110))],none,0⟩,
 ⟨(some 112),.append 1 8 (.tmp 109) (.tmp 111),none,1⟩,
 ⟨(some 12),.mov (.tmp 112),none,2⟩])
 .skip)))))))
 (.region 0 [] [
 ⟨(some 72),.mov (.tmp 14),none,0⟩,
 ⟨(some 73),.bin .add (.tmp 72) (.cst (.c (.int .i64 1))),none,0⟩,
 ⟨(some 14),.mov (.tmp 73),none,0⟩]))))))
 (.seq (.region 0 [] [
 ⟨(some 114),.load (some 7) (.tmp 2),none,0⟩,
 ⟨(some 115),.call 19 true [(.tmp 114)],none,0⟩,
 ⟨(some 116),.mov (.tmp 11),none,0⟩,
 ⟨(some 117),.call 20 true [(.tmp 116)],none,0⟩,
 ⟨(some 118),.mov (.tmp 10),none,0⟩,
 ⟨(some 119),.call 20 true [(.tmp 118)],none,0⟩,
 ⟨(some 120),.call 18 true [(.tmp 115),(.tmp 117),(.tmp 119)],none,0⟩,
 ⟨(some 113),.mov (.tmp 120),none,0⟩,
 ⟨(some 121),.extract 0 (.tmp 113),none,0⟩,
 ⟨(some 122),.extract 1 (.tmp 113),none,0⟩,
 ⟨(some 18),.mov (.tmp 121),none,0⟩,
 ⟨(some 19),.mov (.tmp 122),none,0⟩])
 (.seq (.region 0 [(3,5),(4,5),(3,6),(4,6),(3,7),(4,7),(11,12),(11,13),(11,17),(12,17),(13,17),(14,17),(15,17),(16,17),(11,18),(12,18),(13,18),(14,18),(15,18),(16,18),(11,20),(12,20),(13,20),(14,20),(15,20),(16,20),(17,20),(18,20),(19,20)] [
 ⟨(some 123),.mov (.tmp 19),none,0⟩,
 ⟨(some 124),.bin .eql (.tmp 123) (.cst (.c (.int .i64 0))),none,0⟩,
 ⟨(some 125),.mov (.tmp 124),none,0⟩,
 ⟨(some 126),.mov (.tmp 18),some (125,true),0⟩,
 ⟨(some 127),.len (.tmp 126),some (125,true),0⟩,
 ⟨(some 128),.faddr 0 (.tmp 2),some (125,true),0⟩,
 ⟨(some 129),.load none (.tmp 128),some (125,true),0⟩,
 ⟨(some 130),.bin .add (.tmp 129) (.cst (.c (.int .i64 1))),some (125,true),0⟩,
 ⟨(some 131),.bin .eql (.tmp 127) (.tmp 130),some (125,true),0⟩,
 ⟨(some 132),.pick (.tmp 125) (.tmp 131) (.cst (.c (.bool false))),none,0⟩,
 ⟨(some 133),.mov (.tmp 132),none,0⟩,
 ⟨(some 134),.mov (.tmp 18),some (133,true),0⟩,
 ⟨(some 135),.faddr 0 (.tmp 2),some (133,true),0⟩,
 ⟨(some 136),.load none (.tmp 135),some (133,true),0⟩,
 ⟨(some 137),.iaddr 3 (.tmp 134) (.tmp 136),some (133,true),0⟩,
 ⟨(some 138),.faddr 2 (.tmp 137),some (133,true),0⟩,
 ⟨(some 139),.load none (.tmp 138),some (133,true),0⟩,
 ⟨(some 140),.faddr 2 (.tmp 2),some (133,true),0⟩,
 ⟨(some 141),.load none (.tmp 140),some (133,true),0⟩,
 ⟨(some 142),.bin .sub (.tmp 139) (.tmp 141),some (133,true),0⟩,
 ⟨(some 143),.mov (.tmp 13),some (133,true),0⟩,
 ⟨(some 144),.bin .geq (.tmp 142) (.tmp 143),some (133,true),0⟩,
 ⟨(some 145),.pick (.tmp 133) (.tmp 144) (.cst (.c (.bool false))),none,0⟩,
 ⟨(some 146),.mov (.tmp 145),none,0⟩,
 ⟨(some 147),.call 17 true [],some (146,true),0⟩,
 ⟨(some 148),.pick (.tmp 146) (.tmp 147) (.cst (.c (.bool false))),none,0⟩,
 ⟨(some 4),.mov (.tmp 148),none,0⟩])
 .ret))))))))))))⟩
/-- 10 isatis/isatislaw11.MoveMore -/
def f10 : AFunc := ⟨153,[.tmp 6],false,
 (.seq (.region 1 [] [
 ⟨(some 3),.box (.tmp 0),none,0⟩,
 ⟨(some 6),.mov (.cst (.c (.bool false))),none,1⟩])
 (.seq (.seq (.region 0 [] [
 ⟨(some 29),.load (some 7) (.tmp 3),none,0⟩,
 ⟨(some 30),.call 37 true [(.tmp 29)],none,0⟩,
 ⟨(some 31),.not (.tmp 30),none,0⟩])
 (.cond (.tmp 31)
 (.seq (.region 0 [] [
 ⟨(some 32),.call 17 true [],none,0⟩,
 ⟨(some 6),.mov (.tmp 32),none,0⟩])
 .ret)
 .skip))
 (.seq (.region 0 [] [
 ⟨(some 33),.load (some 7) (.tmp 3),none,0⟩,
 ⟨(some 34),.mov (.tmp 1),none,0⟩,
 ⟨(some 35),.call 40 true [(.tmp 33),(.tmp 34)],none,0⟩,
 ⟨(some 7),.mov (.tmp 35),none,0⟩])
 (.seq (.region 3 [(0,1),(0,2),(1,2),(0,3),(1,3),(2,3),(0,4),(1,4),(2,4),(3,4),(0,5),(1,5),(2,5),(3,5),(4,5),(1,6),(2,6),(2,7)] [
 ⟨(some 36),.load (some 7) (.tmp 3),none,0⟩,
 ⟨(some 37),.load (some 7) (.tmp 3),none,0⟩,
 ⟨(some 38),.load (some 7) (.tmp 3),none,0⟩,
 ⟨(some 8),.alloc [(.int .i64 0),(.int .i64 0),(.int .i64 0),(.int .i64 0),(.int .i64 0),.nils,.nils],none,0⟩,
 ⟨(some 9),.alloc [(.int .i64 0),(.int .i64 0),(.int .i64 0),(.int .i64 0),(.int .i64 0),.nils,.nils],none,1⟩,
 ⟨(some 10),.alloc [(.int .i64 0),(.int .i64 0),(.int .i64 0),(.int .i64 0),(.int .i64 0),.nils,.nils],none,2⟩,
 ⟨none,.store (some 7) (.tmp 8) (.tmp 36),none,3⟩,
 ⟨none,.store (some 7) (.tmp 9) (.tmp 37),none,3⟩,
 ⟨none,.store (some 7) (.tmp 10) (.tmp 38),none,3⟩])
 (.seq (.region 0 [] [
 ⟨(some 39),.faddr 2 (.tmp 3),none,0⟩,
 ⟨(some 40),.load none (.tmp 39),none,0⟩,
 ⟨(some 41),.mov (.tmp 2),none,0⟩,
 ⟨(some 42),.conv .i64 (.tmp 41),none,0⟩,
 ⟨(some 43),.bin .add (.tmp 40) (.tmp 42),none,0⟩,
 ⟨(some 44),.mm false (.cst (.c (.int .i64 999))) (.tmp 43),none,0⟩,
 ⟨(some 45),.faddr 2 (.tmp 8),none,0⟩,
 ⟨none,.store none (.tmp 45) (.tmp 44),none,0⟩])
 (.seq (.region 0 [] [
 ⟨(some 46),.faddr 0 (.tmp 3),none,0⟩,
 ⟨(some 47),.load none (.tmp 46),none,0⟩,
 ⟨(some 48),.bin .add (.tmp 47) (.cst (.c (.int .i64 1))),none,0⟩,
 ⟨(some 49),.faddr 3 (.tmp 3),none,0⟩,
 ⟨(some 50),.load none (.tmp 49),none,0⟩,
 ⟨(some 51),.bin .add (.tmp 50) (.cst (.c (.int .i64 1))),none,0⟩,
 ⟨(some 52),.mm false (.tmp 48) (.tmp 51),none,0⟩,
 ⟨(some 53),.faddr 3 (.tmp 9),none,0⟩,
 ⟨none,.store none (.tmp 53) (.tmp 52),none,0⟩])
 (.seq (.region 0 [] [
 ⟨(some 54),.faddr 3 (.tmp 10),none,0⟩,
 ⟨none,.store none (.tmp 54) (.cst (.c (.int .i64 0))),none,0⟩])
 (.seq (.region 0 [] [
 ⟨(some 56),.load (some 7) (.tmp 3),none,0⟩,
 ⟨(some 57),.call 43 true [(.tmp 56)],none,0⟩,
 ⟨(some 55),.mov (.tmp 57),none,0⟩,
 ⟨(some 58),.extract 0 (.tmp 55),none,0⟩,
 ⟨(some 59),.extract 1 (.tmp 55),none,0⟩,
 ⟨(some 60),.extract 2 (.tmp 55),none,0⟩,
 ⟨(some 11),.mov (.tmp 58),none,0⟩,
 ⟨(some 12),.mov (.tmp 59),none,0⟩,
 ⟨(some 13),.mov (.tmp 60),none,0⟩])
 (.seq (.region 0 [] [
 ⟨(some 62),.load (some 7) (.tmp 8),none,0⟩,
 ⟨(some 63),.call 43 true [(.tmp 62)],none,0⟩,
 ⟨(some 61),.mov (.tmp 63),none,0⟩,
 ⟨(some 64),.extract 0 (.tmp 61),none,0⟩,
 ⟨(some 65),.extract 1 (.tmp 61),none,0⟩,
 ⟨(some 66),.extract 2 (.tmp 61),none,0⟩,
 ⟨(some 14),.mov (.tmp 64),none,0⟩,
 ⟨(some 15),.mov (.tmp 65),none,0⟩,
 ⟨(some 16),.mov (.tmp 66),none,0⟩])
 (.seq (.region 0 [] [
 ⟨(some 68),.load (some 7) (.tmp 9),none,0⟩,
 ⟨(some 69),.call 43 true [(.tmp 68)],none,0⟩,
 ⟨(some 67),.mov (.tmp 69),none,0⟩,
 ⟨(some 70),.extract 0 (.tmp 67),none,0⟩,
 ⟨(some 71),.extract 1 (.tmp 67),none,0⟩,
 ⟨(some 72),.extract 2 (.tmp 67),none,0⟩,
 ⟨(some 17),.mov (.tmp 70),none,0⟩,
 ⟨(some 18),.mov (.tmp 71),none,0⟩,
 ⟨(some 19),.mov (.tmp 72),none,0⟩])
 (.seq (.region 0 [] [
 ⟨(some 74),.load (some 7) (.tmp 10),none,0⟩,
 ⟨(some 75),.call 43 true [(.tmp 74)],none,0⟩,
 ⟨(some 73),.mov (.tmp 75),none,0⟩,
 ⟨(some 76),.extract 0 (.tmp 73),none,0⟩,
 ⟨(some 77),.extract 1 (.tmp 73),none,0⟩,
 ⟨(some 78),.extract 2 (.tmp 73),none,0⟩,
 ⟨(some 20),.mov (.tmp 76),none,0⟩,
 ⟨(some 21),.mov (.tmp 77),none,0⟩,
 ⟨(some 22),.mov (.tmp 78),none,0⟩])
 (.seq (.region 0 [] [
 ⟨(some 80),.load (some 7) (.tmp 3),none,0⟩,
 ⟨(some 81),.call 19 true [(.tmp 80)],none,0⟩,
 ⟨(some 82),.mov (.tmp 7),none,0⟩,
 ⟨(some 83),.call 20 true [(.tmp 82)],none,0⟩,
 ⟨(some 84),.call 39 true [(.tmp 81),(.tmp 83)],none,0⟩,
 ⟨(some 79),.mov (.tmp 84),none,0⟩,
 ⟨(some 85),.extract 0 (.tmp 79),none,0⟩,
 ⟨(some 86),.extract 1 (.tmp 79),none,0⟩,
 ⟨(some 87),.extract 2 (.tmp 79),none,0⟩,
 ⟨(some 23),.mov (.tmp 85),none,0⟩,
 ⟨(some 24),.mov (.tmp 86),none,0⟩,
 ⟨(some 25),.mov (.tmp 87),none,0⟩])
 (.seq (.region 0 [] [
 ⟨(some 89),.load (some 7) (.tmp 8),none,0⟩,
 ⟨(some 90),.call 19 true [(.tmp 89)],none,0⟩,
 ⟨(some 91),.mov (.tmp 7),none,0⟩,
 ⟨(some 92),.call 20 true [(.tmp 91)],none,0⟩,
 ⟨(some 93),.call 39 true [(.tmp 90),(.tmp 92)],none,0⟩,
 ⟨(some 88),.mov (.tmp 93),none,0⟩,
 ⟨(some 94),.extract 0 (.tmp 88),none,0⟩,
 ⟨(some 95),.extract 1 (.tmp 88),none,0⟩,
 ⟨(some 96),.extract 2 (.tmp 88),none,0⟩,
 ⟨(some 26),.mov (.tmp 94),none,0⟩,
 ⟨(some 27),.mov (.tmp 95),none,0⟩,
 ⟨(some 28),.mov (.tmp 96),none,0⟩])
 (.seq (.region 0 [] [
 ⟨(some 97),.mov (.tmp 13),none,0⟩,
 ⟨(some 98),.mov (.tmp 97),none,0⟩,
 ⟨(some 99),.mov (.tmp 16),some (98,true),0⟩,
 ⟨(some 100),.pick (.tmp 98) (.tmp 99) (.cst (.c (.bool false))),none,0⟩,
 ⟨(some 101),.mov (.tmp 100),none,0⟩,
 ⟨(some 102),.mov (.tmp 19),some (101,true),0⟩,
 ⟨(some 103),.pick (.tmp 101) (.tmp 102) (.cst (.c (.bool false))),none,0⟩,
 ⟨(some 104),.mov (.tmp 103),none,0⟩,
 ⟨(some 105),.mov (.tmp 22),some (104,true),0⟩,
 ⟨(some 106),.pick (.tmp 104) (.tmp 105) (.cst (.c (.bool false))),none,0⟩,
 ⟨(some 107),.mov (.tmp 106),none,0⟩,
 ⟨(some 108),.mov (.tmp 14),some (107,true),0⟩,
 ⟨(some 109),.mov (.tmp 11),some (107,true),0⟩,
 ⟨(some 110),.bin .geq (.tmp 108) (.tmp 109),some (107,true),0⟩,
 ⟨(some 111),.pick (.tmp 107) (.tmp 110) (.cst (.c (.bool false))),none,0⟩,
 ⟨(some 112),.mov (.tmp 111),none,0⟩,
 ⟨(some 113),.mov (.tmp 15),some (112,true),0⟩,
 ⟨(some 114),.mov (.tmp 12),some (112,true),0⟩,
 ⟨(some 115),.bin .geq (.tmp 113) (.tmp 114),some (112,true),0⟩,
 ⟨(some 116),.pick (.tmp 112) (.tmp 115) (.cst (.c (.bool false))),none,0⟩,
 ⟨(some 117),.mov (.tmp 116),none,0⟩,
 ⟨(some 118),.mov (.tmp 17),some (117,true),0⟩,
 ⟨(some 119),.mov (.tmp 11),some (117,true),0⟩,
 ⟨(some 120),.bin .leq (.tmp 118) (.tmp 119),some (117,true),0⟩,
 ⟨(some 121),.pick (.tmp 117) (.tmp 120) (.cst (.c (.bool false))),none,0⟩,
 ⟨(some 122),.mov (.tmp 121),none,0⟩,
 ⟨(some 123),.mov (.tmp 18),some (122,true),0⟩,
 ⟨(some 124),.mov (.tmp 12),some (122,true),0⟩,
 ⟨(some 125),.bin .leq (.tmp 123) (.tmp 124),some (122,true),0⟩,
 ⟨(some 126),.pick (.tmp 122) (.tmp 125) (.cst (.c (.bool false))),none,0⟩,
 ⟨(some 127),.mov (.tmp 126),none,0⟩,
 ⟨(some 128),.mov (.tmp 20),some (127,true),0⟩,
 ⟨(some 129),.mov (.tmp 21),some (127,true),0⟩,
 ⟨(some 130),.bin .eql (.tmp 128) (.tmp 129),some (127,true),0⟩,
 ⟨(some 131),.pick (.tmp 127) (.tmp 130) (.cst (.c (.bool false))),none,0⟩,
 ⟨(some 132),.mov (.tmp 131),none,0⟩,
 ⟨(some 133),.mov (.tmp 20),some (132,true),0⟩,
 ⟨(some 134),.mov (.tmp 11),some (132,true),0⟩,
 ⟨(some 135),.bin .geq (.tmp 133) (.tmp 134),some (132,true),0⟩,
 ⟨(some 136),.pick (.tmp 132) (.tmp 135) (.cst (.c (.bool false))),none,0⟩,
 ⟨(some 137),.mov (.tmp 136),none,0⟩,
 ⟨(some 138),.mov (.tmp 25),some (137,true),0⟩,
 ⟨(some 139),.bin .neq (.tmp 138) (.cst (.c (.int .i64 0))),some (137,true),0⟩,
 ⟨(some 140),.mov (.tmp 139),some (137,true),0⟩,
 ⟨(some 141),.mov (.tmp 28),some (140,false),0⟩,
 ⟨(some 142),.bin .eql (.tmp 141) (.cst (.c (.int .i64 0))),some (140,false),0⟩,
 ⟨(some 143),.mov (.tmp 142),some (140,false),0⟩,
 ⟨(some 144),.mov (.tmp 23),some (143,true),0⟩,
 ⟨(some 145),.mov (.tmp 26),some (143,true),0⟩,
 ⟨(some 146),.bin .eql (.tmp 144) (.tmp 145),some (143,true),0⟩,
 ⟨(some 147),.pick (.tmp 143) (.tmp 146) (.cst (.c (.bool false))),some (140,false),0⟩,
 ⟨(some 148),.pick (.tmp 140) (.cst (.c (.bool true))) (.tmp 147),some (137,true),0⟩,
 ⟨(some 149),.pick (.tmp 137) (.tmp 148) (.cst (.c (.bool false))),none,0⟩,
 ⟨(some 150),.mov (.tmp 149),none,0⟩,
 ⟨(some 151),.call 17 true [],some (150,true),0⟩,
 ⟨(some 152),.pick (.tmp 150) (.tmp 151) (.cst (.c (.bool false))),none,0⟩,
 ⟨(some 6),.mov (.tmp 152),none,0⟩])
 .ret))))))))))))))⟩
/-- 11 isatis/isatislaw11.MoveRest | loop 0 vars [13] kill 18 makes true reify [(12,((some 6),1))] | loop 2 vars [31] kill 44 makes false -/
def f11 : AFunc := ⟨272,[.tmp 8],false,
 (.seq (.region 1 [] [
 ⟨(some 4),.box (.tmp 0),none,0⟩,
 ⟨(some 8),.mov (.cst (.c (.bool false))),none,1⟩])
 (.seq (.seq (.region 0 [] [
 ⟨(some 32),.load (some 7) (.tmp 4),none,0⟩,
 ⟨(some 33),.call 37 true [(.tmp 32)],none,0⟩,
 ⟨(some 34),.not (.tmp 33),none,0⟩])
 (.cond (.tmp 34)
 (.seq (.region 0 [] [
 ⟨(some 35),.call 17 true [],none,0⟩,
 ⟨(some 8),.mov (.tmp 35),none,0⟩])
 .ret)
 .skip))
 (.seq (.region 0 [(0,1),(0,3),(1,3),(2,3),(0,4),(1,4),(2,4),(3,4)] [
 ⟨(some 36),.load (some 7) (.tmp 4),none,0⟩,
 ⟨(some 37),.mov (.tmp 1),none,0⟩,
 ⟨(some 38),.call 40 true [(.tmp 36),(.tmp 37)],none,0⟩,
 ⟨(some 39),.load (some 7) (.tmp 4),none,0⟩,
 ⟨(some 40),.mov (.tmp 2),none,0⟩,
 ⟨(some 41),.call 38 true [(.tmp 39),(.tmp 40)],none,0⟩,
 ⟨(some 9),.mov (.tmp 38),none,0⟩,
 ⟨(some 10),.mov (.tmp 41),none,0⟩])
 (.seq (.region 2 [(0,1),(0,2),(1,2),(0,3),(1,3),(2,3),(1,4)] [
 ⟨(some 42),.load (some 7) (.tmp 4),none,0⟩,
 ⟨(some 43),.load (some 7) (.tmp 4),none,0⟩,
 ⟨(some 11),.alloc [(.int .i64 0),(.int .i64 0),(.int .i64 0),(.int .i64 0),(.int .i64 0),.nils,.nils],none,0⟩,
 ⟨(some 12),.alloc [(.int .i64 0),(.int .i64 0),(.int .i64 0),(.int .i64 0),(.int .i64 0),.nils,.nils],none,1⟩,
 ⟨none,.store (some 7) (.tmp 11) (.tmp 42),none,2⟩,
 ⟨none,.store (some 7) (.tmp 12) (.tmp 43),none,2⟩])
 (.seq (.region 0 [] [
 ⟨(some 44),.faddr 4 (.tmp 4),none,0⟩,
 ⟨(some 45),.load none (.tmp 44),none,0⟩,
 ⟨(some 46),.mov (.tmp 3),none,0⟩,
 ⟨(some 47),.conv .i64 (.tmp 46),none,0⟩,
 ⟨(some 48),.bin .rem (.tmp 47) (.cst (.c (.int .i64 3))),none,0⟩,
 ⟨(some 49),.bin .sub (.tmp 45) (.tmp 48),none,0⟩,
 ⟨(some 50),.mm true (.cst (.c (.int .i64 1))) (.tmp 49),none,0⟩,
 ⟨(some 51),.faddr 4 (.tmp 11),none,0⟩,
 ⟨none,.store none (.tmp 51) (.tmp 50),none,0⟩])
 (.seq (.region 2 [] [
 ⟨(some 52),.bslice 3 0 [(.int .i64 0),(.int .i64 0),(.int .i64 0)] [],none,0⟩,
 ⟨(some 53),.faddr 5 (.tmp 4),none,1⟩,
 ⟨(some 54),.load none (.tmp 53),none,1⟩,
 ⟨(some 55),.append 3 24 (.tmp 52) (.tmp 54),none,1⟩,
 ⟨(some 56),.faddr 5 (.tmp 12),none,2⟩,
 ⟨none,.store none (.tmp 56) (.tmp 55),none,2⟩,
 ⟨(some 57),.faddr 6 (.tmp 12),none,2⟩,
 ⟨none,.store none (.tmp 57) (.cst (.c .nils)),none,2⟩])
 (.seq (.seq (.region 0 [] [
 ⟨(some 13),.mov (.cst (.c (.int .i64 0))),none,0⟩])
 (.block 0 (.loop ⟨[58,59,60,61,62,63,64,65,66,67,68,69,70,71,72,73,74,75],true,[(12,(some 6),1)]⟩
 (.seq (.seq (.region 0 [] [
 ⟨(some 58),.mov (.tmp 13),none,0⟩,
 ⟨(some 59),.faddr 6 (.tmp 4),none,0⟩,
 ⟨(some 60),.load none (.tmp 59),none,0⟩,
 ⟨(some 61),.len (.tmp 60),none,0⟩,
 ⟨(some 62),.bin .lss (.tmp 58) (.tmp 61),none,0⟩])
 (.cond (.tmp 62)
 .skip
 (.exit 0)))
 (.seq (.block 1 (.region 2 [(0,2),(1,2),(0,3),(1,3),(0,4),(1,4),(2,4),(3,4),(0,5),(1,5),(0,6),(1,6),(0,7),(1,7),(0,8),(1,8)] [
 ⟨(some 65),.faddr 6 (.tmp 12),none,0⟩,
 ⟨(some 66),.load none (.tmp 65),none,0⟩,
 ⟨(some 67),.faddr 6 (.tmp 4),none,0⟩,
 ⟨(some 68),.load none (.tmp 67),none,0⟩,
 ⟨(some 69),.mov (.tmp 13),none,0⟩,
 ⟨(some 70),.iaddr 1 (.tmp 68) (.tmp 69),none,0⟩,
 ⟨(some 71),.load none (.tmp 70),none,0⟩,
 ⟨(some 72),.call 20 true [(.tmp 71)],none,0⟩,
 ⟨(some 73),.bslice 1 1 [.nils] [(0,(.tmp 72))],none,0⟩,
 ⟨(some 74),.append 1 24 (.tmp 66) (.tmp 73),none,1⟩,
 ⟨(some 75),.faddr 6 (.tmp 12),none,2⟩,
 ⟨none,.store none (.tmp 75) (.tmp 74),none,2⟩]))
 (.region 0 [] [
 ⟨(some 63),.mov (.tmp 13),none,0⟩,
 ⟨(some 64),.bin .add (.tmp 63) (.cst (.c (.int .i64 1))),none,0⟩,
 ⟨(some 13),.mov (.tmp 64),none,0⟩]))))))
 (.seq (.region 0 [(0,2),(1,2),(0,3),(1,3),(0,4),(1,4),(0,6),(1,6),(2,6),(3,6),(4,6),(5,6),(0,7),(1,7),(2,7),(3,7),(4,7),(5,7),(0,8),(1,8),(2,8),(3,8),(4,8),(5,8),(0,9),(1,9),(2,9),(3,9),(4,9),(5,9),(6,9),(7,9),(8,9),(0,10),(1,10),(2,10),(3,10),(4,10),(5,10),(6,10),(7,10),(8,10),(0,11),(1,11),(2,11),(3,11),(4,11),(5,11),(6,11),(7,11),(8,11),(0,12),(1,12),(2,12),(3,12),(4,12),(5,12),(6,13),(7,13),(8,13),(9,13),(10,13),(11,13),(12,13)] [
 ⟨(some 76),.mov (.tmp 3),none,0⟩,
 ⟨(some 77),.conv .i64 (.tmp 76),none,0⟩,
 ⟨(some 78),.faddr 5 (.tmp 12),none,0⟩,
 ⟨(some 79),.load none (.tmp 78),none,0⟩,
 ⟨(some 80),.len (.tmp 79),none,0⟩,
 ⟨(some 81),.bin .rem (.tmp 77) (.tmp 80),none,0⟩,
 ⟨(some 82),.mov (.tmp 3),none,0⟩,
 ⟨(some 83),.conv .i64 (.tmp 82),none,0⟩,
 ⟨(some 84),.bin .quo (.tmp 83) (.cst (.c (.int .i64 4))),none,0⟩,
 ⟨(some 85),.faddr 5 (.tmp 12),none,0⟩,
 ⟨(some 86),.load none (.tmp 85),none,0⟩,
 ⟨(some 87),.len (.tmp 86),none,0⟩,
 ⟨(some 88),.bin .rem (.tmp 84) (.tmp 87),none,0⟩,
 ⟨(some 14),.mov (.tmp 81),none,0⟩,
 ⟨(some 15),.mov (.tmp 88),none,0⟩])
 (.seq (.region 0 [(0,2),(1,2),(0,3),(1,3),(2,3),(0,4),(1,4),(2,4),(0,5),(1,5),(2,5),(3,5),(4,5),(0,6),(1,6),(2,6),(0,7),(1,7),(2,7),(0,8),(1,8),(2,8),(0,9),(1,9),(2,9),(3,9),(4,9),(5,9),(6,9),(7,9),(8,9),(0,10),(1,10),(2,10),(3,10),(4,10),(5,10),(6,10),(7,10),(8,10),(0,11),(1,11),(2,11),(3,11),(4,11),(5,11),(6,11),(7,11),(8,11),(0,12),(1,12),(2,12),(0,13),(1,13),(2,13)] [
 ⟨(some 89),.faddr 5 (.tmp 12),none,0⟩,
 ⟨(some 90),.load none (.tmp 89),none,0⟩,
 ⟨(some 91),.mov (.tmp 14),none,0⟩,
 ⟨(some 92),.faddr 5 (.tmp 12),none,0⟩,
 ⟨(some 93),.load none (.tmp 92),none,0⟩,
 ⟨(some 94),.mov (.tmp 14),none,0⟩,
 ⟨(some 95),.iaddr 3 (.tmp 93) (.tmp 94),none,0⟩,
 ⟨(some 96),.faddr 2 (.tmp 95),none,0⟩,
 ⟨(some 97),.load none (.tmp 96),none,0⟩,
 ⟨(some 98),.mov (.tmp 3),none,0⟩,
 ⟨(some 99),.conv .i64 (.tmp 98),none,0⟩,
 ⟨(some 100),.bin .rem (.tmp 99) (.cst (.c (.int .i64 5))),none,0⟩,
 ⟨(some 101),.bin .sub (.tmp 97) (.tmp 100),none,0⟩,
 ⟨(some 102),.mm true (.cst (.c (.int .i64 0))) (.tmp 101),none,0⟩,
 ⟨(some 103),.iaddr 3 (.tmp 90) (.tmp 91),none,0⟩,
 ⟨(some 104),.faddr 2 (.tmp 103),none,0⟩,
 ⟨none,.store none (.tmp 104) (.tmp 102),none,0⟩])
 (.seq (.region 0 [(0,2),(1,2),(0,5),(1,5),(2,5),(3,5),(4,5),(0,6),(1,6),(2,6),(3,6),(4,6),(5,6),(0,7),(1,7),(2,7),(3,7),(4,7),(5,7),(0,8),(1,8),(2,8),(3,8),(4,8),(5,8),(6,8),(7,8),(0,9),(1,9),(2,9),(3,9),(4,9),(5,9),(0,10),(1,10),(2,10),(3,10),(4,10),(5,10),(0,11),(1,11),(2,11),(3,11),(4,11),(5,11),(6,11),(7,11),(8,11),(9,11),(10,11),(0,12),(1,12),(2,12),(3,12),(4,12),(5,12),(0,13),(1,13),(2,13),(3,13),(4,13),(5,13),(0,14),(1,14),(2,14),(3,14),(4,14),(5,14),(6,14),(7,14),(8,14),(9,14),(10,14),(11,14),(12,14),(13,14),(0,15),(1,15),(2,15),(3,15),(4,15),(5,15),(6,15),(7,15),(8,15),(9,15),(10,15),(11,15),(12,15),(13,15),(0,16),(1,16),(2,16),(3,16),(4,16),(5,16),(6,16),(7,16),(8,16),(9,16),(10,16),(11,16),(12,16),(13,16),(0,17),(1,17),(2,17),(3,17),(4,17),(5,17),(0,18),(1,18),(2,18),(3,18),(4,18),(5,18)] [
 ⟨(some 105),.faddr 6 (.tmp 12),none,0⟩,
 ⟨(some 106),.load none (.tmp 105),none,0⟩,
 ⟨(some 107),.mov (.tmp 14),none,0⟩,
 ⟨(some 108),.iaddr 1 (.tmp 106) (.tmp 107),none,0⟩,
 ⟨(some 109),.load none (.tmp 108),none,0⟩,
 ⟨(some 110),.mov (.tmp 15),none,0⟩,
 ⟨(some 111),.faddr 6 (.tmp 12),none,0⟩,
 ⟨(some 112),.load none (.tmp 111),none,0⟩,
 ⟨(some 113),.mov (.tmp 14),none,0⟩,
 ⟨(some 114),.iaddr 1 (.tmp 112) (.tmp 113),none,0⟩,
 ⟨(some 115),.load none (.tmp 114),none,0⟩,
 ⟨(some 116),.mov (.tmp 15),none,0⟩,
 ⟨(some 117),.iaddr 1 (.tmp 115) (.tmp 116),none,0⟩,
 ⟨(some 118),.load none (.tmp 117),none,0⟩,
 ⟨(some 119),.mov (.tmp 3),none,0⟩,
 ⟨(some 120),.conv .i64 (.tmp 119),none,0⟩,
 ⟨(some 121),.bin .rem (.tmp 120) (.cst (.c (.int .i64 7))),none,0⟩,
 ⟨(some 122),.bin .sub (.tmp 118) (.tmp 121),none,0⟩,
 ⟨(some 123),.mm true (.cst (.c (.int .i64 0))) (.tmp 122),none,0⟩,
 ⟨(some 124),.iaddr 1 (.tmp 109) (.tmp 110),none,0⟩,
 ⟨none,.store none (.tmp 124) (.tmp 123),none,0⟩])
 (.seq (.region 0 [] [
 ⟨(some 126),.load (some 7) (.tmp 4),none,0⟩,
 ⟨(some 127),.call 19 true [(.tmp 126)],none,0⟩,
 ⟨(some 128),.mov (.tmp 9),none,0⟩,
 ⟨(some 129),.call 20 true [(.tmp 128)],none,0⟩,
 ⟨(some 130),.mov (.tmp 10),none,0⟩,
 ⟨(some 131),.call 20 true [(.tmp 130)],none,0⟩,
 ⟨(some 132),.call 18 true [(.tmp 127),(.tmp 129),(.tmp 131)],none,0⟩,
 ⟨(some 125),.mov (.tmp 132),none,0⟩,
 ⟨(some 133),.extract 0 (.tmp 125),none,0⟩,
 ⟨(some 134),.extract 1 (.tmp 125),none,0⟩,
 ⟨(some 16),.mov (.tmp 133),none,0⟩,
 ⟨(some 17),.mov (.tmp 134),none,0⟩])
 (.seq (.region 0 [] [
 ⟨(some 136),.load (some 7) (.tmp 11),none,0⟩,
 ⟨(some 137),.call 19 true [(.tmp 136)],none,0⟩,
 ⟨(some 138),.mov (.tmp 9),none,0⟩,
 ⟨(some 139),.call 20 true [(.tmp 138)],none,0⟩,
 ⟨(some 140),.mov (.tmp 10),none,0⟩,
 ⟨(some 141),.call 20 true [(.tmp 140)],none,0⟩,
 ⟨(some 142),.call 18 true [(.tmp 137),(.tmp 139),(.tmp 141)],none,0⟩,
 ⟨(some 135),.mov (.tmp 142),none,0⟩,
 ⟨(some 143),.extract 0 (.tmp 135),none,0⟩,
 ⟨(some 144),.extract 1 (.tmp 135),none,0⟩,
 ⟨(some 18),.mov (.tmp 143),none,0⟩,
 ⟨(some 19),.mov (.tmp 144),none,0⟩])
 (.seq (.region 0 [] [
 ⟨(some 146),.load (some 7) (.tmp 12),none,0⟩,
 ⟨(some 147),.call 19 true [(.tmp 146)],none,0⟩,
 ⟨(some 148),.mov (.tmp 9),none,0⟩,
 ⟨(some 149),.call 20 true [(.tmp 148)],none,0⟩,
 ⟨(some 150),.mov (.tmp 10),none,0⟩,
 ⟨(some 151),.call 20 true [(.tmp 150)],none,0⟩,
 ⟨(some 152),.call 18 true [(.tmp 147),(.tmp 149),(.tmp 151)],none,0⟩,
 ⟨(some 145),.mov (.tmp 152),none,0⟩,
 ⟨(some 153),.extract 0 (.tmp 145),none,0⟩,
 ⟨(some 154),.extract 1 (.tmp 145),none,0⟩,
 ⟨(some 20),.mov (.tmp 153),none,0⟩,
 ⟨(some 21),.mov (.tmp 154),none,0⟩])
 (.seq (.region 0 [] [
 ⟨(some 156),.load (some 7) (.tmp 4),none,0⟩,
 ⟨(some 157),.call 43 true [(.tmp 156)],none,0⟩,
 ⟨(some 155),.mov (.tmp 157),none,0⟩,
 ⟨(some 158),.extract 0 (.tmp 155),none,0⟩,
 ⟨(some 159),.extract 1 (.tmp 155),none,0⟩,
 ⟨(some 160),.extract 2 (.tmp 155),none,0⟩,
 ⟨(some 22),.mov (.tmp 158),none,0⟩,
 ⟨(some 23),.mov (.tmp 159),none,0⟩,
 ⟨(some 24),.mov (.tmp 160),none,0⟩])
 (.seq (.region 0 [] [
 ⟨(some 162),.load (some 7) (.tmp 11),none,0⟩,
 ⟨(some 163),.call 43 true [(.tmp 162)],none,0⟩,
 ⟨(some 161),.mov (.tmp 163),none,0⟩,
 ⟨(some 164),.extract 0 (.tmp 161),none,0⟩,
 ⟨(some 165),.extract 1 (.tmp 161),none,0⟩,
 ⟨(some 166),.extract 2 (.tmp 161),none,0⟩,
 ⟨(some 25),.mov (.tmp 164),none,0⟩,
 ⟨(some 26),.mov (.tmp 165),none,0⟩,
 ⟨(some 27),.mov (.tmp 166),none,0⟩])
 (.seq (.region 0 [] [
 ⟨(some 168),.load (some 7) (.tmp 12),none,0⟩,
 ⟨(some 169),.call 43 true [(.tmp 168)],none,0⟩,
 ⟨(some 167),.mov (.tmp 169),none,0⟩,
 ⟨(some 170),.extract 0 (.tmp 167),none,0⟩,
 ⟨(some 171),.extract 1 (.tmp 167),none,0⟩,
 ⟨(some 172),.extract 2 (.tmp 167),none,0⟩,
 ⟨(some 28),.mov (.tmp 170),none,0⟩,
 ⟨(some 29),.mov (.tmp 171),none,0⟩,
 ⟨(some 30),.mov (.tmp 172),none,0⟩])
 (.seq (.seq (.region 0 [] [
 ⟨(some 173),.mov (.tmp 24),none,0⟩,
 ⟨(some 174),.not (.tmp 173),none,0⟩,
 ⟨(some 175),.mov (.tmp 174),none,0⟩,
 ⟨(some 176),.mov (.tmp 27),some (175,false),0⟩,
 ⟨(some 177),.not (.tmp 176),some (175,false),0⟩,
 ⟨(some 178),.pick (.tmp 175) (.cst (.c (.bool true))) (.tmp 177),none,0⟩,
 ⟨(some 179),.mov (.tmp 178),none,0⟩,
 ⟨(some 180),.mov (.tmp 30),some (179,false),0⟩,
 ⟨(some 181),.not (.tmp 180),some (179,false),0⟩,
 ⟨(some 182),.pick (.tmp 179) (.cst (.c (.bool true))) (.tmp 181),none,0⟩,
 ⟨(some 183),.mov (.tmp 182),none,0⟩,
 ⟨(some 184),.mov (.tmp 25),some (183,false),0⟩,
 ⟨(some 185),.mov (.tmp 22),some (183,false),0⟩,
 ⟨(some 186),.bin .lss (.tmp 184) (.tmp 185),some (183,false),0⟩,
 ⟨(some 187),.pick (.tmp 183) (.cst (.c (.bool true))) (.tmp 186),none,0⟩,
 ⟨(some 188),.mov (.tmp 187),none,0⟩,
 ⟨(some 189),.mov (.tmp 28),some (188,false),0⟩,
 ⟨(some 190),.mov (.tmp 22),some (188,false),0⟩,
 ⟨(some 191),.bin .lss (.tmp 189) (.tmp 190),some (188,false),0⟩,
 ⟨(some 192),.pick (.tmp 188) (.cst (.c (.bool true))) (.tmp 191),none,0⟩])
 (.cond (.tmp 192)
 (.seq (.region 0 [] [
 ⟨(some 8),.mov (.cst (.c (.bool false))),none,0⟩])
 .ret)
 .skip))
 (.seq (.seq (.region 0 [] [
 ⟨(some 193),.mov (.tmp 17),none,0⟩,
 ⟨(some 194),.bin .neq (.tmp 193) (.cst (.c (.int .i64 0))),none,0⟩])
 (.cond (.tmp 194)
 (.seq (.region 0 [] [
 ⟨(some 195),.mov (.tmp 17),none,0⟩,
 ⟨(some 196),.bin .eql (.tmp 195) (.cst (.c (.int .i64 9))),none,0⟩,
 ⟨(some 197),.mov (.tmp 196),none,0⟩,
 ⟨(some 198),.call 17 true [],some (197,true),0⟩,
 ⟨(some 199),.pick (.tmp 197) (.tmp 198) (.cst (.c (.bool false))),none,0⟩,
 ⟨(some 8),.mov (.tmp 199),none,0⟩])
 .ret)
 .skip))
 (.seq (.seq (.region 0 [] [
 ⟨(some 200),.mov (.tmp 19),none,0⟩,
 ⟨(some 201),.bin .neq (.tmp 200) (.cst (.c (.int .i64 0))),none,0⟩,
 ⟨(some 202),.mov (.tmp 201),none,0⟩,
 ⟨(some 203),.mov (.tmp 21),some (202,false),0⟩,
 ⟨(some 204),.bin .neq (.tmp 203) (.cst (.c (.int .i64 0))),some (202,false),0⟩,
 ⟨(some 205),.pick (.tmp 202) (.cst (.c (.bool true))) (.tmp 204),none,0⟩,
 ⟨(some 206),.mov (.tmp 205),none,0⟩,
 ⟨(some 207),.mov (.tmp 16),some (206,false),0⟩,
 ⟨(some 208),.len (.tmp 207),some (206,false),0⟩,
 ⟨(some 209),.faddr 0 (.tmp 4),some (206,false),0⟩,
 ⟨(some 210),.load none (.tmp 209),some (206,false),0⟩,
 ⟨(some 211),.bin .add (.tmp 210) (.cst (.c (.int .i64 1))),some (206,false),0⟩,
 ⟨(some 212),.bin .neq (.tmp 208) (.tmp 211),some (206,false),0⟩,
 ⟨(some 213),.pick (.tmp 206) (.cst (.c (.bool true))) (.tmp 212),none,0⟩,
 ⟨(some 214),.mov (.tmp 213),none,0⟩,
 ⟨(some 215),.mov (.tmp 18),some (214,false),0⟩,
 ⟨(some 216),.len (.tmp 215),some (214,false),0⟩,
 ⟨(some 217),.mov (.tmp 16),some (214,false),0⟩,
 ⟨(some 218),.len (.tmp 217),some (214,false),0⟩,
 ⟨(some 219),.bin .neq (.tmp 216) (.tmp 218),some (214,false),0⟩,
 ⟨(some 220),.pick (.tmp 214) (.cst (.c (.bool true))) (.tmp 219),none,0⟩,
 ⟨(some 221),.mov (.tmp 220),none,0⟩,
 ⟨(some 222),.mov (.tmp 20),some (221,false),0⟩,
 ⟨(some 223),.len (.tmp 222),some (221,false),0⟩,
 ⟨(some 224),.mov (.tmp 16),some (221,false),0⟩,
 ⟨(some 225),.len (.tmp 224),some (221,false),0⟩,
 ⟨(some 226),.bin .neq (.tmp 223) (.tmp 225),some (221,false),0⟩,
 ⟨(some 227),.pick (.tmp 221) (.cst (.c (.bool true))) (.tmp 226),none,0⟩])
 (.cond (.tmp 227)
 (.seq (.region 0 [] [
 ⟨(some 8),.mov (.cst (.c (.bool false))),none,0⟩])
 .ret)
 .skip))
 (.seq (.seq (.region 0 [] [
 ⟨(some 31),.mov (.cst (.c (.int .i64 0))),none,0⟩])
 (.block 2 (.loop ⟨[8,228,229,230,231,232,233,234,235,236,237,238,239,240,241,242,243,244,245,246,247,248,249,250,251,252,253,254,255,256,257,258,259,260,261,262,263,264,265,266,267,268,269,270],false,[]⟩
 (.seq (.seq (.region 0 [] [
 ⟨(some 228),.mov (.tmp 31),none,0⟩,
 ⟨(some 229),.mov (.tmp 16),none,0⟩,
 ⟨(some 230),.len (.tmp 229),none,0⟩,
 ⟨(some 231),.bin .lss (.tmp 228) (.tmp 230),none,0⟩])
 (.cond (.tmp 231)
 .skip
 (.exit 2)))
 (.seq (.block 3 (.seq (.region 0 [(0,1),(0,5),(1,5),(2,5),(3,5),(4,5),(0,6),(1,6),(2,6),(3,6),(4,6),(5,6),(0,7),(1,7),(2,7),(3,7),(4,7),(0,8),(1,8),(2,8),(3,8),(4,8),(0,9),(1,9),(2,9),(3,9),(4,9),(12,13),(12,17),(13,17),(14,17),(15,17),(16,17),(12,18),(13,18),(14,18),(15,18),(16,18),(17,18),(12,19),(13,19),(14,19),(15,19),(16,19),(12,20),(13,20),(14,20),(15,20),(16,20),(12,21),(13,21),(14,21),(15,21),(16,21),(25,26),(25,30),(26,30),(27,30),(28,30),(29,30),(25,31),(26,31),(27,31),(28,31),(29,31),(30,31),(25,32),(26,32),(27,32),(28,32),(29,32),(25,33),(26,33),(27,33),(28,33),(29,33),(25,34),(26,34),(27,34),(28,34),(29,34)] [
 ⟨(some 234),.mov (.tmp 18),none,0⟩,
 ⟨(some 235),.mov (.tmp 31),none,0⟩,
 ⟨(some 236),.iaddr 3 (.tmp 234) (.tmp 235),none,0⟩,
 ⟨(some 237),.faddr 0 (.tmp 236),none,0⟩,
 ⟨(some 238),.load none (.tmp 237),none,0⟩,
 ⟨(some 239),.mov (.tmp 16),none,0⟩,
 ⟨(some 240),.mov (.tmp 31),none,0⟩,
 ⟨(some 241),.iaddr 3 (.tmp 239) (.tmp 240),none,0⟩,
 ⟨(some 242),.faddr 0 (.tmp 241),none,0⟩,
 ⟨(some 243),.load none (.tmp 242),none,0⟩,
 ⟨(some 244),.bin .lss (.tmp 238) (.tmp 243),none,0⟩,
 ⟨(some 245),.mov (.tmp 244),none,0⟩,
 ⟨(some 246),.mov (.tmp 20),some (245,false),0⟩,
 ⟨(some 247),.mov (.tmp 31),some (245,false),0⟩,
 ⟨(some 248),.iaddr 3 (.tmp 246) (.tmp 247),some (245,false),0⟩,
 ⟨(some 249),.faddr 0 (.tmp 248),some (245,false),0⟩,
 ⟨(some 250),.load none (.tmp 249),some (245,false),0⟩,
 ⟨(some 251),.mov (.tmp 16),some (245,false),0⟩,
 ⟨(some 252),.mov (.tmp 31),some (245,false),0⟩,
 ⟨(some 253),.iaddr 3 (.tmp 251) (.tmp 252),some (245,false),0⟩,
 ⟨(some 254),.faddr 0 (.tmp 253),some (245,false),0⟩,
 ⟨(some 255),.load none (.tmp 254),some (245,false),0⟩,
 ⟨(some 256),.bin .neq (.tmp 250) (.tmp 255),some (245,false),0⟩,
 ⟨(some 257),.pick (.tmp 245) (.cst (.c (.bool true))) (.tmp 256),none,0⟩,
 ⟨(some 258),.mov (.tmp 257),none,0⟩,
 ⟨(some 259),.mov (.tmp 20),some (258,false),0⟩,
 ⟨(some 260),.mov (.tmp 31),some (258,false),0⟩,
 ⟨(some 261),.iaddr 3 (.tmp 259) (.tmp 260),some (258,false),0⟩,
 ⟨(some 262),.faddr 2 (.tmp 261),some (258,false),0⟩,
 ⟨(some 263),.load none (.tmp 262),some (258,false),0⟩,
 ⟨(some 264),.mov (.tmp 16),some (258,false),0⟩,
 ⟨(some 265),.mov (.tmp 31),some (258,false),0⟩,
 ⟨(some 266),.iaddr 3 (.tmp 264) (.tmp 265),some (258,false),0⟩,
 ⟨(some 267),.faddr 2 (.tmp 266),some (258,false),0⟩,
 ⟨(some 268),.load none (.tmp 267),some (258,false),0⟩,
 ⟨(some 269),.bin .lss (.tmp 263) (.tmp 268),some (258,false),0⟩,
 ⟨(some 270),.pick (.tmp 258) (.cst (.c (.bool true))) (.tmp 269),none,0⟩])
 (.cond (.tmp 270)
 (.seq (.region 0 [] [
 ⟨(some 8),.mov (.cst (.c (.bool false))),none,0⟩])
 .ret)
 .skip)))
 (.region 0 [] [
 ⟨(some 232),.mov (.tmp 31),none,0⟩,
 ⟨(some 233),.bin .add (.tmp 232) (.cst (.c (.int .i64 1))),none,0⟩,
 ⟨(some 31),.mov (.tmp 233),none,0⟩]))))))
 (.seq (.region 0 [] [
 ⟨(some 271),.call 17 true [],none,0⟩,
 ⟨(some 8),.mov (.tmp 271),none,0⟩])
 .ret)))))))))))))))))))))⟩
/-- 12 isatis/isatislaw11.MoveWorth -/
def f12 : AFunc := ⟨103,[.tmp 6],false,
 (.seq (.region 1 [] [
 ⟨(some 3),.box (.tmp 0),none,0⟩,
 ⟨(some 6),.mov (.cst (.c (.bool false))),none,1⟩])
 (.seq (.seq (.region 0 [] [
 ⟨(some 17),.load (some 7) (.tmp 3),none,0⟩,
 ⟨(some 18),.call 37 true [(.tmp 17)],none,0⟩,
 ⟨(some 19),.not (.tmp 18),none,0⟩])
 (.cond (.tmp 19)
 (.seq (.region 0 [] [
 ⟨(some 20),.call 17 true [],none,0⟩,
 ⟨(some 6),.mov (.tmp 20),none,0⟩])
 .ret)
 .skip))
 (.seq (.region 0 [(0,2),(1,2),(0,3),(1,3),(0,4),(1,4),(0,6),(1,6),(2,6),(3,6),(4,6),(5,6),(0,7),(1,7),(2,7),(3,7),(4,7),(5,7),(6,7),(0,8),(1,8),(2,8),(3,8),(4,8),(5,8)] [
 ⟨(some 21),.mov (.tmp 1),none,0⟩,
 ⟨(some 22),.conv .i64 (.tmp 21),none,0⟩,
 ⟨(some 23),.faddr 5 (.tmp 3),none,0⟩,
 ⟨(some 24),.load none (.tmp 23),none,0⟩,
 ⟨(some 25),.len (.tmp 24),none,0⟩,
 ⟨(some 26),.bin .rem (.tmp 22) (.tmp 25),none,0⟩,
 ⟨(some 27),.load (some 7) (.tmp 3),none,0⟩,
 ⟨(some 28),.mov (.tmp 2),none,0⟩,
 ⟨(some 29),.call 40 true [(.tmp 27),(.tmp 28)],none,0⟩,
 ⟨(some 7),.mov (.tmp 26),none,0⟩,
 ⟨(some 8),.mov (.tmp 29),none,0⟩])
 (.seq (.region 0 [] [
 ⟨(some 31),.load (some 7) (.tmp 3),none,0⟩,
 ⟨(some 32),.call 19 true [(.tmp 31)],none,0⟩,
 ⟨(some 33),.mov (.tmp 7),none,0⟩,
 ⟨(some 34),.call 29 true [(.tmp 32),(.tmp 33)],none,0⟩,
 ⟨(some 30),.mov (.tmp 34),none,0⟩,
 ⟨(some 35),.extract 0 (.tmp 30),none,0⟩,
 ⟨(some 36),.extract 1 (.tmp 30),none,0⟩,
 ⟨(some 9),.mov (.tmp 35),none,0⟩,
 ⟨(some 10),.mov (.tmp 36),none,0⟩])
 (.seq (.region 0 [] [
 ⟨(some 38),.load (some 7) (.tmp 3),none,0⟩,
 ⟨(some 39),.call 19 true [(.tmp 38)],none,0⟩,
 ⟨(some 40),.call 27 true [(.tmp 39)],none,0⟩,
 ⟨(some 37),.mov (.tmp 40),none,0⟩,
 ⟨(some 41),.extract 0 (.tmp 37),none,0⟩,
 ⟨(some 42),.extract 1 (.tmp 37),none,0⟩,
 ⟨(some 43),.extract 2 (.tmp 37),none,0⟩,
 ⟨(some 11),.mov (.tmp 41),none,0⟩,
 ⟨(some 12),.mov (.tmp 42),none,0⟩,
 ⟨(some 13),.mov (.tmp 43),none,0⟩])
 (.seq (.region 0 [] [
 ⟨(some 45),.load (some 7) (.tmp 3),none,0⟩,
 ⟨(some 46),.call 19 true [(.tmp 45)],none,0⟩,
 ⟨(some 47),.mov (.tmp 8),none,0⟩,
 ⟨(some 48),.call 20 true [(.tmp 47)],none,0⟩,
 ⟨(some 49),.call 39 true [(.tmp 46),(.tmp 48)],none,0⟩,
 ⟨(some 44),.mov (.tmp 49),none,0⟩,
 ⟨(some 50),.extract 0 (.tmp 44),none,0⟩,
 ⟨(some 51),.extract 1 (.tmp 44),none,0⟩,
 ⟨(some 52),.extract 2 (.tmp 44),none,0⟩,
 ⟨(some 14),.mov (.tmp 50),none,0⟩,
 ⟨(some 15),.mov (.tmp 51),none,0⟩,
 ⟨(some 16),.mov (.tmp 52),none,0⟩])
 (.seq (.seq (.region 0 [] [
 ⟨(some 53),.mov (.tmp 10),none,0⟩,
 ⟨(some 54),.bin .neq (.tmp 53) (.cst (.c (.int .i64 0))),none,0⟩])
 (.cond (.tmp 54)
 (.seq (.region 0 [] [
 ⟨(some 55),.mov (.tmp 10),none,0⟩,
 ⟨(some 56),.bin .eql (.tmp 55) (.cst (.c (.int .i64 10))),none,0⟩,
 ⟨(some 57),.mov (.tmp 56),none,0⟩,
 ⟨(some 58),.mov (.tmp 8),some (57,true),0⟩,
 ⟨(some 59),.mov (.tmp 7),some (57,true),0⟩,
 ⟨(some 60),.call 42 true [(.tmp 58),(.tmp 59)],some (57,true),0⟩,
 ⟨(some 61),.mov (.tmp 60),some (57,true),0⟩,
 ⟨(some 62),.mov (.tmp 16),some (61,false),0⟩,
 ⟨(some 63),.bin .eql (.tmp 62) (.cst (.c (.int .i64 9))),some (61,false),0⟩,
 ⟨(some 64),.pick (.tmp 61) (.cst (.c (.bool true))) (.tmp 63),some (57,true),0⟩,
 ⟨(some 65),.pick (.tmp 57) (.tmp 64) (.cst (.c (.bool false))),none,0⟩,
 ⟨(some 66),.mov (.tmp 65),none,0⟩,
 ⟨(some 67),.call 17 true [],some (66,true),0⟩,
 ⟨(some 68),.pick (.tmp 66) (.tmp 67) (.cst (.c (.bool false))),none,0⟩,
 ⟨(some 6),.mov (.tmp 68),none,0⟩])
 .ret)
 .skip))
 (.seq (.region 0 [] [
 ⟨(some 69),.mov (.tmp 13),none,0⟩,
 ⟨(some 70),.bin .eql (.tmp 69) (.cst (.c (.int .i64 0))),none,0⟩,
 ⟨(some 71),.mov (.tmp 70),none,0⟩,
 ⟨(some 72),.mov (.tmp 9),some (71,true),0⟩,
 ⟨(some 73),.bin .geq (.tmp 72) (.cst (.c (.int .i64 0))),some (71,true),0⟩,
 ⟨(some 74),.pick (.tmp 71) (.tmp 73) (.cst (.c (.bool false))),none,0⟩,
 ⟨(some 75),.mov (.tmp 74),none,0⟩,
 ⟨(some 76),.mov (.tmp 11),some (75,true),0⟩,
 ⟨(some 77),.mov (.tmp 7),some (75,true),0⟩,
 ⟨(some 78),.call 42 true [(.tmp 76),(.tmp 77)],some (75,true),0⟩,
 ⟨(some 79),.mov (.tmp 78),some (75,true),0⟩,
 ⟨(some 80),.mov (.tmp 9),some (79,false),0⟩,
 ⟨(some 81),.bin .eql (.tmp 80) (.cst (.c (.int .i64 0))),some (79,false),0⟩,
 ⟨(some 82),.pick (.tmp 79) (.cst (.c (.bool true))) (.tmp 81),some (75,true),0⟩,
 ⟨(some 83),.pick (.tmp 75) (.tmp 82) (.cst (.c (.bool false))),none,0⟩,
 ⟨(some 84),.mov (.tmp 83),none,0⟩,
 ⟨(some 85),.mov (.tmp 8),some (84,true),0⟩,
 ⟨(some 86),.mov (.tmp 7),some (84,true),0⟩,
 ⟨(some 87),.call 42 true [(.tmp 85),(.tmp 86)],some (84,true),0⟩,
 ⟨(some 88),.mov (.tmp 87),some (84,true),0⟩,
 ⟨(some 89),.mov (.tmp 16),some (88,false),0⟩,
 ⟨(some 90),.bin .neq (.tmp 89) (.cst (.c (.int .i64 0))),some (88,false),0⟩,
 ⟨(some 91),.pick (.tmp 88) (.cst (.c (.bool true))) (.tmp 90),some (84,true),0⟩,
 ⟨(some 92),.mov (.tmp 91),some (84,true),0⟩,
 ⟨(some 93),.mov (.tmp 9),some (92,false),0⟩,
 ⟨(some 94),.mov (.tmp 12),some (92,false),0⟩,
 ⟨(some 95),.mov (.tmp 14),some (92,false),0⟩,
 ⟨(some 96),.bin .sub (.tmp 94) (.tmp 95),some (92,false),0⟩,
 ⟨(some 97),.bin .leq (.tmp 93) (.tmp 96),some (92,false),0⟩,
 ⟨(some 98),.pick (.tmp 92) (.cst (.c (.bool true))) (.tmp 97),some (84,true),0⟩,
 ⟨(some 99),.pick (.tmp 84) (.tmp 98) (.cst (.c (.bool false))),none,0⟩,
 ⟨(some 100),.mov (.tmp 99),none,0⟩,
 ⟨(some 101),.call 17 true [],some (100,true),0⟩,
 ⟨(some 102),.pick (.tmp 100) (.tmp 101) (.cst (.c (.bool false))),none,0⟩,
 ⟨(some 6),.mov (.tmp 102),none,0⟩])
 .ret))))))))⟩
/-- 13 isatis/isatislaw11.MoveLate | loop 0 vars [15] kill 16 makes true reify [(13,((some 6),1))] -/
def f13 : AFunc := ⟨197,[.tmp 6],false,
 (.seq (.region 1 [] [
 ⟨(some 3),.box (.tmp 0),none,0⟩,
 ⟨(some 6),.mov (.cst (.c (.bool false))),none,1⟩])
 (.seq (.seq (.region 0 [] [
 ⟨(some 29),.load (some 7) (.tmp 3),none,0⟩,
 ⟨(some 30),.call 37 true [(.tmp 29)],none,0⟩,
 ⟨(some 31),.not (.tmp 30),none,0⟩])
 (.cond (.tmp 31)
 (.seq (.region 0 [] [
 ⟨(some 32),.call 17 true [],none,0⟩,
 ⟨(some 6),.mov (.tmp 32),none,0⟩])
 .ret)
 .skip))
 (.seq (.region 0 [] [
 ⟨(some 33),.load (some 7) (.tmp 3),none,0⟩,
 ⟨(some 34),.mov (.tmp 1),none,0⟩,
 ⟨(some 35),.call 40 true [(.tmp 33),(.tmp 34)],none,0⟩,
 ⟨(some 7),.mov (.tmp 35),none,0⟩])
 (.seq (.region 0 [] [
 ⟨(some 37),.load (some 7) (.tmp 3),none,0⟩,
 ⟨(some 38),.call 19 true [(.tmp 37)],none,0⟩,
 ⟨(some 39),.call 28 true [(.tmp 38)],none,0⟩,
 ⟨(some 36),.mov (.tmp 39),none,0⟩,
 ⟨(some 40),.extract 0 (.tmp 36),none,0⟩,
 ⟨(some 41),.extract 1 (.tmp 36),none,0⟩,
 ⟨(some 8),.mov (.tmp 40),none,0⟩,
 ⟨(some 9),.mov (.tmp 41),none,0⟩])
 (.seq (.region 0 [] [
 ⟨(some 43),.load (some 7) (.tmp 3),none,0⟩,
 ⟨(some 44),.call 19 true [(.tmp 43)],none,0⟩,
 ⟨(some 45),.call 27 true [(.tmp 44)],none,0⟩,
 ⟨(some 42),.mov (.tmp 45),none,0⟩,
 ⟨(some 46),.extract 0 (.tmp 42),none,0⟩,
 ⟨(some 47),.extract 1 (.tmp 42),none,0⟩,
 ⟨(some 48),.extract 2 (.tmp 42),none,0⟩,
 ⟨(some 10),.mov (.tmp 46),none,0⟩,
 ⟨(some 11),.mov (.tmp 47),none,0⟩,
 ⟨(some 12),.mov (.tmp 48),none,0⟩])
 (.seq (.region 2 [(0,1),(0,2),(1,2),(0,3),(1,3),(2,3),(1,4)] [
 ⟨(some 49),.load (some 7) (.tmp 3),none,0⟩,
 ⟨(some 50),.load (some 7) (.tmp 3),none,0⟩,
 ⟨(some 13),.alloc [(.int .i64 0),(.int .i64 0),(.int .i64 0),(.int .i64 0),(.int .i64 0),.nils,.nils],none,0⟩,
 ⟨(some 14),.alloc [(.int .i64 0),(.int .i64 0),(.int .i64 0),(.int .i64 0),(.int .i64 0),.nils,.nils],none,1⟩,
 ⟨none,.store (some 7) (.tmp 13) (.tmp 49),none,2⟩,
 ⟨none,.store (some 7) (.tmp 14) (.tmp 50),none,2⟩])
 (.seq (.region 0 [] [
 ⟨(some 51),.faddr 6 (.tmp 13),none,0⟩,
 ⟨none,.store none (.tmp 51) (.cst (.c .nils)),none,0⟩])
 (.seq (.seq (.region 0 [] [
 ⟨(some 15),.mov (.cst (.c (.int .i64 0))),none,0⟩])
 (.block 0 (.loop ⟨[52,53,54,55,56,57,58,59,60,61,62,63,64,65,66,67],true,[(13,(some 6),1)]⟩
 (.seq (.seq (.region 0 [] [
 ⟨(some 52),.mov (.tmp 15),none,0⟩,
 ⟨(some 53),.faddr 5 (.tmp 3),none,0⟩,
 ⟨(some 54),.load none (.tmp 53),none,0⟩,
 ⟨(some 55),.len (.tmp 54),none,0⟩,
 ⟨(some 56),.bin .lss (.tmp 52) (.tmp 55),none,0⟩])
 (.cond (.tmp 56)
 .skip
 (.exit 0)))
 (.seq (.block 1 (.region 3 [(0,2),(1,2),(0,3),(1,3),(0,4),(1,4),(0,5),(1,5),(0,6),(1,6)] [
 ⟨(some 59),.faddr 6 (.tmp 13),none,0⟩,
 ⟨(some 60),.load none (.tmp 59),none,0⟩,
 ⟨(some 61),.faddr 5 (.tmp 3),none,0⟩,
 ⟨(some 62),.load none (.tmp 61),none,0⟩,
 ⟨(some 63),.len (.tmp 62),none,0⟩,
 ⟨(some 64),.mkslice 1 8 [(.int .i64 0)] (.tmp 63),none,0⟩,
 ⟨(some 65),.bslice 1 1 [.nils] [(0,(.tmp 64))],none,1⟩,
 ⟨(some 66),.append 1 24 (.tmp 60) (.tmp 65),none,2⟩,
 ⟨(some 67),.faddr 6 (.tmp 13),none,3⟩,
 ⟨none,.store none (.tmp 67) (.tmp 66),none,3⟩]))
 (.region 0 [] [
 ⟨(some 57),.mov (.tmp 15),none,0⟩,
 ⟨(some 58),.bin .add (.tmp 57) (.cst (.c (.int .i64 1))),none,0⟩,
 ⟨(some 15),.mov (.tmp 58),none,0⟩]))))))
 (.seq (.region 0 [(0,2),(1,2),(0,3),(1,3),(0,4),(1,4),(2,4),(3,4),(0,5),(1,5),(2,5),(3,5),(0,6),(1,6),(2,6),(3,6),(0,7),(1,7),(2,8),(3,8),(4,8),(5,8),(6,8),(7,8),(2,9),(3,9),(4,9),(5,9),(6,9),(7,9)] [
 ⟨(some 68),.faddr 6 (.tmp 13),none,0⟩,
 ⟨(some 69),.load none (.tmp 68),none,0⟩,
 ⟨(some 70),.mov (.tmp 2),none,0⟩,
 ⟨(some 71),.conv .i64 (.tmp 70),none,0⟩,
 ⟨(some 72),.faddr 5 (.tmp 3),none,0⟩,
 ⟨(some 73),.load none (.tmp 72),none,0⟩,
 ⟨(some 74),.len (.tmp 73),none,0⟩,
 ⟨(some 75),.bin .rem (.tmp 71) (.tmp 74),none,0⟩,
 ⟨(some 76),.faddr 6 (.tmp 14),none,0⟩,
 ⟨none,.store none (.tmp 76) (.tmp 69),none,0⟩,
 ⟨(some 77),.faddr 1 (.tmp 14),none,0⟩,
 ⟨none,.store none (.tmp 77) (.tmp 75),none,0⟩])
 (.seq (.region 0 [] [
 ⟨(some 79),.load (some 7) (.tmp 13),none,0⟩,
 ⟨(some 80),.call 19 true [(.tmp 79)],none,0⟩,
 ⟨(some 81),.call 27 true [(.tmp 80)],none,0⟩,
 ⟨(some 78),.mov (.tmp 81),none,0⟩,
 ⟨(some 82),.extract 0 (.tmp 78),none,0⟩,
 ⟨(some 83),.extract 1 (.tmp 78),none,0⟩,
 ⟨(some 84),.extract 2 (.tmp 78),none,0⟩,
 ⟨(some 16),.mov (.tmp 82),none,0⟩,
 ⟨(some 17),.mov (.tmp 83),none,0⟩,
 ⟨(some 18),.mov (.tmp 84),none,0⟩])
 (.seq (.region 0 [] [
 ⟨(some 86),.load (some 7) (.tmp 14),none,0⟩,
 ⟨(some 87),.call 19 true [(.tmp 86)],none,0⟩,
 ⟨(some 88),.call 27 true [(.tmp 87)],none,0⟩,
 ⟨(some 85),.mov (.tmp 88),none,0⟩,
 ⟨(some 89),.extract 0 (.tmp 85),none,0⟩,
 ⟨(some 90),.extract 1 (.tmp 85),none,0⟩,
 ⟨(some 91),.extract 2 (.tmp 85),none,0⟩,
 ⟨(some 19),.mov (.tmp 89),none,0⟩,
 ⟨(some 20),.mov (.tmp 90),none,0⟩,
 ⟨(some 21),.mov (.tmp 91),none,0⟩])
 (.seq (.region 0 [] [
 ⟨(some 93),.load (some 7) (.tmp 13),none,0⟩,
 ⟨(some 94),.call 19 true [(.tmp 93)],none,0⟩,
 ⟨(some 95),.call 33 true [(.tmp 94)],none,0⟩,
 ⟨(some 92),.mov (.tmp 95),none,0⟩,
 ⟨(some 96),.extract 0 (.tmp 92),none,0⟩,
 ⟨(some 97),.extract 1 (.tmp 92),none,0⟩,
 ⟨(some 22),.mov (.tmp 96),none,0⟩,
 ⟨(some 23),.mov (.tmp 97),none,0⟩])
 (.seq (.region 0 [] [
 ⟨(some 99),.load (some 7) (.tmp 14),none,0⟩,
 ⟨(some 100),.call 19 true [(.tmp 99)],none,0⟩,
 ⟨(some 101),.call 33 true [(.tmp 100)],none,0⟩,
 ⟨(some 98),.mov (.tmp 101),none,0⟩,
 ⟨(some 102),.extract 0 (.tmp 98),none,0⟩,
 ⟨(some 103),.extract 1 (.tmp 98),none,0⟩,
 ⟨(some 24),.mov (.tmp 102),none,0⟩,
 ⟨(some 25),.mov (.tmp 103),none,0⟩])
 (.seq (.seq (.region 0 [] [
 ⟨(some 104),.mov (.tmp 18),none,0⟩,
 ⟨(some 105),.mov (.tmp 21),none,0⟩,
 ⟨(some 106),.bin .neq (.tmp 104) (.tmp 105),none,0⟩,
 ⟨(some 107),.mov (.tmp 106),none,0⟩,
 ⟨(some 108),.mov (.tmp 17),some (107,false),0⟩,
 ⟨(some 109),.mov (.tmp 20),some (107,false),0⟩,
 ⟨(some 110),.bin .neq (.tmp 108) (.tmp 109),some (107,false),0⟩,
 ⟨(some 111),.pick (.tmp 107) (.cst (.c (.bool true))) (.tmp 110),none,0⟩,
 ⟨(some 112),.mov (.tmp 111),none,0⟩,
 ⟨(some 113),.mov (.tmp 16),some (112,false),0⟩,
 ⟨(some 114),.mov (.tmp 19),some (112,false),0⟩,
 ⟨(some 115),.call 31 true [(.tmp 113),(.tmp 114)],some (112,false),0⟩,
 ⟨(some 116),.not (.tmp 115),some (112,false),0⟩,
 ⟨(some 117),.pick (.tmp 112) (.cst (.c (.bool true))) (.tmp 116),none,0⟩,
 ⟨(some 118),.mov (.tmp 117),none,0⟩,
 ⟨(some 119),.mov (.tmp 23),some (118,false),0⟩,
 ⟨(some 120),.mov (.tmp 25),some (118,false),0⟩,
 ⟨(some 121),.bin .neq (.tmp 119) (.tmp 120),some (118,false),0⟩,
 ⟨(some 122),.pick (.tmp 118) (.cst (.c (.bool true))) (.tmp 121),none,0⟩,
 ⟨(some 123),.mov (.tmp 122),none,0⟩,
 ⟨(some 124),.mov (.tmp 22),some (123,false),0⟩,
 ⟨(some 125),.mov (.tmp 24),some (123,false),0⟩,
 ⟨(some 126),.bin .neq (.tmp 124) (.tmp 125),some (123,false),0⟩,
 ⟨(some 127),.pick (.tmp 123) (.cst (.c (.bool true))) (.tmp 126),none,0⟩])
 (.cond (.tmp 127)
 (.seq (.region 0 [] [
 ⟨(some 6),.mov (.cst (.c (.bool false))),none,0⟩])
 .ret)
 .skip))
 (.seq (.seq (.region 0 [] [
 ⟨(some 128),.mov (.tmp 12),none,0⟩,
 ⟨(some 129),.bin .neq (.tmp 128) (.cst (.c (.int .i64 0))),none,0⟩])
 (.cond (.tmp 129)
 (.seq (.region 0 [] [
 ⟨(some 130),.mov (.tmp 12),none,0⟩,
 ⟨(some 131),.bin .eql (.tmp 130) (.cst (.c (.int .i64 10))),none,0⟩,
 ⟨(some 132),.mov (.tmp 131),none,0⟩,
 ⟨(some 133),.mov (.tmp 9),some (132,true),0⟩,
 ⟨(some 134),.mov (.tmp 12),some (132,true),0⟩,
 ⟨(some 135),.bin .eql (.tmp 133) (.tmp 134),some (132,true),0⟩,
 ⟨(some 136),.pick (.tmp 132) (.tmp 135) (.cst (.c (.bool false))),none,0⟩,
 ⟨(some 137),.mov (.tmp 136),none,0⟩,
 ⟨(some 138),.call 17 true [],some (137,true),0⟩,
 ⟨(some 139),.pick (.tmp 137) (.tmp 138) (.cst (.c (.bool false))),none,0⟩,
 ⟨(some 6),.mov (.tmp 139),none,0⟩])
 .ret)
 .skip))
 (.seq (.region 0 [] [
 ⟨(some 141),.load (some 7) (.tmp 3),none,0⟩,
 ⟨(some 142),.call 19 true [(.tmp 141)],none,0⟩,
 ⟨(some 143),.mov (.tmp 7),none,0⟩,
 ⟨(some 144),.call 20 true [(.tmp 143)],none,0⟩,
 ⟨(some 145),.call 39 true [(.tmp 142),(.tmp 144)],none,0⟩,
 ⟨(some 140),.mov (.tmp 145),none,0⟩,
 ⟨(some 146),.extract 0 (.tmp 140),none,0⟩,
 ⟨(some 147),.extract 1 (.tmp 140),none,0⟩,
 ⟨(some 148),.extract 2 (.tmp 140),none,0⟩,
 ⟨(some 26),.mov (.tmp 146),none,0⟩,
 ⟨(some 27),.mov (.tmp 147),none,0⟩,
 ⟨(some 28),.mov (.tmp 148),none,0⟩])
 (.seq (.region 0 [] [
 ⟨(some 149),.mov (.tmp 9),none,0⟩,
 ⟨(some 150),.bin .eql (.tmp 149) (.cst (.c (.int .i64 0))),none,0⟩,
 ⟨(some 151),.mov (.tmp 150),none,0⟩,
 ⟨(some 152),.mov (.tmp 8),some (151,true),0⟩,
 ⟨(some 153),.faddr 0 (.tmp 3),some (151,true),0⟩,
 ⟨(some 154),.load none (.tmp 153),some (151,true),0⟩,
 ⟨(some 155),.bin .add (.tmp 154) (.cst (.c (.int .i64 1))),some (151,true),0⟩,
 ⟨(some 156),.bin .leq (.tmp 152) (.tmp 155),some (151,true),0⟩,
 ⟨(some 157),.pick (.tmp 151) (.tmp 156) (.cst (.c (.bool false))),none,0⟩,
 ⟨(some 158),.mov (.tmp 157),none,0⟩,
 ⟨(some 159),.mov (.tmp 8),some (158,true),0⟩,
 ⟨(some 160),.load (some 7) (.tmp 3),some (158,true),0⟩,
 ⟨(some 161),.mov (.tmp 10),some (158,true),0⟩,
 ⟨(some 162),.call 44 true [(.tmp 160),(.tmp 161)],some (158,true),0⟩,
 ⟨(some 163),.bin .geq (.tmp 159) (.tmp 162),some (158,true),0⟩,
 ⟨(some 164),.pick (.tmp 158) (.tmp 163) (.cst (.c (.bool false))),none,0⟩,
 ⟨(some 165),.mov (.tmp 164),none,0⟩,
 ⟨(some 166),.mov (.tmp 28),some (165,true),0⟩,
 ⟨(some 167),.bin .neq (.tmp 166) (.cst (.c (.int .i64 0))),some (165,true),0⟩,
 ⟨(some 168),.mov (.tmp 167),some (165,true),0⟩,
 ⟨(some 169),.mov (.tmp 26),some (168,false),0⟩,
 ⟨(some 170),.mov (.tmp 11),some (168,false),0⟩,
 ⟨(some 171),.bin .lss (.tmp 169) (.tmp 170),some (168,false),0⟩,
 ⟨(some 172),.pick (.tmp 168) (.cst (.c (.bool true))) (.tmp 171),some (165,true),0⟩,
 ⟨(some 173),.mov (.tmp 172),some (165,true),0⟩,
 ⟨(some 174),.mov (.tmp 8),some (173,false),0⟩,
 ⟨(some 175),.load (some 7) (.tmp 3),some (173,false),0⟩,
 ⟨(some 176),.mov (.tmp 7),some (173,false),0⟩,
 ⟨(some 177),.call 44 true [(.tmp 175),(.tmp 176)],some (173,false),0⟩,
 ⟨(some 178),.bin .geq (.tmp 174) (.tmp 177),some (173,false),0⟩,
 ⟨(some 179),.pick (.tmp 173) (.cst (.c (.bool true))) (.tmp 178),some (165,true),0⟩,
 ⟨(some 180),.pick (.tmp 165) (.tmp 179) (.cst (.c (.bool false))),none,0⟩,
 ⟨(some 181),.mov (.tmp 180),none,0⟩,
 ⟨(some 182),.faddr 5 (.tmp 3),some (181,true),0⟩,
 ⟨(some 183),.load none (.tmp 182),some (181,true),0⟩,
 ⟨(some 184),.len (.tmp 183),some (181,true),0⟩,
 ⟨(some 185),.bin .gtr (.tmp 184) (.cst (.c (.int .i64 1))),some (181,true),0⟩,
 ⟨(some 186),.mov (.tmp 185),some (181,true),0⟩,
 ⟨(some 187),.mov (.tmp 8),some (186,false),0⟩,
 ⟨(some 188),.faddr 0 (.tmp 3),some (186,false),0⟩,
 ⟨(some 189),.load none (.tmp 188),some (186,false),0⟩,
 ⟨(some 190),.bin .add (.tmp 189) (.cst (.c (.int .i64 1))),some (186,false),0⟩,
 ⟨(some 191),.bin .eql (.tmp 187) (.tmp 190),some (186,false),0⟩,
 ⟨(some 192),.pick (.tmp 186) (.cst (.c (.bool true))) (.tmp 191),some (181,true),0⟩,
 ⟨(some 193),.pick (.tmp 181) (.tmp 192) (.cst (.c (.bool false))),none,0⟩,
 ⟨(some 194),.mov (.tmp 193),none,0⟩,
 ⟨(some 195),.call 17 true [],some (194,true),0⟩,
 ⟨(some 196),.pick (.tmp 194) (.tmp 195) (.cst (.c (.bool false))),none,0⟩,
 ⟨(some 6),.mov (.tmp 196),none,0⟩])
 .ret)))))))))))))))))⟩
/-- 14 isatis/isatislaw11.MoveSures -/
def f14 : AFunc := ⟨103,[.tmp 6],false,
 (.seq (.region 1 [] [
 ⟨(some 3),.box (.tmp 0),none,0⟩,
 ⟨(some 6),.mov (.cst (.c (.bool false))),none,1⟩])
 (.seq (.seq (.region 0 [] [
 ⟨(some 15),.load (some 7) (.tmp 3),none,0⟩,
 ⟨(some 16),.call 16 true [(.tmp 15)],none,0⟩,
 ⟨(some 17),.not (.tmp 16),none,0⟩,
 ⟨(some 18),.mov (.tmp 17),none,0⟩,
 ⟨(some 19),.mov (.tmp 1),some (18,false),0⟩,
 ⟨(some 20),.len (.tmp 19),some (18,false),0⟩,
 ⟨(some 21),.bin .gtr (.tmp 20) (.cst (.c (.int .i64 8))),some (18,false),0⟩,
 ⟨(some 22),.pick (.tmp 18) (.cst (.c (.bool true))) (.tmp 21),none,0⟩])
 (.cond (.tmp 22)
 (.seq (.region 0 [] [
 ⟨(some 23),.call 17 true [],none,0⟩,
 ⟨(some 6),.mov (.tmp 23),none,0⟩])
 .ret)
 .skip))
 (.seq (.region 0 [] [
 ⟨(some 25),.load (some 7) (.tmp 3),none,0⟩,
 ⟨(some 26),.call 19 true [(.tmp 25)],none,0⟩,
 ⟨(some 27),.mov (.tmp 1),none,0⟩,
 ⟨(some 28),.call 20 true [(.tmp 27)],none,0⟩,
 ⟨(some 29),.call 39 true [(.tmp 26),(.tmp 28)],none,0⟩,
 ⟨(some 24),.mov (.tmp 29),none,0⟩,
 ⟨(some 30),.extract 0 (.tmp 24),none,0⟩,
 ⟨(some 31),.extract 1 (.tmp 24),none,0⟩,
 ⟨(some 32),.extract 2 (.tmp 24),none,0⟩,
 ⟨(some 7),.mov (.tmp 30),none,0⟩,
 ⟨(some 8),.mov (.tmp 31),none,0⟩,
 ⟨(some 9),.mov (.tmp 32),none,0⟩])
 (.seq (.region 0 [] [
 ⟨(some 33),.load (some 7) (.tmp 3),none,0⟩,
 ⟨(some 34),.call 19 true [(.tmp 33)],none,0⟩,
 ⟨(some 35),.mov (.tmp 1),none,0⟩,
 ⟨(some 36),.call 20 true [(.tmp 35)],none,0⟩,
 ⟨(some 37),.mov (.tmp 2),none,0⟩,
 ⟨(some 38),.call 45 true [(.tmp 34),(.tmp 36),(.tmp 37)],none,0⟩,
 ⟨(some 10),.mov (.tmp 38),none,0⟩])
 (.seq (.region 0 [] [
 ⟨(some 39),.load (some 7) (.tmp 3),none,0⟩,
 ⟨(some 40),.call 21 true [(.tmp 39)],none,0⟩,
 ⟨(some 11),.mov (.tmp 40),none,0⟩])
 (.seq (.seq (.region 0 [] [
 ⟨(some 41),.mov (.tmp 11),none,0⟩,
 ⟨(some 42),.bin .eql (.tmp 41) (.cst (.c (.int .i64 0))),none,0⟩,
 ⟨(some 43),.mov (.tmp 42),none,0⟩,
 ⟨(some 44),.load (some 7) (.tmp 3),some (43,true),0⟩,
 ⟨(some 45),.mov (.tmp 1),some (43,true),0⟩,
 ⟨(some 46),.call 23 true [(.tmp 44),(.tmp 45)],some (43,true),0⟩,
 ⟨(some 47),.not (.tmp 46),some (43,true),0⟩,
 ⟨(some 48),.pick (.tmp 43) (.tmp 47) (.cst (.c (.bool false))),none,0⟩])
 (.cond (.tmp 48)
 (.region 0 [] [
 ⟨(some 11),.mov (.cst (.c (.int .i64 2))),none,0⟩])
 .skip))
 (.seq (.region 0 [] [
 ⟨(some 12),.mov (.cst (.c (.int .i64 0))),none,0⟩])
 (.seq (.region 0 [] [
 ⟨(some 13),.mov (.cst (.c .nils)),none,0⟩])
 (.seq (.seq (.region 0 [] [
 ⟨(some 49),.mov (.tmp 11),none,0⟩,
 ⟨(some 50),.bin .eql (.tmp 49) (.cst (.c (.int .i64 0))),none,0⟩])
 (.cond (.tmp 50)
 (.seq (.region 0 [] [
 ⟨(some 14),.mov (.cst (.c (.bool false))),none,0⟩])
 (.seq (.region 0 [] [
 ⟨(some 52),.load (some 7) (.tmp 3),none,0⟩,
 ⟨(some 53),.mov (.tmp 1),none,0⟩,
 ⟨(some 54),.call 46 true [(.tmp 52),(.tmp 53)],none,0⟩,
 ⟨(some 51),.mov (.tmp 54),none,0⟩,
 ⟨(some 55),.extract 0 (.tmp 51),none,0⟩,
 ⟨(some 56),.extract 1 (.tmp 51),none,0⟩,
 ⟨(some 57),.extract 2 (.tmp 51),none,0⟩,
 ⟨(some 12),.mov (.tmp 55),none,0⟩,
 ⟨(some 13),.mov (.tmp 56),none,0⟩,
 ⟨(some 14),.mov (.tmp 57),none,0⟩])
 (.seq (.region 0 [] [
 ⟨(some 58),.mov (.tmp 14),none,0⟩,
 ⟨(some 59),.not (.tmp 58),none,0⟩])
 (.cond (.tmp 59)
 (.region 0 [] [
 ⟨(some 11),.mov (.cst (.c (.int .i64 9))),none,0⟩])
 .skip))))
 .skip))
 (.seq (.seq (.region 0 [] [
 ⟨(some 60),.mov (.tmp 11),none,0⟩,
 ⟨(some 61),.bin .neq (.tmp 60) (.cst (.c (.int .i64 0))),none,0⟩])
 (.cond (.tmp 61)
 (.seq (.region 0 [] [
 ⟨(some 62),.mov (.tmp 9),none,0⟩,
 ⟨(some 63),.mov (.tmp 11),none,0⟩,
 ⟨(some 64),.bin .eql (.tmp 62) (.tmp 63),none,0⟩,
 ⟨(some 65),.mov (.tmp 64),none,0⟩,
 ⟨(some 66),.mov (.tmp 7),some (65,true),0⟩,
 ⟨(some 67),.bin .eql (.tmp 66) (.cst (.c (.int .i64 0))),some (65,true),0⟩,
 ⟨(some 68),.pick (.tmp 65) (.tmp 67) (.cst (.c (.bool false))),none,0⟩,
 ⟨(some 69),.mov (.tmp 68),none,0⟩,
 ⟨(some 70),.mov (.tmp 8),some (69,true),0⟩,
 ⟨(some 71),.len (.tmp 70),some (69,true),0⟩,
 ⟨(some 72),.bin .eql (.tmp 71) (.cst (.c (.int .i64 0))),some (69,true),0⟩,
 ⟨(some 73),.pick (.tmp 69) (.tmp 72) (.cst (.c (.bool false))),none,0⟩,
 ⟨(some 74),.mov (.tmp 73),none,0⟩,
 ⟨(some 75),.mov (.tmp 10),some (74,true),0⟩,
 ⟨(some 76),.not (.tmp 75),some (74,true),0⟩,
 ⟨(some 77),.pick (.tmp 74) (.tmp 76) (.cst (.c (.bool false))),none,0⟩,
 ⟨(some 78),.mov (.tmp 77),none,0⟩,
 ⟨(some 79),.call 17 true [],some (78,true),0⟩,
 ⟨(some 80),.pick (.tmp 78) (.tmp 79) (.cst (.c (.bool false))),none,0⟩,
 ⟨(some 6),.mov (.tmp 80),none,0⟩])
 .ret)
 .skip))
 (.seq (.region 0 [] [
 ⟨(some 81),.mov (.tmp 9),none,0⟩,
 ⟨(some 82),.bin .eql (.tmp 81) (.cst (.c (.int .i64 0))),none,0⟩,
 ⟨(some 83),.mov (.tmp 82),none,0⟩,
 ⟨(some 84),.mov (.tmp 7),some (83,true),0⟩,
 ⟨(some 85),.mov (.tmp 12),some (83,true),0⟩,
 ⟨(some 86),.bin .eql (.tmp 84) (.tmp 85),some (83,true),0⟩,
 ⟨(some 87),.pick (.tmp 83) (.tmp 86) (.cst (.c (.bool false))),none,0⟩,
 ⟨(some 88),.mov (.tmp 87),none,0⟩,
 ⟨(some 89),.mov (.tmp 8),some (88,true),0⟩,
 ⟨(some 90),.mov (.tmp 13),some (88,true),0⟩,
 ⟨(some 91),.call 31 true [(.tmp 89),(.tmp 90)],some (88,true),0⟩,
 ⟨(some 92),.pick (.tmp 88) (.tmp 91) (.cst (.c (.bool false))),none,0⟩,
 ⟨(some 93),.mov (.tmp 92),none,0⟩,
 ⟨(some 94),.mov (.tmp 10),some (93,true),0⟩,
 ⟨(some 95),.mov (.tmp 12),some (93,true),0⟩,
 ⟨(some 96),.mov (.tmp 2),some (93,true),0⟩,
 ⟨(some 97),.bin .geq (.tmp 95) (.tmp 96),some (93,true),0⟩,
 ⟨(some 98),.eqB false (.tmp 94) (.tmp 97),some (93,true),0⟩,
 ⟨(some 99),.pick (.tmp 93) (.tmp 98) (.cst (.c (.bool false))),none,0⟩,
 ⟨(some 100),.mov (.tmp 99),none,0⟩,
 ⟨(some 101),.call 17 true [],some (100,true),0⟩,
 ⟨(some 102),.pick (.tmp 100) (.tmp 101) (.cst (.c (.bool false))),none,0⟩,
 ⟨(some 6),.mov (.tmp 102),none,0⟩])
 .ret)))))))))))⟩
/-- 16 isatis/isatislaw11.Thin | loop 0 vars [3] kill 15 makes false -/
def f16 : AFunc := ⟨36,[.tmp 2],false,
 (.seq (.region 1 [] [
 ⟨(some 1),.box (.tmp 0),none,0⟩,
 ⟨(some 2),.mov (.cst (.c (.bool false))),none,1⟩])
 (.seq (.seq (.region 0 [] [
 ⟨(some 4),.faddr 5 (.tmp 1),none,0⟩,
 ⟨(some 5),.load none (.tmp 4),none,0⟩,
 ⟨(some 6),.len (.tmp 5),none,0⟩,
 ⟨(some 7),.bin .gtr (.tmp 6) (.cst (.c (.int .i64 6))),none,0⟩,
 ⟨(some 8),.mov (.tmp 7),none,0⟩,
 ⟨(some 9),.faddr 6 (.tmp 1),some (8,false),0⟩,
 ⟨(some 10),.load none (.tmp 9),some (8,false),0⟩,
 ⟨(some 11),.len (.tmp 10),some (8,false),0⟩,
 ⟨(some 12),.bin .gtr (.tmp 11) (.cst (.c (.int .i64 6))),some (8,false),0⟩,
 ⟨(some 13),.pick (.tmp 8) (.cst (.c (.bool true))) (.tmp 12),none,0⟩])
 (.cond (.tmp 13)
 (.seq (.region 0 [] [
 ⟨(some 2),.mov (.cst (.c (.bool false))),none,0⟩])
 .ret)
 .skip))
 (.seq (.seq (.region 0 [] [
 ⟨(some 3),.mov (.cst (.c (.int .i64 0))),none,0⟩])
 (.block 0 (.loop ⟨[2,14,15,16,17,18,19,20,21,22,23,24,25,26,27],false,[]⟩
 (.seq (.seq (.region 0 [] [
 ⟨(some 14),.mov (.tmp 3),none,0⟩,
 ⟨(some 15),.faddr 6 (.tmp 1),none,0⟩,
 ⟨(some 16),.load none (.tmp 15),none,0⟩,
 ⟨(some 17),.len (.tmp 16),none,0⟩,
 ⟨(some 18),.bin .lss (.tmp 14) (.tmp 17),none,0⟩])
 (.cond (.tmp 18)
 .skip
 (.exit 0)))
 (.seq (.block 1 (.seq (.region 0 [] [
 ⟨(some 21),.faddr 6 (.tmp 1),none,0⟩,
 ⟨(some 22),.load none (.tmp 21),none,0⟩,
 ⟨(some 23),.mov (.tmp 3),none,0⟩,
 ⟨(some 24),.iaddr 1 (.tmp 22) (.tmp 23),none,0⟩,
 ⟨(some 25),.load none (.tmp 24),none,0⟩,
 ⟨(some 26),.len (.tmp 25),none,0⟩,
 ⟨(some 27),.bin .gtr (.tmp 26) (.cst (.c (.int .i64 6))),none,0⟩])
 (.cond (.tmp 27)
 (.seq (.region 0 [] [
 ⟨(some 2),.mov (.cst (.c (.bool false))),none,0⟩])
 .ret)
 .skip)))
 (.region 0 [] [
 ⟨(some 19),.mov (.tmp 3),none,0⟩,
 ⟨(some 20),.bin .add (.tmp 19) (.cst (.c (.int .i64 1))),none,0⟩,
 ⟨(some 3),.mov (.tmp 20),none,0⟩]))))))
 (.seq (.region 0 [] [
 ⟨(some 28),.load (some 7) (.tmp 1),none,0⟩,
 ⟨(some 29),.call 49 true [(.tmp 28)],none,0⟩,
 ⟨(some 30),.bin .neq (.tmp 29) (.cst (.c (.int .i64 0))),none,0⟩,
 ⟨(some 31),.mov (.tmp 30),none,0⟩,
 ⟨(some 32),.load (some 7) (.tmp 1),some (31,false),0⟩,
 ⟨(some 33),.call 50 true [(.tmp 32)],some (31,false),0⟩,
 ⟨(some 34),.bin .leq (.tmp 33) (.cst (.c (.int .i64 256))),some (31,false),0⟩,
 ⟨(some 35),.pick (.tmp 31) (.cst (.c (.bool true))) (.tmp 34),none,0⟩,
 ⟨(some 2),.mov (.tmp 35),none,0⟩])
 .ret))))⟩
/-- 17 isatis/isatislaw11.awake -/
def f17 : AFunc := ⟨137,[.tmp 0],false,
 (.seq (.region 0 [] [
 ⟨(some 0),.mov (.cst (.c (.bool false))),none,0⟩])
 (.seq (.region 2 [] [
 ⟨(some 19),.call 47 true [(.cst (.c (.int .i64 10)))],none,0⟩,
 ⟨(some 20),.bslice 1 3 [(.int .i64 0)] [(0,(.cst (.c (.int .i64 0)))),(1,(.cst (.c (.int .i64 0)))),(2,(.cst (.c (.int .i64 1))))],none,0⟩,
 ⟨(some 21),.bslice 1 1 [(.int .i64 0)] [(0,(.cst (.c (.int .i64 2))))],none,1⟩,
 ⟨(some 22),.call 18 true [(.tmp 19),(.tmp 20),(.tmp 21)],none,2⟩,
 ⟨(some 18),.mov (.tmp 22),none,2⟩,
 ⟨(some 23),.extract 0 (.tmp 18),none,2⟩,
 ⟨(some 24),.extract 1 (.tmp 18),none,2⟩,
 ⟨(some 1),.mov (.tmp 23),none,2⟩,
 ⟨(some 2),.mov (.tmp 24),none,2⟩])
 (.seq (.region 1 [] [
 ⟨(some 26),.call 47 true [(.cst (.c (.int .i64 10)))],none,0⟩,
 ⟨(some 27),.bslice 1 3 [(.int .i64 0)] [(0,(.cst (.c (.int .i64 0)))),(1,(.cst (.c (.int .i64 1)))),(2,(.cst (.c (.int .i64 0))))],none,0⟩,
 ⟨(some 28),.call 39 true [(.tmp 26),(.tmp 27)],none,1⟩,
 ⟨(some 25),.mov (.tmp 28),none,1⟩,
 ⟨(some 29),.extract 0 (.tmp 25),none,1⟩,
 ⟨(some 30),.extract 1 (.tmp 25),none,1⟩,
 ⟨(some 31),.extract 2 (.tmp 25),none,1⟩,
 ⟨(some 3),.mov (.tmp 29),none,1⟩,
 ⟨(some 4),.mov (.tmp 30),none,1⟩,
 ⟨(some 5),.mov (.tmp 31),none,1⟩])
 (.seq (.region 0 [] [
 ⟨(some 33),.call 47 true [(.cst (.c (.int .i64 10)))],none,0⟩,
 ⟨(some 34),.call 27 true [(.tmp 33)],none,0⟩,
 ⟨(some 32),.mov (.tmp 34),none,0⟩,
 ⟨(some 35),.extract 0 (.tmp 32),none,0⟩,
 ⟨(some 36),.extract 1 (.tmp 32),none,0⟩,
 ⟨(some 37),.extract 2 (.tmp 32),none,0⟩,
 ⟨(some 6),.mov (.tmp 35),none,0⟩,
 ⟨(some 7),.mov (.tmp 36),none,0⟩,
 ⟨(some 8),.mov (.tmp 37),none,0⟩])
 (.seq (.region 0 [] [
 ⟨(some 39),.call 47 true [(.cst (.c (.int .i64 10)))],none,0⟩,
 ⟨(some 40),.call 33 true [(.tmp 39)],none,0⟩,
 ⟨(some 38),.mov (.tmp 40),none,0⟩,
 ⟨(some 41),.extract 0 (.tmp 38),none,0⟩,
 ⟨(some 42),.extract 1 (.tmp 38),none,0⟩,
 ⟨(some 9),.mov (.tmp 41),none,0⟩,
 ⟨(some 10),.mov (.tmp 42),none,0⟩])
 (.seq (.region 0 [] [
 ⟨(some 44),.call 47 true [(.cst (.c (.int .i64 10)))],none,0⟩,
 ⟨(some 45),.call 28 true [(.tmp 44)],none,0⟩,
 ⟨(some 43),.mov (.tmp 45),none,0⟩,
 ⟨(some 46),.extract 0 (.tmp 43),none,0⟩,
 ⟨(some 47),.extract 1 (.tmp 43),none,0⟩,
 ⟨(some 11),.mov (.tmp 46),none,0⟩,
 ⟨(some 12),.mov (.tmp 47),none,0⟩])
 (.seq (.region 0 [] [
 ⟨(some 49),.call 47 true [(.cst (.c (.int .i64 10)))],none,0⟩,
 ⟨(some 50),.call 29 true [(.tmp 49),(.cst (.c (.int .i64 0)))],none,0⟩,
 ⟨(some 48),.mov (.tmp 50),none,0⟩,
 ⟨(some 51),.extract 0 (.tmp 48),none,0⟩,
 ⟨(some 52),.extract 1 (.tmp 48),none,0⟩,
 ⟨(some 13),.mov (.tmp 51),none,0⟩,
 ⟨(some 14),.mov (.tmp 52),none,0⟩])
 (.seq (.region 2 [] [
 ⟨(some 54),.call 47 true [(.cst (.c (.int .i64 10)))],none,0⟩,
 ⟨(some 55),.bslice 1 1 [(.int .i64 0)] [(0,(.cst (.c (.int .i64 0))))],none,0⟩,
 ⟨(some 56),.bslice 1 1 [(.int .i64 0)] [(0,(.cst (.c (.int .i64 0))))],none,1⟩,
 ⟨(some 57),.call 34 true [(.tmp 54),(.tmp 55),(.tmp 56)],none,2⟩,
 ⟨(some 53),.mov (.tmp 57),none,2⟩,
 ⟨(some 58),.extract 0 (.tmp 53),none,2⟩,
 ⟨(some 59),.extract 1 (.tmp 53),none,2⟩,
 ⟨(some 60),.extract 2 (.tmp 53),none,2⟩,
 ⟨(some 15),.mov (.tmp 58),none,2⟩,
 ⟨(some 16),.mov (.tmp 59),none,2⟩,
 ⟨(some 17),.mov (.tmp 60),none,2⟩])
 (.seq (.region 2 [(8,11),(9,11),(10,11),(23,24),(32,33)] [
 ⟨(some 61),.mov (.tmp 2),none,0⟩,
 ⟨(some 62),.bin .eql (.tmp 61) (.cst (.c (.int .i64 0))),none,0⟩,
 ⟨(some 63),.mov (.tmp 62),none,0⟩,
 ⟨(some 64),.mov (.tmp 1),some (63,true),0⟩,
 ⟨(some 65),.len (.tmp 64),some (63,true),0⟩,
 ⟨(some 66),.bin .eql (.tmp 65) (.cst (.c (.int .i64 3))),some (63,true),0⟩,
 ⟨(some 67),.pick (.tmp 63) (.tmp 66) (.cst (.c (.bool false))),none,0⟩,
 ⟨(some 68),.mov (.tmp 67),none,0⟩,
 ⟨(some 69),.mov (.tmp 1),some (68,true),0⟩,
 ⟨(some 70),.iaddr 3 (.tmp 69) (.cst (.c (.int .i64 2))),some (68,true),0⟩,
 ⟨(some 71),.load (some 3) (.tmp 70),some (68,true),0⟩,
 ⟨(some 72),.call 48 true [(.cst (.c (.int .i64 15))),(.cst (.c (.int .i64 9))),(.cst (.c (.int .i64 44)))],some (68,true),0⟩,
 ⟨(some 73),.eqA false [(some .i64),(some .i64),(some .i64)] (.tmp 71) (.tmp 72),some (68,true),0⟩,
 ⟨(some 74),.pick (.tmp 68) (.tmp 73) (.cst (.c (.bool false))),none,0⟩,
 ⟨(some 75),.mov (.tmp 74),none,0⟩,
 ⟨(some 76),.mov (.tmp 5),some (75,true),0⟩,
 ⟨(some 77),.bin .eql (.tmp 76) (.cst (.c (.int .i64 0))),some (75,true),0⟩,
 ⟨(some 78),.pick (.tmp 75) (.tmp 77) (.cst (.c (.bool false))),none,0⟩,
 ⟨(some 79),.mov (.tmp 78),none,0⟩,
 ⟨(some 80),.mov (.tmp 3),some (79,true),0⟩,
 ⟨(some 81),.bin .eql (.tmp 80) (.cst (.c (.int .i64 29))),some (79,true),0⟩,
 ⟨(some 82),.pick (.tmp 79) (.tmp 81) (.cst (.c (.bool false))),none,0⟩,
 ⟨(some 83),.mov (.tmp 82),none,0⟩,
 ⟨(some 84),.mov (.tmp 4),some (83,true),0⟩,
 ⟨(some 85),.bslice 1 1 [(.int .i64 0)] [(0,(.cst (.c (.int .i64 1))))],some (83,true),0⟩,
 ⟨(some 86),.call 31 true [(.tmp 84),(.tmp 85)],some (83,true),1⟩,
 ⟨(some 87),.pick (.tmp 83) (.tmp 86) (.cst (.c (.bool false))),none,1⟩,
 ⟨(some 88),.mov (.tmp 87),none,1⟩,
 ⟨(some 89),.mov (.tmp 8),some (88,true),1⟩,
 ⟨(some 90),.bin .eql (.tmp 89) (.cst (.c (.int .i64 0))),some (88,true),1⟩,
 ⟨(some 91),.pick (.tmp 88) (.tmp 90) (.cst (.c (.bool false))),none,1⟩,
 ⟨(some 92),.mov (.tmp 91),none,1⟩,
 ⟨(some 93),.mov (.tmp 6),some (92,true),1⟩,
 ⟨(some 94),.bslice 1 3 [(.int .i64 0)] [(0,(.cst (.c (.int .i64 0)))),(1,(.cst (.c (.int .i64 0)))),(2,(.cst (.c (.int .i64 1))))],some (92,true),1⟩,
 ⟨(some 95),.call 31 true [(.tmp 93),(.tmp 94)],some (92,true),2⟩,
 ⟨(some 96),.pick (.tmp 92) (.tmp 95) (.cst (.c (.bool false))),none,2⟩,
 ⟨(some 97),.mov (.tmp 96),none,2⟩,
 ⟨(some 98),.mov (.tmp 7),some (97,true),2⟩,
 ⟨(some 99),.bin .eql (.tmp 98) (.cst (.c (.int .i64 34))),some (97,true),2⟩,
 ⟨(some 100),.pick (.tmp 97) (.tmp 99) (.cst (.c (.bool false))),none,2⟩,
 ⟨(some 101),.mov (.tmp 100),none,2⟩,
 ⟨(some 102),.mov (.tmp 10),some (101,true),2⟩,
 ⟨(some 103),.bin .eql (.tmp 102) (.cst (.c (.int .i64 0))),some (101,true),2⟩,
 ⟨(some 104),.pick (.tmp 101) (.tmp 103) (.cst (.c (.bool false))),none,2⟩,
 ⟨(some 105),.mov (.tmp 104),none,2⟩,
 ⟨(some 106),.mov (.tmp 9),some (105,true),2⟩,
 ⟨(some 107),.bin .eql (.tmp 106) (.cst (.c (.int .i64 34))),some (105,true),2⟩,
 ⟨(some 108),.pick (.tmp 105) (.tmp 107) (.cst (.c (.bool false))),none,2⟩,
 ⟨(some 109),.mov (.tmp 108),none,2⟩,
 ⟨(some 110),.mov (.tmp 12),some (109,true),2⟩,
 ⟨(some 111),.bin .eql (.tmp 110) (.cst (.c (.int .i64 0))),some (109,true),2⟩,
 ⟨(some 112),.pick (.tmp 109) (.tmp 111) (.cst (.c (.bool false))),none,2⟩,
 ⟨(some 113),.mov (.tmp 112),none,2⟩,
 ⟨(some 114),.mov (.tmp 11),some (113,true),2⟩,
 ⟨(some 115),.bin .eql (.tmp 114) (.cst (.c (.int .i64 2))),some (113,true),2⟩,
 ⟨(some 116),.pick (.tmp 113) (.tmp 115) (.cst (.c (.bool false))),none,2⟩,
 ⟨(some 117),.mov (.tmp 116),none,2⟩,
 ⟨(some 118),.mov (.tmp 14),some (117,true),2⟩,
 ⟨(some 119),.bin .eql (.tmp 118) (.cst (.c (.int .i64 0))),some (117,true),2⟩,
 ⟨(some 120),.pick (.tmp 117) (.tmp 119) (.cst (.c (.bool false))),none,2⟩,
 ⟨(some 121),.mov (.tmp 120),none,2⟩,
 ⟨(some 122),.mov (.tmp 13),some (121,true),2⟩,
 ⟨(some 123),.bin .eql (.tmp 122) (.cst (.c (.int .i64 26))),some (121,true),2⟩,
 ⟨(some 124),.pick (.tmp 121) (.tmp 123) (.cst (.c (.bool false))),none,2⟩,
 ⟨(some 125),.mov (.tmp 124),none,2⟩,
 ⟨(some 126),.mov (.tmp 17),some (125,true),2⟩,
 ⟨(some 127),.bin .eql (.tmp 126) (.cst (.c (.int .i64 0))),some (125,true),2⟩,
 ⟨(some 128),.pick (.tmp 125) (.tmp 127) (.cst (.c (.bool false))),none,2⟩,
 ⟨(some 129),.mov (.tmp 128),none,2⟩,
 ⟨(some 130),.mov (.tmp 15),some (129,true),2⟩,
 ⟨(some 131),.bin .eql (.tmp 130) (.cst (.c (.int .i64 0))),some (129,true),2⟩,
 ⟨(some 132),.pick (.tmp 129) (.tmp 131) (.cst (.c (.bool false))),none,2⟩,
 ⟨(some 133),.mov (.tmp 132),none,2⟩,
 ⟨(some 134),.mov (.tmp 16),some (133,true),2⟩,
 ⟨(some 135),.bin .eql (.tmp 134) (.cst (.c (.int .i64 39))),some (133,true),2⟩,
 ⟨(some 136),.pick (.tmp 133) (.tmp 135) (.cst (.c (.bool false))),none,2⟩,
 ⟨(some 0),.mov (.tmp 136),none,2⟩])
 .ret)))))))))⟩
/-- 18 isatis/move.Play -/
def f18 : AFunc := ⟨41,[.tmp 6,.tmp 7],false,
 (.seq (.region 1 [] [
 ⟨(some 3),.box (.tmp 0),none,0⟩,
 ⟨(some 6),.mov (.cst (.c .nils)),none,1⟩,
 ⟨(some 7),.mov (.cst (.c (.int .i64 0))),none,1⟩])
 (.seq (.seq (.region 0 [] [
 ⟨(some 12),.load (some 7) (.tmp 3),none,0⟩,
 ⟨(some 13),.call 22 true [(.tmp 12)],none,0⟩,
 ⟨(some 8),.mov (.tmp 13),none,0⟩])
 (.seq (.region 0 [] [
 ⟨(some 14),.mov (.tmp 8),none,0⟩,
 ⟨(some 15),.bin .neq (.tmp 14) (.cst (.c (.int .i64 0))),none,0⟩])
 (.cond (.tmp 15)
 (.seq (.region 0 [] [
 ⟨(some 16),.mov (.tmp 8),none,0⟩,
 ⟨(some 6),.mov (.cst (.c .nils)),none,0⟩,
 ⟨(some 7),.mov (.tmp 16),none,0⟩])
 .ret)
 .skip)))
 (.seq (.seq (.region 0 [] [
 ⟨(some 17),.load (some 7) (.tmp 3),none,0⟩,
 ⟨(some 18),.mov (.tmp 1),none,0⟩,
 ⟨(some 19),.call 51 true [(.tmp 17),(.tmp 18)],none,0⟩,
 ⟨(some 20),.not (.tmp 19),none,0⟩,
 ⟨(some 21),.mov (.tmp 20),none,0⟩,
 ⟨(some 22),.load (some 7) (.tmp 3),some (21,false),0⟩,
 ⟨(some 23),.mov (.tmp 2),some (21,false),0⟩,
 ⟨(some 24),.faddr 0 (.tmp 3),some (21,false),0⟩,
 ⟨(some 25),.load none (.tmp 24),some (21,false),0⟩,
 ⟨(some 26),.bin .add (.tmp 25) (.cst (.c (.int .i64 1))),some (21,false),0⟩,
 ⟨(some 27),.call 52 true [(.tmp 22),(.tmp 23),(.tmp 26)],some (21,false),0⟩,
 ⟨(some 28),.not (.tmp 27),some (21,false),0⟩,
 ⟨(some 29),.pick (.tmp 21) (.cst (.c (.bool true))) (.tmp 28),none,0⟩])
 (.cond (.tmp 29)
 (.seq (.region 0 [] [
 ⟨(some 6),.mov (.cst (.c .nils)),none,0⟩,
 ⟨(some 7),.mov (.cst (.c (.int .i64 2))),none,0⟩])
 .ret)
 .skip))
 (.seq (.region 1 [] [
 ⟨(some 31),.load (some 7) (.tmp 3),none,0⟩,
 ⟨(some 32),.mov (.tmp 1),none,0⟩,
 ⟨(some 33),.mov (.tmp 2),none,0⟩,
 ⟨(some 34),.call 53 true [(.tmp 31),(.tmp 32),(.tmp 33)],none,0⟩,
 ⟨(some 30),.mov (.tmp 34),none,0⟩,
 ⟨(some 35),.extract 0 (.tmp 30),none,0⟩,
 ⟨(some 36),.extract 1 (.tmp 30),none,0⟩,
 ⟨(some 37),.extract 2 (.tmp 30),none,0⟩,
 ⟨(some 10),.alloc [(.int .i64 0),(.int .i64 0),(.int .i64 0),(.int .i64 0),(.int .i64 0),(.int .i64 0),(.int .i64 0),(.int .i64 0),(.int .i64 0),(.int .i64 0),(.int .i64 0)],none,0⟩,
 ⟨(some 9),.mov (.tmp 35),none,1⟩,
 ⟨none,.store (some 11) (.tmp 10) (.tmp 36),none,1⟩,
 ⟨(some 11),.mov (.tmp 37),none,1⟩])
 (.seq (.seq (.region 0 [] [
 ⟨(some 38),.mov (.tmp 11),none,0⟩,
 ⟨(some 39),.not (.tmp 38),none,0⟩])
 (.cond (.tmp 39)
 (.seq (.region 0 [] [
 ⟨(some 6),.mov (.cst (.c .nils)),none,0⟩,
 ⟨(some 7),.mov (.cst (.c (.int .i64 9))),none,0⟩])
 .ret)
 .skip))
 (.seq (.region 0 [] [
 ⟨(some 40),.mov (.tmp 9),none,0⟩,
 ⟨(some 6),.mov (.tmp 40),none,0⟩,
 ⟨(some 7),.mov (.cst (.c (.int .i64 0))),none,0⟩])
 .ret))))))⟩
/-- 19 isatis/isatislaw11.Land | loop 0 vars [4] kill 25 makes true reify [(3,((some 5),3))] | loop 2 vars [6] kill 18 makes true reify [(3,((some 6),1))] -/
def f19 : AFunc := ⟨61,[.cell 2 (some 7)],false,
 (.seq (.region 2 [] [
 ⟨(some 1),.box (.tmp 0),none,0⟩,
 ⟨(some 2),.alloc [(.int .i64 0),(.int .i64 0),(.int .i64 0),(.int .i64 0),(.int .i64 0),.nils,.nils],none,1⟩])
 (.seq (.region 1 [] [
 ⟨(some 7),.faddr 0 (.tmp 1),none,0⟩,
 ⟨(some 8),.load none (.tmp 7),none,0⟩,
 ⟨(some 9),.faddr 1 (.tmp 1),none,0⟩,
 ⟨(some 10),.load none (.tmp 9),none,0⟩,
 ⟨(some 11),.faddr 2 (.tmp 1),none,0⟩,
 ⟨(some 12),.load none (.tmp 11),none,0⟩,
 ⟨(some 13),.faddr 3 (.tmp 1),none,0⟩,
 ⟨(some 14),.load none (.tmp 13),none,0⟩,
 ⟨(some 15),.faddr 4 (.tmp 1),none,0⟩,
 ⟨(some 16),.load none (.tmp 15),none,0⟩,
 ⟨(some 17),.build [(.int .i64 0),(.int .i64 0),(.int .i64 0),(.int .i64 0),(.int .i64 0),.nils,.nils] [(0,1,(.tmp 8)),(1,1,(.tmp 10)),(2,1,(.tmp 12)),(3,1,(.tmp 14)),(4,1,(.tmp 16))],none,0⟩,
 ⟨(some 3),.alloc [(.int .i64 0),(.int .i64 0),(.int .i64 0),(.int .i64 0),(.int .i64 0),.nils,.nils],none,0⟩,
 ⟨none,.store (some 7) (.tmp 3) (.tmp 17),none,1⟩])
 (.seq (.seq (.region 0 [] [
 ⟨(some 4),.mov (.cst (.c (.int .i64 0))),none,0⟩])
 (.block 0 (.loop ⟨[5,18,19,20,21,22,23,24,25,26,27,28,29,30,31,32,33,34,35,36,37,38,39,40,41],true,[(3,(some 5),3)]⟩
 (.seq (.seq (.region 0 [] [
 ⟨(some 18),.mov (.tmp 4),none,0⟩,
 ⟨(some 19),.faddr 5 (.tmp 1),none,0⟩,
 ⟨(some 20),.load none (.tmp 19),none,0⟩,
 ⟨(some 21),.len (.tmp 20),none,0⟩,
 ⟨(some 22),.bin .lss (.tmp 18) (.tmp 21),none,0⟩])
 (.cond (.tmp 22)
 .skip
 (.exit 0)))
 (.seq (.block 1 (.seq (.region 1 [] [
 ⟨(some 25),.faddr 5 (.tmp 1),none,0⟩,
 ⟨(some 26),.load none (.tmp 25),none,0⟩,
 ⟨(some 27),.mov (.tmp 4),none,0⟩,
 ⟨(some 28),.iaddr 3 (.tmp 26) (.tmp 27),none,0⟩,
 ⟨(some 29),.load (some 3) (.tmp 28),none,0⟩,
 ⟨(some 5),.alloc [(.int .i64 0),(.int .i64 0),(.int .i64 0)],none,0⟩,
 ⟨none,.store (some 3) (.tmp 5) (.tmp 29),none,1⟩])
 (.region 2 [] [
 ⟨(some 30),.faddr 5 (.tmp 3),none,0⟩,
 ⟨(some 31),.load none (.tmp 30),none,0⟩,
 ⟨(some 32),.faddr 0 (.tmp 5),none,0⟩,
 ⟨(some 33),.load none (.tmp 32),none,0⟩,
 ⟨(some 34),.faddr 1 (.tmp 5),none,0⟩,
 ⟨(some 35),.load none (.tmp 34),none,0⟩,
 ⟨(some 36),.faddr 2 (.tmp 5),none,0⟩,
 ⟨(some 37),.load none (.tmp 36),none,0⟩,
 ⟨(some 38),.build [(.int .i64 0),(.int .i64 0),(.int .i64 0)] [(0,1,(.tmp 33)),(1,1,(.tmp 35)),(2,1,(.tmp 37))],none,0⟩,
 ⟨(some 39),.bslice 3 1 [(.int .i64 0),(.int .i64 0),(.int .i64 0)] [(0,(.tmp 38))],none,0⟩,
 ⟨(some 40),.append 3 24 (.tmp 31) (.tmp 39),none,1⟩,
 ⟨(some 41),.faddr 5 (.tmp 3),none,2⟩,
 ⟨none,.store none (.tmp 41) (.tmp 40),none,2⟩])))
 (.region 0 [] [
 ⟨(some 23),.mov (.tmp 4),none,0⟩,
 ⟨(some 24),.bin .add (.tmp 23) (.cst (.c (.int .i64 1))),none,0⟩,
 ⟨(some 4),.mov (.tmp 24),none,0⟩]))))))
 (.seq (.seq (.region 0 [] [
 ⟨(some 6),.mov (.cst (.c (.int .i64 0))),none,0⟩])
 (.block 2 (.loop ⟨[42,43,44,45,46,47,48,49,50,51,52,53,54,55,56,57,58,59],true,[(3,(some 6),1)]⟩
 (.seq (.seq (.region 0 [] [
 ⟨(some 42),.mov (.tmp 6),none,0⟩,
 ⟨(some 43),.faddr 6 (.tmp 1),none,0⟩,
 ⟨(some 44),.load none (.tmp 43),none,0⟩,
 ⟨(some 45),.len (.tmp 44),none,0⟩,
 ⟨(some 46),.bin .lss (.tmp 42) (.tmp 45),none,0⟩])
 (.cond (.tmp 46)
 .skip
 (.exit 2)))
 (.seq (.block 3 (.region 2 [(0,2),(1,2),(0,3),(1,3),(0,4),(1,4),(2,4),(3,4),(0,5),(1,5),(0,6),(1,6),(0,7),(1,7),(0,8),(1,8)] [
 ⟨(some 49),.faddr 6 (.tmp 3),none,0⟩,
 ⟨(some 50),.load none (.tmp 49),none,0⟩,
 ⟨(some 51),.faddr 6 (.tmp 1),none,0⟩,
 ⟨(some 52),.load none (.tmp 51),none,0⟩,
 ⟨(some 53),.mov (.tmp 6),none,0⟩,
 ⟨(some 54),.iaddr 1 (.tmp 52) (.tmp 53),none,0⟩,
 ⟨(some 55),.load none (.tmp 54),none,0⟩,
 ⟨(some 56),.call 20 true [(.tmp 55)],none,0⟩,
 ⟨(some 57),.bslice 1 1 [.nils] [(0,(.tmp 56))],none,0⟩,
 ⟨(some 58),.append 1 24 (.tmp 50) (.tmp 57),none,1⟩,
 ⟨(some 59),.faddr 6 (.tmp 3),none,2⟩,
 ⟨none,.store none (.tmp 59) (.tmp 58),none,2⟩]))
 (.region 0 [] [
 ⟨(some 47),.mov (.tmp 6),none,0⟩,
 ⟨(some 48),.bin .add (.tmp 47) (.cst (.c (.int .i64 1))),none,0⟩,
 ⟨(some 6),.mov (.tmp 48),none,0⟩]))))))
 (.seq (.region 0 [] [
 ⟨(some 60),.load (some 7) (.tmp 3),none,0⟩,
 ⟨none,.store (some 7) (.tmp 2) (.tmp 60),none,0⟩])
 .ret)))))⟩
/-- 20 isatis/isatislaw11.list -/
def f20 : AFunc := ⟨6,[.tmp 2],false,
 (.seq (.region 0 [] [
 ⟨(some 2),.mov (.cst (.c .nils)),none,0⟩])
 (.seq (.region 2 [] [
 ⟨(some 3),.bslice 1 0 [(.int .i64 0)] [],none,0⟩,
 ⟨(some 4),.mov (.tmp 0),none,1⟩,
 ⟨(some 5),.append 1 8 (.tmp 3) (.tmp 4),none,1⟩,
 ⟨(some 2),.mov (.tmp 5),none,2⟩])
 .ret))⟩
/-- 21 isatis/isatislaw11.fault -/
def f21 : AFunc := ⟨5,[.tmp 2],false,
 (.seq (.region 1 [] [
 ⟨(some 1),.box (.tmp 0),none,0⟩,
 ⟨(some 2),.mov (.cst (.c (.int .i64 0))),none,1⟩])
 (.seq (.region 0 [] [
 ⟨(some 3),.load (some 7) (.tmp 1),none,0⟩,
 ⟨(some 4),.call 49 true [(.tmp 3)],none,0⟩,
 ⟨(some 2),.mov (.tmp 4),none,0⟩])
 .ret))⟩
/-- 22 isatis/move.CheckLand -/
def f22 : AFunc := ⟨66,[.tmp 2],false,
 (.seq (.region 1 [] [
 ⟨(some 1),.box (.tmp 0),none,0⟩,
 ⟨(some 2),.mov (.cst (.c (.int .i64 0))),none,1⟩])
 (.seq (.region 0 [] [
 ⟨(some 4),.load (some 7) (.tmp 1),none,0⟩,
 ⟨(some 5),.mkfn 54 (some (.tmp 4)) [],none,0⟩,
 ⟨(some 3),.mov (.tmp 5),none,0⟩])
 (.seq (.block 0 (.seq (.region 0 [] [
 ⟨(some 7),.faddr 0 (.tmp 1),none,0⟩,
 ⟨(some 8),.load none (.tmp 7),none,0⟩,
 ⟨(some 9),.bin .gtr (.tmp 8) (.cst (.c (.int .i64 4))),none,0⟩,
 ⟨(some 10),.mov (.tmp 9),none,0⟩,
 ⟨(some 11),.faddr 5 (.tmp 1),some (10,false),0⟩,
 ⟨(some 12),.load none (.tmp 11),some (10,false),0⟩,
 ⟨(some 13),.len (.tmp 12),some (10,false),0⟩,
 ⟨(some 14),.bin .gtr (.tmp 13) (.cst (.c (.int .i64 4))),some (10,false),0⟩,
 ⟨(some 15),.pick (.tmp 10) (.cst (.c (.bool true))) (.tmp 14),none,0⟩,
 ⟨(some 6),.mov (.tmp 15),none,0⟩])
 (.cond (.tmp 6)
 (.seq (.region 0 [] [
 ⟨(some 2),.mov (.cst (.c (.int .i64 3))),none,0⟩])
 .ret)
 (.seq (.region 0 [] [
 ⟨(some 17),.faddr 0 (.tmp 1),none,0⟩,
 ⟨(some 18),.load none (.tmp 17),none,0⟩,
 ⟨(some 19),.bin .lss (.tmp 18) (.cst (.c (.int .i64 0))),none,0⟩,
 ⟨(some 20),.mov (.tmp 19),none,0⟩,
 ⟨(some 21),.faddr 5 (.tmp 1),some (20,false),0⟩,
 ⟨(some 22),.load none (.tmp 21),some (20,false),0⟩,
 ⟨(some 23),.len (.tmp 22),some (20,false),0⟩,
 ⟨(some 24),.bin .eql (.tmp 23) (.cst (.c (.int .i64 0))),some (20,false),0⟩,
 ⟨(some 25),.pick (.tmp 20) (.cst (.c (.bool true))) (.tmp 24),none,0⟩,
 ⟨(some 26),.mov (.tmp 25),none,0⟩,
 ⟨(some 27),.load (some 7) (.tmp 1),some (26,false),0⟩,
 ⟨(some 28),.faddr 1 (.tmp 1),some (26,false),0⟩,
 ⟨(some 29),.load none (.tmp 28),some (26,false),0⟩,
 ⟨(some 30),.call 55 true [(.tmp 27),(.tmp 29)],some (26,false),0⟩,
 ⟨(some 31),.not (.tmp 30),some (26,false),0⟩,
 ⟨(some 32),.pick (.tmp 26) (.cst (.c (.bool true))) (.tmp 31),none,0⟩,
 ⟨(some 33),.mov (.tmp 32),none,0⟩,
 ⟨(some 34),.faddr 2 (.tmp 1),some (33,false),0⟩,
 ⟨(some 35),.load none (.tmp 34),some (33,false),0⟩,
 ⟨(some 36),.call 56 true [(.tmp 35),(.cst (.c (.int .i64 0))),(.cst (.c (.int .i64 999)))],some (33,false),0⟩,
 ⟨(some 37),.not (.tmp 36),some (33,false),0⟩,
 ⟨(some 38),.pick (.tmp 33) (.cst (.c (.bool true))) (.tmp 37),none,0⟩,
 ⟨(some 39),.mov (.tmp 38),none,0⟩,
 ⟨(some 40),.faddr 3 (.tmp 1),some (39,false),0⟩,
 ⟨(some 41),.load none (.tmp 40),some (39,false),0⟩,
 ⟨(some 42),.faddr 0 (.tmp 1),some (39,false),0⟩,
 ⟨(some 43),.load none (.tmp 42),some (39,false),0⟩,
 ⟨(some 44),.bin .add (.tmp 43) (.cst (.c (.int .i64 1))),some (39,false),0⟩,
 ⟨(some 45),.call 56 true [(.tmp 41),(.cst (.c (.int .i64 0))),(.tmp 44)],some (39,false),0⟩,
 ⟨(some 46),.not (.tmp 45),some (39,false),0⟩,
 ⟨(some 47),.pick (.tmp 39) (.cst (.c (.bool true))) (.tmp 46),none,0⟩,
 ⟨(some 48),.mov (.tmp 47),none,0⟩,
 ⟨(some 49),.faddr 4 (.tmp 1),some (48,false),0⟩,
 ⟨(some 50),.load none (.tmp 49),some (48,false),0⟩,
 ⟨(some 51),.call 56 true [(.tmp 50),(.cst (.c (.int .i64 1))),(.cst (.c (.int .i64 5)))],some (48,false),0⟩,
 ⟨(some 52),.not (.tmp 51),some (48,false),0⟩,
 ⟨(some 53),.pick (.tmp 48) (.cst (.c (.bool true))) (.tmp 52),none,0⟩,
 ⟨(some 54),.mov (.tmp 53),none,0⟩,
 ⟨(some 55),.faddr 5 (.tmp 1),some (54,false),0⟩,
 ⟨(some 56),.load none (.tmp 55),some (54,false),0⟩,
 ⟨(some 57),.mov (.tmp 3),some (54,false),0⟩,
 ⟨(some 58),.call 57 false [(.tmp 56),(.tmp 57)],some (54,false),0⟩,
 ⟨(some 59),.not (.tmp 58),some (54,false),0⟩,
 ⟨(some 60),.pick (.tmp 54) (.cst (.c (.bool true))) (.tmp 59),none,0⟩,
 ⟨(some 61),.mov (.tmp 60),none,0⟩,
 ⟨(some 62),.load (some 7) (.tmp 1),some (61,false),0⟩,
 ⟨(some 63),.call 58 true [(.tmp 62)],some (61,false),0⟩,
 ⟨(some 64),.not (.tmp 63),some (61,false),0⟩,
 ⟨(some 65),.pick (.tmp 61) (.cst (.c (.bool true))) (.tmp 64),none,0⟩,
 ⟨(some 16),.mov (.tmp 65),none,0⟩])
 (.cond (.tmp 16)
 (.seq (.region 0 [] [
 ⟨(some 2),.mov (.cst (.c (.int .i64 1))),none,0⟩])
 .ret)
 .skip)))))
 (.seq (.region 0 [] [
 ⟨(some 2),.mov (.cst (.c (.int .i64 0))),none,0⟩])
 .ret))))⟩
/-- 23 isatis/isatisref11.IsPlan -/
def f23 : AFunc := ⟨16,[.tmp 4],false,
 (.seq (.region 1 [] [
 ⟨(some 2),.box (.tmp 0),none,0⟩,
 ⟨(some 4),.mov (.cst (.c (.bool false))),none,1⟩])
 (.seq (.region 0 [] [
 ⟨(some 5),.mov (.tmp 1),none,0⟩,
 ⟨(some 6),.len (.tmp 5),none,0⟩,
 ⟨(some 7),.faddr 0 (.tmp 2),none,0⟩,
 ⟨(some 8),.load none (.tmp 7),none,0⟩,
 ⟨(some 9),.bin .add (.tmp 8) (.cst (.c (.int .i64 1))),none,0⟩,
 ⟨(some 10),.bin .eql (.tmp 6) (.tmp 9),none,0⟩,
 ⟨(some 11),.mov (.tmp 10),none,0⟩,
 ⟨(some 12),.load (some 7) (.tmp 2),some (11,true),0⟩,
 ⟨(some 13),.mov (.tmp 1),some (11,true),0⟩,
 ⟨(some 14),.call 36 true [(.tmp 12),(.tmp 13)],some (11,true),0⟩,
 ⟨(some 15),.pick (.tmp 11) (.tmp 14) (.cst (.c (.bool false))),none,0⟩,
 ⟨(some 4),.mov (.tmp 15),none,0⟩])
 .ret))⟩
/-- 24 isatis/isatisref11.IsWeather | loop 0 vars [7] kill 31 makes false -/
def f24 : AFunc := ⟨43,[.tmp 6],false,
 (.seq (.region 1 [] [
 ⟨(some 3),.box (.tmp 0),none,0⟩,
 ⟨(some 6),.mov (.cst (.c (.bool false))),none,1⟩])
 (.seq (.seq (.region 0 [] [
 ⟨(some 7),.mov (.cst (.c (.int .i64 0))),none,0⟩])
 (.block 0 (.loop ⟨[6,8,9,10,11,12,13,14,15,16,17,18,19,20,21,22,23,24,25,26,27,28,29,30,31,32,33,34,35,36,37],false,[]⟩
 (.seq (.seq (.region 0 [] [
 ⟨(some 8),.mov (.tmp 7),none,0⟩,
 ⟨(some 9),.mov (.tmp 1),none,0⟩,
 ⟨(some 10),.len (.tmp 9),none,0⟩,
 ⟨(some 11),.bin .lss (.tmp 8) (.tmp 10),none,0⟩])
 (.cond (.tmp 11)
 .skip
 (.exit 0)))
 (.seq (.block 1 (.seq (.region 0 [(0,1),(0,4),(1,4),(2,4),(3,4),(0,5),(1,5),(2,5),(3,5),(12,13),(12,16),(13,16),(14,16),(15,16),(12,17),(13,17),(14,17),(15,17),(16,17),(12,18),(13,18),(14,18),(15,18),(16,18),(12,19),(13,19),(14,19),(15,19),(12,20),(13,20),(14,20),(15,20)] [
 ⟨(some 14),.mov (.tmp 1),none,0⟩,
 ⟨(some 15),.mov (.tmp 7),none,0⟩,
 ⟨(some 16),.iaddr 1 (.tmp 14) (.tmp 15),none,0⟩,
 ⟨(some 17),.load none (.tmp 16),none,0⟩,
 ⟨(some 18),.mov (.tmp 2),none,0⟩,
 ⟨(some 19),.bin .sub (.tmp 18) (.cst (.c (.int .i64 1))),none,0⟩,
 ⟨(some 20),.call 32 true [(.tmp 17),(.cst (.c (.int .i64 0))),(.tmp 19)],none,0⟩,
 ⟨(some 21),.not (.tmp 20),none,0⟩,
 ⟨(some 22),.mov (.tmp 21),none,0⟩,
 ⟨(some 23),.mov (.tmp 7),some (22,false),0⟩,
 ⟨(some 24),.bin .gtr (.tmp 23) (.cst (.c (.int .i64 0))),some (22,false),0⟩,
 ⟨(some 25),.mov (.tmp 24),some (22,false),0⟩,
 ⟨(some 26),.mov (.tmp 1),some (25,true),0⟩,
 ⟨(some 27),.mov (.tmp 7),some (25,true),0⟩,
 ⟨(some 28),.iaddr 1 (.tmp 26) (.tmp 27),some (25,true),0⟩,
 ⟨(some 29),.load none (.tmp 28),some (25,true),0⟩,
 ⟨(some 30),.mov (.tmp 1),some (25,true),0⟩,
 ⟨(some 31),.mov (.tmp 7),some (25,true),0⟩,
 ⟨(some 32),.bin .sub (.tmp 31) (.cst (.c (.int .i64 1))),some (25,true),0⟩,
 ⟨(some 33),.iaddr 1 (.tmp 30) (.tmp 32),some (25,true),0⟩,
 ⟨(some 34),.load none (.tmp 33),some (25,true),0⟩,
 ⟨(some 35),.bin .leq (.tmp 29) (.tmp 34),some (25,true),0⟩,
 ⟨(some 36),.pick (.tmp 25) (.tmp 35) (.cst (.c (.bool false))),some (22,false),0⟩,
 ⟨(some 37),.pick (.tmp 22) (.cst (.c (.bool true))) (.tmp 36),none,0⟩])
 (.cond (.tmp 37)
 (.seq (.region 0 [] [
 ⟨(some 6),.mov (.cst (.c (.bool false))),none,0⟩])
 .ret)
 .skip)))
 (.region 0 [] [
 ⟨(some 12),.mov (.tmp 7),none,0⟩,
 ⟨(some 13),.bin .add (.tmp 12) (.cst (.c (.int .i64 1))),none,0⟩,
 ⟨(some 7),.mov (.tmp 13),none,0⟩]))))))
 (.seq (.region 0 [] [
 ⟨(some 38),.mov (.tmp 1),none,0⟩,
 ⟨(some 39),.len (.tmp 38),none,0⟩,
 ⟨(some 40),.faddr 3 (.tmp 3),none,0⟩,
 ⟨(some 41),.load none (.tmp 40),none,0⟩,
 ⟨(some 42),.bin .leq (.tmp 39) (.tmp 41),none,0⟩,
 ⟨(some 6),.mov (.tmp 42),none,0⟩])
 .ret)))⟩
/-- 25 isatis/isatisref11.Play | loop 0 vars [8,9,10] kill 36 makes true reify [(8,(none,3))] -/
def f25 : AFunc := ⟨48,[.tmp 6,.tmp 7],false,
 (.seq (.region 1 [] [
 ⟨(some 3),.box (.tmp 0),none,0⟩,
 ⟨(some 6),.mov (.cst (.c .nils)),none,1⟩,
 ⟨(some 7),.mov (.cst (.c (.bool false))),none,1⟩])
 (.seq (.region 0 [] [
 ⟨(some 8),.mov (.cst (.c .nils)),none,0⟩])
 (.seq (.region 0 [] [
 ⟨(some 13),.faddr 2 (.tmp 3),none,0⟩,
 ⟨(some 14),.load none (.tmp 13),none,0⟩,
 ⟨(some 9),.mov (.tmp 14),none,0⟩])
 (.seq (.seq (.region 0 [] [
 ⟨(some 10),.mov (.cst (.c (.int .i64 0))),none,0⟩])
 (.block 0 (.loop ⟨[6,7,11,12,15,16,17,18,19,20,21,22,23,24,25,26,27,28,29,30,31,32,33,34,35,36,37,38,39,40,41,42,43,44,45,46],true,[(8,none,3)]⟩
 (.seq (.seq (.region 0 [] [
 ⟨(some 15),.mov (.tmp 10),none,0⟩,
 ⟨(some 16),.mov (.tmp 1),none,0⟩,
 ⟨(some 17),.len (.tmp 16),none,0⟩,
 ⟨(some 18),.bin .lss (.tmp 15) (.tmp 17),none,0⟩])
 (.cond (.tmp 18)
 .skip
 (.exit 0)))
 (.seq (.block 1 (.seq (.region 0 [] [
 ⟨(some 21),.load (some 7) (.tmp 3),none,0⟩,
 ⟨(some 22),.mov (.tmp 1),none,0⟩,
 ⟨(some 23),.mov (.tmp 10),none,0⟩,
 ⟨(some 24),.call 59 true [(.tmp 21),(.tmp 22),(.tmp 23)],none,0⟩,
 ⟨(some 11),.mov (.tmp 24),none,0⟩])
 (.seq (.seq (.region 0 [] [
 ⟨(some 25),.mov (.tmp 11),none,0⟩,
 ⟨(some 26),.mov (.tmp 9),none,0⟩,
 ⟨(some 27),.bin .gtr (.tmp 25) (.tmp 26),none,0⟩])
 (.cond (.tmp 27)
 (.seq (.region 0 [] [
 ⟨(some 6),.mov (.cst (.c .nils)),none,0⟩,
 ⟨(some 7),.mov (.cst (.c (.bool false))),none,0⟩])
 .ret)
 .skip))
 (.seq (.region 0 [(0,1),(0,2),(1,2),(0,3),(1,3),(2,3),(0,4),(1,4),(2,4),(3,4),(0,5),(1,5),(2,5)] [
 ⟨(some 28),.load (some 7) (.tmp 3),none,0⟩,
 ⟨(some 29),.mov (.tmp 1),none,0⟩,
 ⟨(some 30),.mov (.tmp 10),none,0⟩,
 ⟨(some 31),.mov (.tmp 2),none,0⟩,
 ⟨(some 32),.mov (.tmp 10),none,0⟩,
 ⟨(some 33),.call 42 true [(.tmp 31),(.tmp 32)],none,0⟩,
 ⟨(some 34),.call 60 true [(.tmp 28),(.tmp 29),(.tmp 30),(.tmp 33)],none,0⟩,
 ⟨(some 12),.mov (.tmp 34),none,0⟩])
 (.seq (.region 0 [] [
 ⟨(some 35),.mov (.tmp 9),none,0⟩,
 ⟨(some 36),.mov (.tmp 12),none,0⟩,
 ⟨(some 37),.mov (.tmp 11),none,0⟩,
 ⟨(some 38),.bin .sub (.tmp 36) (.tmp 37),none,0⟩,
 ⟨(some 39),.bin .add (.tmp 35) (.tmp 38),none,0⟩,
 ⟨(some 9),.mov (.tmp 39),none,0⟩])
 (.region 2 [] [
 ⟨(some 40),.mov (.tmp 8),none,0⟩,
 ⟨(some 41),.mov (.tmp 12),none,0⟩,
 ⟨(some 42),.mov (.tmp 11),none,0⟩,
 ⟨(some 43),.mov (.tmp 9),none,0⟩,
 ⟨(some 44),.build [(.int .i64 0),(.int .i64 0),(.int .i64 0)] [(0,1,(.tmp 41)),(1,1,(.tmp 42)),(2,1,(.tmp 43))],none,0⟩,
 ⟨(some 45),.bslice 3 1 [(.int .i64 0),(.int .i64 0),(.int .i64 0)] [(0,(.tmp 44))],none,0⟩,
 ⟨(some 46),.append 3 24 (.tmp 40) (.tmp 45),none,1⟩,
 ⟨(some 8),.mov (.tmp 46),none,2⟩]))))))
 (.region 0 [] [
 ⟨(some 19),.mov (.tmp 10),none,0⟩,
 ⟨(some 20),.bin .add (.tmp 19) (.cst (.c (.int .i64 1))),none,0⟩,
 ⟨(some 10),.mov (.tmp 20),none,0⟩]))))))
 (.seq (.region 0 [] [
 ⟨(some 47),.mov (.tmp 8),none,0⟩,
 ⟨(some 6),.mov (.tmp 47),none,0⟩,
 ⟨(some 7),.mov (.cst (.c (.bool true))),none,0⟩])
 .ret)))))⟩
/-- 26 isatis/isatislaw11.years | loop 0 vars [5] kill 28 makes false -/
def f26 : AFunc := ⟨38,[.tmp 4],false,
 (.seq (.region 0 [] [
 ⟨(some 4),.mov (.cst (.c (.bool false))),none,0⟩])
 (.seq (.seq (.region 0 [] [
 ⟨(some 6),.mov (.tmp 0),none,0⟩,
 ⟨(some 7),.len (.tmp 6),none,0⟩,
 ⟨(some 8),.mov (.tmp 1),none,0⟩,
 ⟨(some 9),.len (.tmp 8),none,0⟩,
 ⟨(some 10),.bin .neq (.tmp 7) (.tmp 9),none,0⟩])
 (.cond (.tmp 10)
 (.seq (.region 0 [] [
 ⟨(some 4),.mov (.cst (.c (.bool false))),none,0⟩])
 .ret)
 .skip))
 (.seq (.seq (.region 0 [] [
 ⟨(some 5),.mov (.cst (.c (.int .i64 0))),none,0⟩])
 (.block 0 (.loop ⟨[4,11,12,13,14,15,16,17,18,19,20,21,22,23,24,25,26,27,28,29,30,31,32,33,34,35,36,37],false,[]⟩
 (.seq (.seq (.region 0 [] [
 ⟨(some 11),.mov (.tmp 5),none,0⟩,
 ⟨(some 12),.mov (.tmp 0),none,0⟩,
 ⟨(some 13),.len (.tmp 12),none,0⟩,
 ⟨(some 14),.bin .lss (.tmp 11) (.tmp 13),none,0⟩])
 (.cond (.tmp 14)
 .skip
 (.exit 0)))
 (.seq (.block 1 (.seq (.region 0 [(0,1),(0,4),(1,4),(2,4),(3,4),(0,5),(1,5),(2,5),(3,5),(4,5),(0,6),(1,6),(2,6),(3,6),(0,7),(1,7),(2,7),(3,7),(0,8),(1,8),(2,8),(3,8),(0,9),(1,9),(2,9),(3,9),(4,9),(5,9),(6,9),(7,9),(8,9),(0,10),(1,10),(2,10),(3,10),(4,10),(5,10),(6,10),(7,10),(8,10),(9,10),(0,11),(1,11),(2,11),(3,11),(4,11),(5,11),(6,11),(7,11),(8,11),(0,12),(1,12),(2,12),(3,12),(4,12),(5,12),(6,12),(7,12),(8,12),(0,13),(1,13),(2,13),(3,13),(4,13),(5,13),(6,13),(7,13),(8,13),(0,14),(1,14),(2,14),(3,14),(4,14),(5,14),(6,14),(7,14),(8,14),(9,14),(10,14),(11,14),(12,14),(13,14),(0,15),(1,15),(2,15),(3,15),(4,15),(5,15),(6,15),(7,15),(8,15),(9,15),(10,15),(11,15),(12,15),(13,15),(14,15),(0,16),(1,16),(2,16),(3,16),(4,16),(5,16),(6,16),(7,16),(8,16),(9,16),(10,16),(11,16),(12,16),(13,16),(0,17),(1,17),(2,17),(3,17),(4,17),(5,17),(6,17),(7,17),(8,17),(9,17),(10,17),(11,17),(12,17),(13,17),(0,18),(1,18),(2,18),(3,18),(4,18),(5,18),(6,18),(7,18),(8,18),(9,18),(10,18),(11,18),(12,18),(13,18),(0,19),(1,19),(2,19),(3,19)] [
 ⟨(some 17),.mov (.tmp 0),none,0⟩,
 ⟨(some 18),.mov (.tmp 5),none,0⟩,
 ⟨(some 19),.iaddr 3 (.tmp 17) (.tmp 18),none,0⟩,
 ⟨(some 20),.load (some 3) (.tmp 19),none,0⟩,
 ⟨(some 21),.mov (.tmp 1),none,0⟩,
 ⟨(some 22),.mov (.tmp 5),none,0⟩,
 ⟨(some 23),.iaddr 3 (.tmp 21) (.tmp 22),none,0⟩,
 ⟨(some 24),.faddr 0 (.tmp 23),none,0⟩,
 ⟨(some 25),.load none (.tmp 24),none,0⟩,
 ⟨(some 26),.mov (.tmp 1),none,0⟩,
 ⟨(some 27),.mov (.tmp 5),none,0⟩,
 ⟨(some 28),.iaddr 3 (.tmp 26) (.tmp 27),none,0⟩,
 ⟨(some 29),.faddr 1 (.tmp 28),none,0⟩,
 ⟨(some 30),.load none (.tmp 29),none,0⟩,
 ⟨(some 31),.mov (.tmp 1),none,0⟩,
 ⟨(some 32),.mov (.tmp 5),none,0⟩,
 ⟨(some 33),.iaddr 3 (.tmp 31) (.tmp 32),none,0⟩,
 ⟨(some 34),.faddr 2 (.tmp 33),none,0⟩,
 ⟨(some 35),.load none (.tmp 34),none,0⟩,
 ⟨(some 36),.build [(.int .i64 0),(.int .i64 0),(.int .i64 0)] [(0,1,(.tmp 25)),(1,1,(.tmp 30)),(2,1,(.tmp 35))],none,0⟩,
 ⟨(some 37),.eqA true [(some .i64),(some .i64),(some .i64)] (.tmp 20) (.tmp 36),none,0⟩])
 (.cond (.tmp 37)
 (.seq (.region 0 [] [
 ⟨(some 4),.mov (.cst (.c (.bool false))),none,0⟩])
 .ret)
 .skip)))
 (.region 0 [] [
 ⟨(some 15),.mov (.tmp 5),none,0⟩,
 ⟨(some 16),.bin .add (.tmp 15) (.cst (.c (.int .i64 1))),none,0⟩,
 ⟨(some 5),.mov (.tmp 16),none,0⟩]))))))
 (.seq (.region 0 [] [
 ⟨(some 4),.mov (.cst (.c (.bool true))),none,0⟩])
 .ret))))⟩
end Am.Mv
