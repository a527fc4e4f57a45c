/-
  A part of the proof: the texts CrTabA of this seat, joined.
-/
import Derived.Test.YtiblicjmmippnaaAmA
namespace Am.Cr
open Go Am
set_option maxRecDepth 100000
/-- 2 gosem.cut.init -/
def f2 : AFunc := ⟨1,[],false,
 (.region 0 [] [
 ⟨(some 0),.call 1 true [],none,0⟩])⟩
/-- 3 isatis/isatislaw02.CropPlays | loop 0 vars [11] kill 18 makes false -/
def f3 : AFunc := ⟨120,[.tmp 6],false,
 (.seq (.region 2 [] [
 ⟨(some 3),.box (.tmp 0),none,0⟩,
 ⟨(some 4),.box (.tmp 1),none,1⟩,
 ⟨(some 6),.mov (.cst (.c (.bool false))),none,2⟩])
 (.seq (.seq (.region 0 [] [
 ⟨(some 12),.load (some 9) (.tmp 3),none,0⟩,
 ⟨(some 13),.call 12 true [(.tmp 12)],none,0⟩,
 ⟨(some 14),.not (.tmp 13),none,0⟩,
 ⟨(some 15),.mov (.tmp 14),none,0⟩,
 ⟨(some 16),.faddr 0 (.tmp 4),some (15,false),0⟩,
 ⟨(some 17),.load none (.tmp 16),some (15,false),0⟩,
 ⟨(some 18),.len (.tmp 17),some (15,false),0⟩,
 ⟨(some 19),.bin .gtr (.tmp 18) (.cst (.c (.int .i64 14))),some (15,false),0⟩,
 ⟨(some 20),.pick (.tmp 15) (.cst (.c (.bool true))) (.tmp 19),none,0⟩,
 ⟨(some 21),.mov (.tmp 20),none,0⟩,
 ⟨(some 22),.faddr 1 (.tmp 4),some (21,false),0⟩,
 ⟨(some 23),.load none (.tmp 22),some (21,false),0⟩,
 ⟨(some 24),.len (.tmp 23),some (21,false),0⟩,
 ⟨(some 25),.bin .gtr (.tmp 24) (.cst (.c (.int .i64 14))),some (21,false),0⟩,
 ⟨(some 26),.pick (.tmp 21) (.cst (.c (.bool true))) (.tmp 25),none,0⟩,
 ⟨(some 27),.mov (.tmp 26),none,0⟩,
 ⟨(some 28),.mov (.tmp 2),some (27,false),0⟩,
 ⟨(some 29),.len (.tmp 28),some (27,false),0⟩,
 ⟨(some 30),.bin .gtr (.tmp 29) (.cst (.c (.int .i64 14))),some (27,false),0⟩,
 ⟨(some 31),.pick (.tmp 27) (.cst (.c (.bool true))) (.tmp 30),none,0⟩])
 (.cond (.tmp 31)
 (.seq (.region 0 [] [
 ⟨(some 32),.call 13 true [],none,0⟩,
 ⟨(some 6),.mov (.tmp 32),none,0⟩])
 .ret)
 .skip))
 (.seq (.region 0 [(0,2),(1,2),(0,4),(1,4),(2,4),(3,4),(8,9),(9,10)] [
 ⟨(some 34),.load (some 9) (.tmp 3),none,0⟩,
 ⟨(some 35),.call 15 true [(.tmp 34)],none,0⟩,
 ⟨(some 36),.load (some 2) (.tmp 4),none,0⟩,
 ⟨(some 37),.call 16 true [(.tmp 36)],none,0⟩,
 ⟨(some 38),.mov (.tmp 2),none,0⟩,
 ⟨(some 39),.call 17 true [(.tmp 38)],none,0⟩,
 ⟨(some 40),.call 14 true [(.tmp 35),(.tmp 37),(.tmp 39)],none,0⟩,
 ⟨(some 33),.mov (.tmp 40),none,0⟩,
 ⟨(some 41),.extract 0 (.tmp 33),none,0⟩,
 ⟨(some 42),.extract 1 (.tmp 33),none,0⟩,
 ⟨(some 7),.mov (.tmp 41),none,0⟩,
 ⟨(some 8),.mov (.tmp 42),none,0⟩])
 (.seq (.region 0 [(0,2),(1,2)] [
 ⟨(some 43),.load (some 9) (.tmp 3),none,0⟩,
 ⟨(some 44),.call 15 true [(.tmp 43)],none,0⟩,
 ⟨(some 45),.load (some 2) (.tmp 4),none,0⟩,
 ⟨(some 46),.call 16 true [(.tmp 45)],none,0⟩,
 ⟨(some 47),.call 18 true [(.tmp 44),(.tmp 46)],none,0⟩,
 ⟨(some 9),.mov (.tmp 47),none,0⟩])
 (.seq (.region 0 [] [
 ⟨(some 48),.load (some 9) (.tmp 3),none,0⟩,
 ⟨(some 49),.call 19 true [(.tmp 48)],none,0⟩,
 ⟨(some 10),.mov (.tmp 49),none,0⟩])
 (.seq (.seq (.region 0 [] [
 ⟨(some 50),.load (some 9) (.tmp 3),none,0⟩,
 ⟨(some 51),.call 15 true [(.tmp 50)],none,0⟩,
 ⟨(some 52),.call 20 true [(.tmp 51)],none,0⟩,
 ⟨(some 53),.mov (.tmp 10),none,0⟩,
 ⟨(some 54),.bin .neq (.tmp 52) (.tmp 53),none,0⟩,
 ⟨(some 55),.mov (.tmp 54),none,0⟩,
 ⟨(some 56),.mov (.tmp 9),some (55,false),0⟩,
 ⟨(some 57),.mov (.tmp 10),some (55,false),0⟩,
 ⟨(some 58),.bin .eql (.tmp 57) (.cst (.c (.int .i64 0))),some (55,false),0⟩,
 ⟨(some 59),.mov (.tmp 58),some (55,false),0⟩,
 ⟨(some 60),.load (some 9) (.tmp 3),some (59,true),0⟩,
 ⟨(some 61),.load (some 2) (.tmp 4),some (59,true),0⟩,
 ⟨(some 62),.call 21 true [(.tmp 60),(.tmp 61)],some (59,true),0⟩,
 ⟨(some 63),.pick (.tmp 59) (.tmp 62) (.cst (.c (.bool false))),some (55,false),0⟩,
 ⟨(some 64),.eqB true (.tmp 56) (.tmp 63),some (55,false),0⟩,
 ⟨(some 65),.pick (.tmp 55) (.cst (.c (.bool true))) (.tmp 64),none,0⟩])
 (.cond (.tmp 65)
 (.seq (.region 0 [] [
 ⟨(some 6),.mov (.cst (.c (.bool false))),none,0⟩])
 .ret)
 .skip))
 (.seq (.seq (.region 0 [] [
 ⟨(some 66),.mov (.tmp 10),none,0⟩,
 ⟨(some 67),.bin .eql (.tmp 66) (.cst (.c (.int .i64 0))),none,0⟩,
 ⟨(some 68),.mov (.tmp 67),none,0⟩,
 ⟨(some 69),.load (some 9) (.tmp 3),some (68,true),0⟩,
 ⟨(some 70),.load (some 2) (.tmp 4),some (68,true),0⟩,
 ⟨(some 71),.call 22 true [(.tmp 69),(.tmp 70)],some (68,true),0⟩,
 ⟨(some 72),.not (.tmp 71),some (68,true),0⟩,
 ⟨(some 73),.mov (.tmp 72),some (68,true),0⟩,
 ⟨(some 74),.load (some 9) (.tmp 3),some (73,false),0⟩,
 ⟨(some 75),.mov (.tmp 2),some (73,false),0⟩,
 ⟨(some 76),.call 23 true [(.tmp 74),(.tmp 75)],some (73,false),0⟩,
 ⟨(some 77),.not (.tmp 76),some (73,false),0⟩,
 ⟨(some 78),.pick (.tmp 73) (.cst (.c (.bool true))) (.tmp 77),some (68,true),0⟩,
 ⟨(some 79),.pick (.tmp 68) (.tmp 78) (.cst (.c (.bool false))),none,0⟩])
 (.cond (.tmp 79)
 (.region 0 [] [
 ⟨(some 10),.mov (.cst (.c (.int .i64 2))),none,0⟩])
 .skip))
 (.seq (.seq (.region 0 [] [
 ⟨(some 80),.mov (.tmp 10),none,0⟩,
 ⟨(some 81),.bin .neq (.tmp 80) (.cst (.c (.int .i64 0))),none,0⟩])
 (.cond (.tmp 81)
 (.seq (.region 0 [] [
 ⟨(some 82),.mov (.tmp 8),none,0⟩,
 ⟨(some 83),.mov (.tmp 10),none,0⟩,
 ⟨(some 84),.bin .eql (.tmp 82) (.tmp 83),none,0⟩,
 ⟨(some 85),.mov (.tmp 84),none,0⟩,
 ⟨(some 86),.mov (.tmp 7),some (85,true),0⟩,
 ⟨(some 87),.len (.tmp 86),some (85,true),0⟩,
 ⟨(some 88),.bin .eql (.tmp 87) (.cst (.c (.int .i64 0))),some (85,true),0⟩,
 ⟨(some 89),.pick (.tmp 85) (.tmp 88) (.cst (.c (.bool false))),none,0⟩,
 ⟨(some 90),.mov (.tmp 89),none,0⟩,
 ⟨(some 91),.call 13 true [],some (90,true),0⟩,
 ⟨(some 92),.pick (.tmp 90) (.tmp 91) (.cst (.c (.bool false))),none,0⟩,
 ⟨(some 6),.mov (.tmp 92),none,0⟩])
 .ret)
 .skip))
 (.seq (.seq (.region 0 [] [
 ⟨(some 93),.mov (.tmp 8),none,0⟩,
 ⟨(some 94),.bin .neq (.tmp 93) (.cst (.c (.int .i64 0))),none,0⟩,
 ⟨(some 95),.mov (.tmp 94),none,0⟩,
 ⟨(some 96),.mov (.tmp 7),some (95,false),0⟩,
 ⟨(some 97),.len (.tmp 96),some (95,false),0⟩,
 ⟨(some 98),.mov (.tmp 2),some (95,false),0⟩,
 ⟨(some 99),.len (.tmp 98),some (95,false),0⟩,
 ⟨(some 100),.bin .neq (.tmp 97) (.tmp 99),some (95,false),0⟩,
 ⟨(some 101),.pick (.tmp 95) (.cst (.c (.bool true))) (.tmp 100),none,0⟩])
 (.cond (.tmp 101)
 (.seq (.region 0 [] [
 ⟨(some 6),.mov (.cst (.c (.bool false))),none,0⟩])
 .ret)
 .skip))
 (.seq (.seq (.region 0 [] [
 ⟨(some 11),.mov (.cst (.c (.int .i64 0))),none,0⟩])
 (.block 0 (.loop ⟨[6,102,103,104,105,106,107,108,109,110,111,112,113,114,115,116,117,118],false,[]⟩
 (.seq (.seq (.region 0 [] [
 ⟨(some 102),.mov (.tmp 11),none,0⟩,
 ⟨(some 103),.mov (.tmp 7),none,0⟩,
 ⟨(some 104),.len (.tmp 103),none,0⟩,
 ⟨(some 105),.bin .lss (.tmp 102) (.tmp 104),none,0⟩])
 (.cond (.tmp 105)
 .skip
 (.exit 0)))
 (.seq (.block 1 (.seq (.region 0 [(0,1),(0,4),(1,4),(2,4),(3,4),(0,5),(1,5),(2,5),(3,5),(4,5),(0,6),(1,6),(2,6),(3,6),(4,6),(5,6),(0,7),(1,7),(2,7),(3,7),(4,7),(5,7),(6,7),(0,8),(1,8),(2,8),(3,8)] [
 ⟨(some 108),.mov (.tmp 7),none,0⟩,
 ⟨(some 109),.mov (.tmp 11),none,0⟩,
 ⟨(some 110),.iaddr 3 (.tmp 108) (.tmp 109),none,0⟩,
 ⟨(some 111),.load (some 3) (.tmp 110),none,0⟩,
 ⟨(some 112),.load (some 9) (.tmp 3),none,0⟩,
 ⟨(some 113),.load (some 2) (.tmp 4),none,0⟩,
 ⟨(some 114),.mov (.tmp 2),none,0⟩,
 ⟨(some 115),.mov (.tmp 11),none,0⟩,
 ⟨(some 116),.call 25 true [(.tmp 112),(.tmp 113),(.tmp 114),(.tmp 115)],none,0⟩,
 ⟨(some 117),.call 24 true [(.tmp 111),(.tmp 116)],none,0⟩,
 ⟨(some 118),.not (.tmp 117),none,0⟩])
 (.cond (.tmp 118)
 (.seq (.region 0 [] [
 ⟨(some 6),.mov (.cst (.c (.bool false))),none,0⟩])
 .ret)
 .skip)))
 (.region 0 [] [
 ⟨(some 106),.mov (.tmp 11),none,0⟩,
 ⟨(some 107),.bin .add (.tmp 106) (.cst (.c (.int .i64 1))),none,0⟩,
 ⟨(some 11),.mov (.tmp 107),none,0⟩]))))))
 (.seq (.region 0 [] [
 ⟨(some 119),.call 13 true [],none,0⟩,
 ⟨(some 6),.mov (.tmp 119),none,0⟩])
 .ret)))))))))))⟩
/-- 4 isatis/isatislaw02.CropMade | loop 0 vars [11,13,14,15] kill 72 makes false | loop 2 vars [12,16] kill 17 makes false | loop 4 vars [19,20] kill 13 makes false -/
def f4 : AFunc := ⟨202,[.tmp 6],false,
 (.seq (.region 1 [] [
 ⟨(some 3),.box (.tmp 0),none,0⟩,
 ⟨(some 6),.mov (.cst (.c (.bool false))),none,1⟩])
 (.seq (.seq (.region 0 [] [
 ⟨(some 21),.load (some 9) (.tmp 3),none,0⟩,
 ⟨(some 22),.call 26 true [(.tmp 21)],none,0⟩,
 ⟨(some 23),.not (.tmp 22),none,0⟩])
 (.cond (.tmp 23)
 (.seq (.region 0 [] [
 ⟨(some 24),.call 13 true [],none,0⟩,
 ⟨(some 6),.mov (.tmp 24),none,0⟩])
 .ret)
 .skip))
 (.seq (.region 1 [(0,1),(0,2),(0,3),(1,3),(2,3),(0,4),(1,4),(2,4),(0,5),(0,7),(1,7),(2,7),(3,7),(4,7),(5,7),(6,7)] [
 ⟨(some 25),.load (some 9) (.tmp 3),none,0⟩,
 ⟨(some 26),.mov (.tmp 1),none,0⟩,
 ⟨(some 27),.conv .i64 (.tmp 26),none,0⟩,
 ⟨(some 28),.load (some 9) (.tmp 3),none,0⟩,
 ⟨(some 29),.call 28 true [(.tmp 28)],none,0⟩,
 ⟨(some 30),.bin .rem (.tmp 27) (.tmp 29),none,0⟩,
 ⟨(some 31),.call 27 true [(.tmp 25),(.tmp 30)],none,0⟩,
 ⟨(some 7),.alloc [.nils,.nils],none,0⟩,
 ⟨none,.store (some 2) (.tmp 7) (.tmp 31),none,1⟩])
 (.seq (.region 0 [] [
 ⟨(some 32),.load (some 9) (.tmp 3),none,0⟩,
 ⟨(some 33),.mov (.tmp 2),none,0⟩,
 ⟨(some 34),.call 29 true [(.tmp 32),(.tmp 33)],none,0⟩,
 ⟨(some 8),.mov (.tmp 34),none,0⟩])
 (.seq (.region 0 [(0,2),(1,2),(0,4),(1,4),(2,4),(3,4),(8,9),(9,10)] [
 ⟨(some 36),.load (some 9) (.tmp 3),none,0⟩,
 ⟨(some 37),.call 15 true [(.tmp 36)],none,0⟩,
 ⟨(some 38),.load (some 2) (.tmp 7),none,0⟩,
 ⟨(some 39),.call 16 true [(.tmp 38)],none,0⟩,
 ⟨(some 40),.mov (.tmp 8),none,0⟩,
 ⟨(some 41),.call 17 true [(.tmp 40)],none,0⟩,
 ⟨(some 42),.call 14 true [(.tmp 37),(.tmp 39),(.tmp 41)],none,0⟩,
 ⟨(some 35),.mov (.tmp 42),none,0⟩,
 ⟨(some 43),.extract 0 (.tmp 35),none,0⟩,
 ⟨(some 44),.extract 1 (.tmp 35),none,0⟩,
 ⟨(some 9),.mov (.tmp 43),none,0⟩,
 ⟨(some 10),.mov (.tmp 44),none,0⟩])
 (.seq (.seq (.region 0 [] [
 ⟨(some 45),.mov (.tmp 10),none,0⟩,
 ⟨(some 46),.bin .neq (.tmp 45) (.cst (.c (.int .i64 0))),none,0⟩,
 ⟨(some 47),.mov (.tmp 46),none,0⟩,
 ⟨(some 48),.mov (.tmp 9),some (47,false),0⟩,
 ⟨(some 49),.len (.tmp 48),some (47,false),0⟩,
 ⟨(some 50),.mov (.tmp 8),some (47,false),0⟩,
 ⟨(some 51),.len (.tmp 50),some (47,false),0⟩,
 ⟨(some 52),.bin .neq (.tmp 49) (.tmp 51),some (47,false),0⟩,
 ⟨(some 53),.pick (.tmp 47) (.cst (.c (.bool true))) (.tmp 52),none,0⟩])
 (.cond (.tmp 53)
 (.seq (.region 0 [] [
 ⟨(some 6),.mov (.cst (.c (.bool false))),none,0⟩])
 .ret)
 .skip))
 (.seq (.seq (.region 0 [] [
 ⟨(some 54),.mov (.tmp 8),none,0⟩,
 ⟨(some 55),.len (.tmp 54),none,0⟩,
 ⟨(some 56),.bin .eql (.tmp 55) (.cst (.c (.int .i64 0))),none,0⟩])
 (.cond (.tmp 56)
 (.seq (.region 0 [] [
 ⟨(some 57),.call 13 true [],none,0⟩,
 ⟨(some 6),.mov (.tmp 57),none,0⟩])
 .ret)
 .skip))
 (.seq (.region 0 [] [
 ⟨(some 11),.mov (.cst (.c (.int .i64 0))),none,0⟩,
 ⟨(some 12),.mov (.cst (.c (.int .i64 0))),none,0⟩,
 ⟨(some 13),.mov (.cst (.c (.int .i64 0))),none,0⟩,
 ⟨(some 14),.mov (.cst (.c (.bool false))),none,0⟩])
 (.seq (.seq (.region 0 [] [
 ⟨(some 15),.mov (.cst (.c (.int .i64 0))),none,0⟩])
 (.block 0 (.loop ⟨[6,58,59,60,61,62,63,64,65,66,67,68,69,70,71,72,73,74,75,76,77,78,79,80,81,82,83,84,85,86,87,88,89,90,91,92,93,94,95,96,97,98,99,100,101,102,103,104,105,106,107,108,109,110,111,112,113,114,115,116,117,118,119,120,121,122,123,124,125,126,127,128],false,[]⟩
 (.seq (.seq (.region 0 [] [
 ⟨(some 58),.mov (.tmp 15),none,0⟩,
 ⟨(some 59),.mov (.tmp 9),none,0⟩,
 ⟨(some 60),.len (.tmp 59),none,0⟩,
 ⟨(some 61),.bin .lss (.tmp 58) (.tmp 60),none,0⟩])
 (.cond (.tmp 61)
 .skip
 (.exit 0)))
 (.seq (.block 1 (.seq (.seq (.region 0 [(0,1),(7,8),(15,16),(15,20),(16,20),(17,20),(18,20),(19,20),(15,21),(16,21),(17,21),(18,21),(19,21),(15,22),(16,22),(17,22),(18,22),(19,22),(20,22),(21,22),(15,23),(16,23),(17,23),(18,23),(19,23),(15,24),(16,24),(17,24),(18,24),(19,24),(28,29),(28,33),(29,33),(30,33),(31,33),(32,33),(28,34),(29,34),(30,34),(31,34),(32,34),(28,35),(29,35),(30,35),(31,35),(32,35),(28,36),(29,36),(30,36),(31,36),(32,36)] [
 ⟨(some 64),.mov (.tmp 9),none,0⟩,
 ⟨(some 65),.mov (.tmp 15),none,0⟩,
 ⟨(some 66),.iaddr 3 (.tmp 64) (.tmp 65),none,0⟩,
 ⟨(some 67),.faddr 0 (.tmp 66),none,0⟩,
 ⟨(some 68),.load none (.tmp 67),none,0⟩,
 ⟨(some 69),.bin .lss (.tmp 68) (.cst (.c (.int .i64 0))),none,0⟩,
 ⟨(some 70),.mov (.tmp 69),none,0⟩,
 ⟨(some 71),.mov (.tmp 9),some (70,false),0⟩,
 ⟨(some 72),.mov (.tmp 15),some (70,false),0⟩,
 ⟨(some 73),.iaddr 3 (.tmp 71) (.tmp 72),some (70,false),0⟩,
 ⟨(some 74),.faddr 1 (.tmp 73),some (70,false),0⟩,
 ⟨(some 75),.load none (.tmp 74),some (70,false),0⟩,
 ⟨(some 76),.bin .lss (.tmp 75) (.cst (.c (.int .i64 0))),some (70,false),0⟩,
 ⟨(some 77),.pick (.tmp 70) (.cst (.c (.bool true))) (.tmp 76),none,0⟩,
 ⟨(some 78),.mov (.tmp 77),none,0⟩,
 ⟨(some 79),.mov (.tmp 9),some (78,false),0⟩,
 ⟨(some 80),.mov (.tmp 15),some (78,false),0⟩,
 ⟨(some 81),.iaddr 3 (.tmp 79) (.tmp 80),some (78,false),0⟩,
 ⟨(some 82),.faddr 1 (.tmp 81),some (78,false),0⟩,
 ⟨(some 83),.load none (.tmp 82),some (78,false),0⟩,
 ⟨(some 84),.faddr 3 (.tmp 3),some (78,false),0⟩,
 ⟨(some 85),.load none (.tmp 84),some (78,false),0⟩,
 ⟨(some 86),.mov (.tmp 15),some (78,false),0⟩,
 ⟨(some 87),.iaddr 1 (.tmp 85) (.tmp 86),some (78,false),0⟩,
 ⟨(some 88),.load none (.tmp 87),some (78,false),0⟩,
 ⟨(some 89),.bin .gtr (.tmp 83) (.tmp 88),some (78,false),0⟩,
 ⟨(some 90),.pick (.tmp 78) (.cst (.c (.bool true))) (.tmp 89),none,0⟩,
 ⟨(some 91),.mov (.tmp 90),none,0⟩,
 ⟨(some 92),.mov (.tmp 9),some (91,false),0⟩,
 ⟨(some 93),.mov (.tmp 15),some (91,false),0⟩,
 ⟨(some 94),.iaddr 3 (.tmp 92) (.tmp 93),some (91,false),0⟩,
 ⟨(some 95),.faddr 1 (.tmp 94),some (91,false),0⟩,
 ⟨(some 96),.load none (.tmp 95),some (91,false),0⟩,
 ⟨(some 97),.faddr 3 (.tmp 3),some (91,false),0⟩,
 ⟨(some 98),.load none (.tmp 97),some (91,false),0⟩,
 ⟨(some 99),.iaddr 1 (.tmp 98) (.cst (.c (.int .i64 0))),some (91,false),0⟩,
 ⟨(some 100),.load none (.tmp 99),some (91,false),0⟩,
 ⟨(some 101),.bin .gtr (.tmp 96) (.tmp 100),some (91,false),0⟩,
 ⟨(some 102),.pick (.tmp 91) (.cst (.c (.bool true))) (.tmp 101),none,0⟩])
 (.cond (.tmp 102)
 (.seq (.region 0 [] [
 ⟨(some 6),.mov (.cst (.c (.bool false))),none,0⟩])
 .ret)
 .skip))
 (.region 0 [(0,1),(0,2),(1,2),(0,3),(0,4),(0,5),(0,7),(1,7),(2,7),(3,7),(4,7),(5,7),(6,7),(0,8),(1,8),(2,8),(3,8),(4,8),(5,8),(6,8),(7,8),(0,9),(1,9),(2,9),(3,9),(4,9),(5,9),(6,9),(7,9),(8,9),(0,10),(1,10),(2,10),(3,10),(4,10),(5,10),(6,10),(7,10),(0,11),(1,11),(2,11),(3,11),(4,11),(5,11),(6,11),(7,11),(0,12),(1,12),(2,12),(3,12),(4,12),(5,12),(6,12),(7,12),(0,13),(1,13),(2,13),(3,13),(4,13),(5,13),(6,13),(0,14),(1,14),(2,14),(3,14),(4,14),(5,14),(6,14),(7,14),(8,14),(9,14),(10,14),(11,14),(12,14),(13,14),(0,15),(1,15),(2,15),(3,15),(4,15),(5,15),(6,15),(7,15),(8,15),(9,15),(10,15),(11,15),(12,15),(13,15),(0,16),(1,16),(2,16),(3,16),(4,16),(5,16),(6,16),(7,16),(8,16),(9,16),(10,16),(11,16),(12,16),(13,16),(0,17),(1,17),(2,17),(3,17),(4,17),(5,17),(6,17),(7,17),(8,17),(9,17),(10,17),(11,17),(12,17),(13,17),(0,18),(1,18),(2,18),(3,18),(4,18),(5,18),(6,18),(7,18),(8,18),(9,18),(10,18),(11,18),(12,18),(13,18),(16,18),(17,18),(0,19),(1,19),(2,19),(3,19),(4,19),(5,19),(6,19),(7,19),(8,19),(9,19),(10,19),(11,19),(12,19),(13,19),(16,19),(17,19),(18,19),(0,20),(1,20),(2,20),(3,20),(4,20),(5,20),(6,20),(7,20),(8,20),(9,20),(10,20),(11,20),(12,20),(13,20),(16,20),(17,20),(0,21),(1,21),(2,21),(3,21),(4,21),(5,21),(6,21),(7,21),(8,21),(9,21),(10,21),(11,21),(12,21),(13,21),(16,21),(17,21),(0,22),(1,22),(2,22),(3,22),(4,22),(5,22),(6,22),(7,22),(8,22),(9,22),(10,22),(11,22),(12,22),(13,22),(0,23),(1,23),(2,23),(3,23),(4,23),(5,23),(6,23),(7,23),(8,23),(9,23),(10,23),(11,23),(12,23),(13,23),(0,24),(1,24),(2,24),(3,24),(4,24),(5,24),(6,24),(7,24),(8,24),(9,24),(10,24),(11,24),(12,24),(13,24),(0,25),(1,25),(2,25),(3,25),(4,25),(5,25),(6,25),(7,25),(8,25),(9,25),(10,25),(11,25),(12,25),(13,25),(7,26),(8,26),(9,26),(10,26),(11,26),(12,26),(13,26),(16,26),(17,26),(18,26),(19,26),(20,26),(21,26),(22,26),(23,26),(24,26),(25,26),(16,27),(17,27),(18,27),(19,27),(20,27),(21,27),(22,27),(23,27),(24,27),(25,27)] [
 ⟨(some 103),.mov (.tmp 11),none,0⟩,
 ⟨(some 104),.mov (.tmp 9),none,0⟩,
 ⟨(some 105),.mov (.tmp 15),none,0⟩,
 ⟨(some 106),.iaddr 3 (.tmp 104) (.tmp 105),none,0⟩,
 ⟨(some 107),.faddr 0 (.tmp 106),none,0⟩,
 ⟨(some 108),.load none (.tmp 107),none,0⟩,
 ⟨(some 109),.bin .add (.tmp 103) (.tmp 108),none,0⟩,
 ⟨(some 110),.mov (.tmp 13),none,0⟩,
 ⟨(some 111),.mov (.tmp 9),none,0⟩,
 ⟨(some 112),.mov (.tmp 15),none,0⟩,
 ⟨(some 113),.iaddr 3 (.tmp 111) (.tmp 112),none,0⟩,
 ⟨(some 114),.faddr 2 (.tmp 113),none,0⟩,
 ⟨(some 115),.load none (.tmp 114),none,0⟩,
 ⟨(some 116),.bin .add (.tmp 110) (.tmp 115),none,0⟩,
 ⟨(some 117),.mov (.tmp 14),none,0⟩,
 ⟨(some 118),.mov (.tmp 117),none,0⟩,
 ⟨(some 119),.faddr 1 (.tmp 7),some (118,false),0⟩,
 ⟨(some 120),.load none (.tmp 119),some (118,false),0⟩,
 ⟨(some 121),.mov (.tmp 8),some (118,false),0⟩,
 ⟨(some 122),.mov (.tmp 15),some (118,false),0⟩,
 ⟨(some 123),.iaddr 1 (.tmp 121) (.tmp 122),some (118,false),0⟩,
 ⟨(some 124),.load none (.tmp 123),some (118,false),0⟩,
 ⟨(some 125),.iaddr 1 (.tmp 120) (.tmp 124),some (118,false),0⟩,
 ⟨(some 126),.load none (.tmp 125),some (118,false),0⟩,
 ⟨(some 127),.bin .eql (.tmp 126) (.cst (.c (.int .i64 1))),some (118,false),0⟩,
 ⟨(some 128),.pick (.tmp 118) (.cst (.c (.bool true))) (.tmp 127),none,0⟩,
 ⟨(some 11),.mov (.tmp 109),none,0⟩,
 ⟨(some 13),.mov (.tmp 116),none,0⟩,
 ⟨(some 14),.mov (.tmp 128),none,0⟩])))
 (.region 0 [] [
 ⟨(some 62),.mov (.tmp 15),none,0⟩,
 ⟨(some 63),.bin .add (.tmp 62) (.cst (.c (.int .i64 1))),none,0⟩,
 ⟨(some 15),.mov (.tmp 63),none,0⟩]))))))
 (.seq (.seq (.region 0 [] [
 ⟨(some 16),.mov (.cst (.c (.int .i64 0))),none,0⟩])
 (.block 2 (.loop ⟨[129,130,131,132,133,134,135,136,137,138,139,140,141,142,143,144,145],false,[]⟩
 (.seq (.seq (.region 0 [] [
 ⟨(some 129),.mov (.tmp 16),none,0⟩,
 ⟨(some 130),.mov (.tmp 8),none,0⟩,
 ⟨(some 131),.mov (.tmp 8),none,0⟩,
 ⟨(some 132),.len (.tmp 131),none,0⟩,
 ⟨(some 133),.bin .sub (.tmp 132) (.cst (.c (.int .i64 1))),none,0⟩,
 ⟨(some 134),.iaddr 1 (.tmp 130) (.tmp 133),none,0⟩,
 ⟨(some 135),.load none (.tmp 134),none,0⟩,
 ⟨(some 136),.bin .leq (.tmp 129) (.tmp 135),none,0⟩])
 (.cond (.tmp 136)
 .skip
 (.exit 2)))
 (.seq (.block 3 (.region 0 [] [
 ⟨(some 139),.mov (.tmp 12),none,0⟩,
 ⟨(some 140),.faddr 0 (.tmp 7),none,0⟩,
 ⟨(some 141),.load none (.tmp 140),none,0⟩,
 ⟨(some 142),.mov (.tmp 16),none,0⟩,
 ⟨(some 143),.iaddr 1 (.tmp 141) (.tmp 142),none,0⟩,
 ⟨(some 144),.load none (.tmp 143),none,0⟩,
 ⟨(some 145),.bin .add (.tmp 139) (.tmp 144),none,0⟩,
 ⟨(some 12),.mov (.tmp 145),none,0⟩]))
 (.region 0 [] [
 ⟨(some 137),.mov (.tmp 16),none,0⟩,
 ⟨(some 138),.bin .add (.tmp 137) (.cst (.c (.int .i64 1))),none,0⟩,
 ⟨(some 16),.mov (.tmp 138),none,0⟩]))))))
 (.seq (.region 0 [(0,2),(1,2),(0,4),(1,4),(2,4),(3,4),(0,5),(1,5),(2,5),(3,5),(4,5),(0,6),(1,6),(2,6),(3,6),(4,6),(0,7),(1,7),(2,7),(3,7),(4,7),(0,8),(1,8),(2,8),(3,8),(12,13),(13,14)] [
 ⟨(some 147),.load (some 9) (.tmp 3),none,0⟩,
 ⟨(some 148),.call 15 true [(.tmp 147)],none,0⟩,
 ⟨(some 149),.load (some 2) (.tmp 7),none,0⟩,
 ⟨(some 150),.call 16 true [(.tmp 149)],none,0⟩,
 ⟨(some 151),.mov (.tmp 8),none,0⟩,
 ⟨(some 152),.mov (.tmp 8),none,0⟩,
 ⟨(some 153),.len (.tmp 152),none,0⟩,
 ⟨(some 154),.bin .sub (.tmp 153) (.cst (.c (.int .i64 1))),none,0⟩,
 ⟨(some 155),.slice 1 (.tmp 151) none (some (.tmp 154)),none,0⟩,
 ⟨(some 156),.call 17 true [(.tmp 155)],none,0⟩,
 ⟨(some 157),.call 14 true [(.tmp 148),(.tmp 150),(.tmp 156)],none,0⟩,
 ⟨(some 146),.mov (.tmp 157),none,0⟩,
 ⟨(some 158),.extract 0 (.tmp 146),none,0⟩,
 ⟨(some 159),.extract 1 (.tmp 146),none,0⟩,
 ⟨(some 17),.mov (.tmp 158),none,0⟩,
 ⟨(some 18),.mov (.tmp 159),none,0⟩])
 (.seq (.seq (.region 0 [] [
 ⟨(some 160),.mov (.tmp 18),none,0⟩,
 ⟨(some 161),.bin .neq (.tmp 160) (.cst (.c (.int .i64 0))),none,0⟩,
 ⟨(some 162),.mov (.tmp 161),none,0⟩,
 ⟨(some 163),.mov (.tmp 17),some (162,false),0⟩,
 ⟨(some 164),.len (.tmp 163),some (162,false),0⟩,
 ⟨(some 165),.mov (.tmp 8),some (162,false),0⟩,
 ⟨(some 166),.len (.tmp 165),some (162,false),0⟩,
 ⟨(some 167),.bin .sub (.tmp 166) (.cst (.c (.int .i64 1))),some (162,false),0⟩,
 ⟨(some 168),.bin .neq (.tmp 164) (.tmp 167),some (162,false),0⟩,
 ⟨(some 169),.pick (.tmp 162) (.cst (.c (.bool true))) (.tmp 168),none,0⟩])
 (.cond (.tmp 169)
 (.seq (.region 0 [] [
 ⟨(some 6),.mov (.cst (.c (.bool false))),none,0⟩])
 .ret)
 .skip))
 (.seq (.region 0 [] [
 ⟨(some 19),.mov (.cst (.c (.int .i64 0))),none,0⟩])
 (.seq (.seq (.region 0 [] [
 ⟨(some 20),.mov (.cst (.c (.int .i64 0))),none,0⟩])
 (.block 4 (.loop ⟨[170,171,172,173,174,175,176,177,178,179,180,181,182],false,[]⟩
 (.seq (.seq (.region 0 [] [
 ⟨(some 170),.mov (.tmp 20),none,0⟩,
 ⟨(some 171),.mov (.tmp 17),none,0⟩,
 ⟨(some 172),.len (.tmp 171),none,0⟩,
 ⟨(some 173),.bin .lss (.tmp 170) (.tmp 172),none,0⟩])
 (.cond (.tmp 173)
 .skip
 (.exit 4)))
 (.seq (.block 5 (.region 0 [] [
 ⟨(some 176),.mov (.tmp 19),none,0⟩,
 ⟨(some 177),.mov (.tmp 17),none,0⟩,
 ⟨(some 178),.mov (.tmp 20),none,0⟩,
 ⟨(some 179),.iaddr 3 (.tmp 177) (.tmp 178),none,0⟩,
 ⟨(some 180),.faddr 2 (.tmp 179),none,0⟩,
 ⟨(some 181),.load none (.tmp 180),none,0⟩,
 ⟨(some 182),.bin .add (.tmp 176) (.tmp 181),none,0⟩,
 ⟨(some 19),.mov (.tmp 182),none,0⟩]))
 (.region 0 [] [
 ⟨(some 174),.mov (.tmp 20),none,0⟩,
 ⟨(some 175),.bin .add (.tmp 174) (.cst (.c (.int .i64 1))),none,0⟩,
 ⟨(some 20),.mov (.tmp 175),none,0⟩]))))))
 (.seq (.region 0 [] [
 ⟨(some 183),.mov (.tmp 11),none,0⟩,
 ⟨(some 184),.mov (.tmp 12),none,0⟩,
 ⟨(some 185),.bin .leq (.tmp 183) (.tmp 184),none,0⟩,
 ⟨(some 186),.mov (.tmp 185),none,0⟩,
 ⟨(some 187),.mov (.tmp 14),some (186,true),0⟩,
 ⟨(some 188),.mov (.tmp 187),some (186,true),0⟩,
 ⟨(some 189),.mov (.tmp 11),some (188,false),0⟩,
 ⟨(some 190),.mov (.tmp 12),some (188,false),0⟩,
 ⟨(some 191),.bin .eql (.tmp 189) (.tmp 190),some (188,false),0⟩,
 ⟨(some 192),.pick (.tmp 188) (.cst (.c (.bool true))) (.tmp 191),some (186,true),0⟩,
 ⟨(some 193),.pick (.tmp 186) (.tmp 192) (.cst (.c (.bool false))),none,0⟩,
 ⟨(some 194),.mov (.tmp 193),none,0⟩,
 ⟨(some 195),.mov (.tmp 19),some (194,true),0⟩,
 ⟨(some 196),.mov (.tmp 13),some (194,true),0⟩,
 ⟨(some 197),.bin .leq (.tmp 195) (.tmp 196),some (194,true),0⟩,
 ⟨(some 198),.pick (.tmp 194) (.tmp 197) (.cst (.c (.bool false))),none,0⟩,
 ⟨(some 199),.mov (.tmp 198),none,0⟩,
 ⟨(some 200),.call 13 true [],some (199,true),0⟩,
 ⟨(some 201),.pick (.tmp 199) (.tmp 200) (.cst (.c (.bool false))),none,0⟩,
 ⟨(some 6),.mov (.tmp 201),none,0⟩])
 .ret)))))))))))))))⟩
/-- 5 isatis/isatislaw02.CropMore | loop 0 vars [20] kill 44 makes false -/
def f5 : AFunc := ⟨176,[.tmp 10],false,
 (.seq (.region 1 [] [
 ⟨(some 5),.box (.tmp 0),none,0⟩,
 ⟨(some 10),.mov (.cst (.c (.bool false))),none,1⟩])
 (.seq (.region 0 [] [
 ⟨(some 21),.mov (.tmp 3),none,0⟩,
 ⟨(some 22),.conv .i64 (.tmp 21),none,0⟩,
 ⟨(some 23),.faddr 2 (.tmp 5),none,0⟩,
 ⟨(some 24),.load none (.tmp 23),none,0⟩,
 ⟨(some 25),.len (.tmp 24),none,0⟩,
 ⟨(some 26),.mm true (.cst (.c (.int .i64 1))) (.tmp 25),none,0⟩,
 ⟨(some 27),.bin .rem (.tmp 22) (.tmp 26),none,0⟩,
 ⟨(some 11),.mov (.tmp 27),none,0⟩])
 (.seq (.region 1 [] [
 ⟨(some 28),.load (some 9) (.tmp 5),none,0⟩,
 ⟨(some 12),.alloc [(.int .i64 0),.nils,.nils,.nils,.nils,(.int .i64 0),(.int .i64 0),(.int .i64 0),.nils],none,0⟩,
 ⟨none,.store (some 9) (.tmp 12) (.tmp 28),none,1⟩])
 (.seq (.region 2 [] [
 ⟨(some 29),.bslice 1 0 [(.int .i64 0)] [],none,0⟩,
 ⟨(some 30),.faddr 2 (.tmp 5),none,1⟩,
 ⟨(some 31),.load none (.tmp 30),none,1⟩,
 ⟨(some 32),.append 1 8 (.tmp 29) (.tmp 31),none,1⟩,
 ⟨(some 33),.faddr 2 (.tmp 12),none,2⟩,
 ⟨none,.store none (.tmp 33) (.tmp 32),none,2⟩])
 (.seq (.seq (.region 0 [] [
 ⟨(some 34),.faddr 2 (.tmp 12),none,0⟩,
 ⟨(some 35),.load none (.tmp 34),none,0⟩,
 ⟨(some 36),.len (.tmp 35),none,0⟩,
 ⟨(some 37),.bin .gtr (.tmp 36) (.cst (.c (.int .i64 0))),none,0⟩])
 (.cond (.tmp 37)
 (.region 0 [] [
 ⟨(some 38),.faddr 2 (.tmp 12),none,0⟩,
 ⟨(some 39),.load none (.tmp 38),none,0⟩,
 ⟨(some 40),.mov (.tmp 11),none,0⟩,
 ⟨(some 41),.iaddr 1 (.tmp 39) (.tmp 40),none,0⟩,
 ⟨none,.store none (.tmp 41) (.cst (.c (.int .i64 2))),none,0⟩])
 .skip))
 (.seq (.seq (.region 0 [] [
 ⟨(some 42),.load (some 9) (.tmp 5),none,0⟩,
 ⟨(some 43),.call 26 true [(.tmp 42)],none,0⟩,
 ⟨(some 44),.not (.tmp 43),none,0⟩,
 ⟨(some 45),.mov (.tmp 44),none,0⟩,
 ⟨(some 46),.load (some 9) (.tmp 12),some (45,false),0⟩,
 ⟨(some 47),.call 26 true [(.tmp 46)],some (45,false),0⟩,
 ⟨(some 48),.not (.tmp 47),some (45,false),0⟩,
 ⟨(some 49),.pick (.tmp 45) (.cst (.c (.bool true))) (.tmp 48),none,0⟩])
 (.cond (.tmp 49)
 (.seq (.region 0 [] [
 ⟨(some 50),.call 13 true [],none,0⟩,
 ⟨(some 10),.mov (.tmp 50),none,0⟩])
 .ret)
 .skip))
 (.seq (.region 1 [(0,1),(0,2),(0,3),(1,3),(2,3),(0,4),(1,4),(2,4),(0,5),(0,7),(1,7),(2,7),(3,7),(4,7),(5,7),(6,7)] [
 ⟨(some 51),.load (some 9) (.tmp 12),none,0⟩,
 ⟨(some 52),.mov (.tmp 1),none,0⟩,
 ⟨(some 53),.conv .i64 (.tmp 52),none,0⟩,
 ⟨(some 54),.load (some 9) (.tmp 12),none,0⟩,
 ⟨(some 55),.call 28 true [(.tmp 54)],none,0⟩,
 ⟨(some 56),.bin .rem (.tmp 53) (.tmp 55),none,0⟩,
 ⟨(some 57),.call 27 true [(.tmp 51),(.tmp 56)],none,0⟩,
 ⟨(some 13),.alloc [.nils,.nils],none,0⟩,
 ⟨none,.store (some 2) (.tmp 13) (.tmp 57),none,1⟩])
 (.seq (.region 1 [(0,3),(1,3),(2,3),(0,4),(1,4),(2,4),(0,7),(1,7),(2,7),(3,7),(4,7),(5,7),(6,7)] [
 ⟨(some 58),.faddr 0 (.tmp 13),none,0⟩,
 ⟨(some 59),.load none (.tmp 58),none,0⟩,
 ⟨(some 60),.call 17 false [(.tmp 59)],none,0⟩,
 ⟨(some 61),.faddr 1 (.tmp 13),none,0⟩,
 ⟨(some 62),.load none (.tmp 61),none,0⟩,
 ⟨(some 63),.call 17 false [(.tmp 62)],none,0⟩,
 ⟨(some 64),.build [.nils,.nils] [(0,1,(.tmp 60)),(1,1,(.tmp 63))],none,0⟩,
 ⟨(some 14),.alloc [.nils,.nils],none,0⟩,
 ⟨none,.store (some 2) (.tmp 14) (.tmp 64),none,1⟩])
 (.seq (.region 0 [(0,2),(1,2),(0,3),(1,3),(2,3),(0,4),(1,4),(2,4),(0,5),(1,5),(2,5),(3,5),(4,5),(0,6),(1,6),(2,6),(0,7),(1,7),(2,7),(0,8),(1,8),(2,8),(0,9),(1,9),(2,9),(3,9),(4,9),(5,9),(6,9),(7,9),(8,9),(0,10),(1,10),(2,10),(3,10),(4,10),(5,10),(6,10),(7,10),(8,10),(0,11),(1,11),(2,11),(3,11),(4,11),(5,11),(6,11),(7,11),(8,11),(9,11),(10,11),(0,12),(1,12),(2,12),(3,12),(4,12),(5,12),(6,12),(7,12),(8,12),(0,13),(1,13),(2,13),(3,13),(4,13),(5,13),(6,13),(7,13),(8,13),(0,14),(1,14),(2,14),(3,14),(4,14),(5,14),(6,14),(7,14),(8,14),(9,14),(10,14),(11,14),(12,14),(13,14),(0,15),(1,15),(2,15),(3,15),(4,15),(5,15),(6,15),(7,15),(8,15),(9,15),(10,15),(11,15),(12,15),(13,15),(0,16),(1,16),(2,16),(3,16),(4,16),(5,16),(6,16),(7,16),(8,16),(9,16),(10,16),(11,16),(12,16),(13,16),(0,17),(1,17),(2,17),(3,17),(4,17),(5,17),(6,17),(7,17),(8,17),(0,18),(1,18),(2,18)] [
 ⟨(some 65),.faddr 0 (.tmp 14),none,0⟩,
 ⟨(some 66),.load none (.tmp 65),none,0⟩,
 ⟨(some 67),.mov (.tmp 11),none,0⟩,
 ⟨(some 68),.faddr 1 (.tmp 12),none,0⟩,
 ⟨(some 69),.load none (.tmp 68),none,0⟩,
 ⟨(some 70),.mov (.tmp 11),none,0⟩,
 ⟨(some 71),.iaddr 2 (.tmp 69) (.tmp 70),none,0⟩,
 ⟨(some 72),.faddr 1 (.tmp 71),none,0⟩,
 ⟨(some 73),.load none (.tmp 72),none,0⟩,
 ⟨(some 74),.faddr 0 (.tmp 13),none,0⟩,
 ⟨(some 75),.load none (.tmp 74),none,0⟩,
 ⟨(some 76),.mov (.tmp 11),none,0⟩,
 ⟨(some 77),.iaddr 1 (.tmp 75) (.tmp 76),none,0⟩,
 ⟨(some 78),.load none (.tmp 77),none,0⟩,
 ⟨(some 79),.mov (.tmp 4),none,0⟩,
 ⟨(some 80),.conv .i64 (.tmp 79),none,0⟩,
 ⟨(some 81),.bin .rem (.tmp 80) (.cst (.c (.int .i64 4))),none,0⟩,
 ⟨(some 82),.bin .add (.tmp 78) (.tmp 81),none,0⟩,
 ⟨(some 83),.mm false (.tmp 73) (.tmp 82),none,0⟩,
 ⟨(some 84),.iaddr 1 (.tmp 66) (.tmp 67),none,0⟩,
 ⟨none,.store none (.tmp 84) (.tmp 83),none,0⟩])
 (.seq (.region 0 [] [
 ⟨(some 85),.faddr 1 (.tmp 14),none,0⟩,
 ⟨(some 86),.load none (.tmp 85),none,0⟩,
 ⟨(some 87),.mov (.tmp 11),none,0⟩,
 ⟨(some 88),.iaddr 1 (.tmp 86) (.tmp 87),none,0⟩,
 ⟨none,.store none (.tmp 88) (.cst (.c (.int .i64 0))),none,0⟩])
 (.seq (.region 0 [] [
 ⟨(some 89),.load (some 9) (.tmp 5),none,0⟩,
 ⟨(some 90),.mov (.tmp 2),none,0⟩,
 ⟨(some 91),.call 29 true [(.tmp 89),(.tmp 90)],none,0⟩,
 ⟨(some 15),.mov (.tmp 91),none,0⟩])
 (.seq (.region 0 [(0,2),(1,2),(0,4),(1,4),(2,4),(3,4),(8,9),(9,10)] [
 ⟨(some 93),.load (some 9) (.tmp 12),none,0⟩,
 ⟨(some 94),.call 15 true [(.tmp 93)],none,0⟩,
 ⟨(some 95),.load (some 2) (.tmp 13),none,0⟩,
 ⟨(some 96),.call 16 true [(.tmp 95)],none,0⟩,
 ⟨(some 97),.mov (.tmp 15),none,0⟩,
 ⟨(some 98),.call 17 false [(.tmp 97)],none,0⟩,
 ⟨(some 99),.call 14 true [(.tmp 94),(.tmp 96),(.tmp 98)],none,0⟩,
 ⟨(some 92),.mov (.tmp 99),none,0⟩,
 ⟨(some 100),.extract 0 (.tmp 92),none,0⟩,
 ⟨(some 101),.extract 1 (.tmp 92),none,0⟩,
 ⟨(some 16),.mov (.tmp 100),none,0⟩,
 ⟨(some 17),.mov (.tmp 101),none,0⟩])
 (.seq (.region 0 [(0,2),(1,2),(0,4),(1,4),(2,4),(3,4),(8,9),(9,10)] [
 ⟨(some 103),.load (some 9) (.tmp 12),none,0⟩,
 ⟨(some 104),.call 15 true [(.tmp 103)],none,0⟩,
 ⟨(some 105),.load (some 2) (.tmp 14),none,0⟩,
 ⟨(some 106),.call 16 true [(.tmp 105)],none,0⟩,
 ⟨(some 107),.mov (.tmp 15),none,0⟩,
 ⟨(some 108),.call 17 false [(.tmp 107)],none,0⟩,
 ⟨(some 109),.call 14 true [(.tmp 104),(.tmp 106),(.tmp 108)],none,0⟩,
 ⟨(some 102),.mov (.tmp 109),none,0⟩,
 ⟨(some 110),.extract 0 (.tmp 102),none,0⟩,
 ⟨(some 111),.extract 1 (.tmp 102),none,0⟩,
 ⟨(some 18),.mov (.tmp 110),none,0⟩,
 ⟨(some 19),.mov (.tmp 111),none,0⟩])
 (.seq (.seq (.region 0 [] [
 ⟨(some 112),.mov (.tmp 17),none,0⟩,
 ⟨(some 113),.bin .neq (.tmp 112) (.cst (.c (.int .i64 0))),none,0⟩,
 ⟨(some 114),.mov (.tmp 113),none,0⟩,
 ⟨(some 115),.mov (.tmp 19),some (114,false),0⟩,
 ⟨(some 116),.bin .neq (.tmp 115) (.cst (.c (.int .i64 0))),some (114,false),0⟩,
 ⟨(some 117),.pick (.tmp 114) (.cst (.c (.bool true))) (.tmp 116),none,0⟩,
 ⟨(some 118),.mov (.tmp 117),none,0⟩,
 ⟨(some 119),.mov (.tmp 16),some (118,false),0⟩,
 ⟨(some 120),.len (.tmp 119),some (118,false),0⟩,
 ⟨(some 121),.mov (.tmp 15),some (118,false),0⟩,
 ⟨(some 122),.len (.tmp 121),some (118,false),0⟩,
 ⟨(some 123),.bin .neq (.tmp 120) (.tmp 122),some (118,false),0⟩,
 ⟨(some 124),.pick (.tmp 118) (.cst (.c (.bool true))) (.tmp 123),none,0⟩,
 ⟨(some 125),.mov (.tmp 124),none,0⟩,
 ⟨(some 126),.mov (.tmp 18),some (125,false),0⟩,
 ⟨(some 127),.len (.tmp 126),some (125,false),0⟩,
 ⟨(some 128),.mov (.tmp 15),some (125,false),0⟩,
 ⟨(some 129),.len (.tmp 128),some (125,false),0⟩,
 ⟨(some 130),.bin .neq (.tmp 127) (.tmp 129),some (125,false),0⟩,
 ⟨(some 131),.pick (.tmp 125) (.cst (.c (.bool true))) (.tmp 130),none,0⟩])
 (.cond (.tmp 131)
 (.seq (.region 0 [] [
 ⟨(some 10),.mov (.cst (.c (.bool false))),none,0⟩])
 .ret)
 .skip))
 (.seq (.seq (.region 0 [] [
 ⟨(some 20),.mov (.cst (.c (.int .i64 0))),none,0⟩])
 (.block 0 (.loop ⟨[10,132,133,134,135,136,137,138,139,140,141,142,143,144,145,146,147,148,149,150,151,152,153,154,155,156,157,158,159,160,161,162,163,164,165,166,167,168,169,170,171,172,173,174],false,[]⟩
 (.seq (.seq (.region 0 [] [
 ⟨(some 132),.mov (.tmp 20),none,0⟩,
 ⟨(some 133),.mov (.tmp 15),none,0⟩,
 ⟨(some 134),.len (.tmp 133),none,0⟩,
 ⟨(some 135),.bin .lss (.tmp 132) (.tmp 134),none,0⟩])
 (.cond (.tmp 135)
 .skip
 (.exit 0)))
 (.seq (.block 1 (.seq (.region 0 [(0,1),(0,5),(1,5),(2,5),(3,5),(4,5),(0,6),(1,6),(2,6),(3,6),(4,6),(5,6),(0,7),(1,7),(2,7),(3,7),(4,7),(0,8),(1,8),(2,8),(3,8),(4,8),(0,9),(1,9),(2,9),(3,9),(4,9),(12,13),(12,17),(13,17),(14,17),(15,17),(16,17),(12,18),(13,18),(14,18),(15,18),(16,18),(17,18),(12,19),(13,19),(14,19),(15,19),(16,19),(12,20),(13,20),(14,20),(15,20),(16,20),(12,21),(13,21),(14,21),(15,21),(16,21),(25,26),(25,30),(26,30),(27,30),(28,30),(29,30),(25,31),(26,31),(27,31),(28,31),(29,31),(30,31),(25,32),(26,32),(27,32),(28,32),(29,32),(25,33),(26,33),(27,33),(28,33),(29,33),(25,34),(26,34),(27,34),(28,34),(29,34)] [
 ⟨(some 138),.mov (.tmp 18),none,0⟩,
 ⟨(some 139),.mov (.tmp 20),none,0⟩,
 ⟨(some 140),.iaddr 3 (.tmp 138) (.tmp 139),none,0⟩,
 ⟨(some 141),.faddr 0 (.tmp 140),none,0⟩,
 ⟨(some 142),.load none (.tmp 141),none,0⟩,
 ⟨(some 143),.mov (.tmp 16),none,0⟩,
 ⟨(some 144),.mov (.tmp 20),none,0⟩,
 ⟨(some 145),.iaddr 3 (.tmp 143) (.tmp 144),none,0⟩,
 ⟨(some 146),.faddr 0 (.tmp 145),none,0⟩,
 ⟨(some 147),.load none (.tmp 146),none,0⟩,
 ⟨(some 148),.bin .lss (.tmp 142) (.tmp 147),none,0⟩,
 ⟨(some 149),.mov (.tmp 148),none,0⟩,
 ⟨(some 150),.mov (.tmp 18),some (149,false),0⟩,
 ⟨(some 151),.mov (.tmp 20),some (149,false),0⟩,
 ⟨(some 152),.iaddr 3 (.tmp 150) (.tmp 151),some (149,false),0⟩,
 ⟨(some 153),.faddr 2 (.tmp 152),some (149,false),0⟩,
 ⟨(some 154),.load none (.tmp 153),some (149,false),0⟩,
 ⟨(some 155),.mov (.tmp 16),some (149,false),0⟩,
 ⟨(some 156),.mov (.tmp 20),some (149,false),0⟩,
 ⟨(some 157),.iaddr 3 (.tmp 155) (.tmp 156),some (149,false),0⟩,
 ⟨(some 158),.faddr 2 (.tmp 157),some (149,false),0⟩,
 ⟨(some 159),.load none (.tmp 158),some (149,false),0⟩,
 ⟨(some 160),.bin .lss (.tmp 154) (.tmp 159),some (149,false),0⟩,
 ⟨(some 161),.pick (.tmp 149) (.cst (.c (.bool true))) (.tmp 160),none,0⟩,
 ⟨(some 162),.mov (.tmp 161),none,0⟩,
 ⟨(some 163),.mov (.tmp 18),some (162,false),0⟩,
 ⟨(some 164),.mov (.tmp 20),some (162,false),0⟩,
 ⟨(some 165),.iaddr 3 (.tmp 163) (.tmp 164),some (162,false),0⟩,
 ⟨(some 166),.faddr 1 (.tmp 165),some (162,false),0⟩,
 ⟨(some 167),.load none (.tmp 166),some (162,false),0⟩,
 ⟨(some 168),.mov (.tmp 16),some (162,false),0⟩,
 ⟨(some 169),.mov (.tmp 20),some (162,false),0⟩,
 ⟨(some 170),.iaddr 3 (.tmp 168) (.tmp 169),some (162,false),0⟩,
 ⟨(some 171),.faddr 1 (.tmp 170),some (162,false),0⟩,
 ⟨(some 172),.load none (.tmp 171),some (162,false),0⟩,
 ⟨(some 173),.bin .neq (.tmp 167) (.tmp 172),some (162,false),0⟩,
 ⟨(some 174),.pick (.tmp 162) (.cst (.c (.bool true))) (.tmp 173),none,0⟩])
 (.cond (.tmp 174)
 (.seq (.region 0 [] [
 ⟨(some 10),.mov (.cst (.c (.bool false))),none,0⟩])
 .ret)
 .skip)))
 (.region 0 [] [
 ⟨(some 136),.mov (.tmp 20),none,0⟩,
 ⟨(some 137),.bin .add (.tmp 136) (.cst (.c (.int .i64 1))),none,0⟩,
 ⟨(some 20),.mov (.tmp 137),none,0⟩]))))))
 (.seq (.region 0 [] [
 ⟨(some 175),.call 13 true [],none,0⟩,
 ⟨(some 10),.mov (.tmp 175),none,0⟩])
 .ret))))))))))))))))⟩
/-- 6 isatis/isatislaw02.CropOne -/
def f6 : AFunc := ⟨138,[.tmp 6],false,
 (.seq (.region 2 [] [
 ⟨(some 3),.box (.tmp 0),none,0⟩,
 ⟨(some 4),.box (.tmp 1),none,1⟩,
 ⟨(some 6),.mov (.cst (.c (.bool false))),none,2⟩])
 (.seq (.region 1 [] [
 ⟨(some 23),.load (some 9) (.tmp 3),none,0⟩,
 ⟨(some 7),.alloc [(.int .i64 0),.nils,.nils,.nils,.nils,(.int .i64 0),(.int .i64 0),(.int .i64 0),.nils],none,0⟩,
 ⟨none,.store (some 9) (.tmp 7) (.tmp 23),none,1⟩])
 (.seq (.region 4 [(0,1),(0,2),(0,4),(1,4),(2,4),(3,4),(0,5),(1,5),(2,5),(3,5)] [
 ⟨(some 24),.bslice 3 0 [(.int .i64 0),(.int .i64 0),(.int .i64 0)] [],none,0⟩,
 ⟨(some 25),.faddr 8 (.tmp 3),none,1⟩,
 ⟨(some 26),.load none (.tmp 25),none,1⟩,
 ⟨(some 27),.append 3 24 (.tmp 24) (.tmp 26),none,1⟩,
 ⟨(some 28),.load (some 3) (.tmp 4),none,2⟩,
 ⟨(some 29),.bslice 3 1 [(.int .i64 0),(.int .i64 0),(.int .i64 0)] [(0,(.tmp 28))],none,2⟩,
 ⟨(some 30),.append 3 24 (.tmp 27) (.tmp 29),none,3⟩,
 ⟨(some 31),.faddr 8 (.tmp 7),none,4⟩,
 ⟨none,.store none (.tmp 31) (.tmp 30),none,4⟩])
 (.seq (.seq (.region 0 [] [
 ⟨(some 32),.load (some 9) (.tmp 3),none,0⟩,
 ⟨(some 33),.call 26 true [(.tmp 32)],none,0⟩,
 ⟨(some 34),.not (.tmp 33),none,0⟩,
 ⟨(some 35),.mov (.tmp 34),none,0⟩,
 ⟨(some 36),.load (some 9) (.tmp 7),some (35,false),0⟩,
 ⟨(some 37),.call 26 true [(.tmp 36)],some (35,false),0⟩,
 ⟨(some 38),.not (.tmp 37),some (35,false),0⟩,
 ⟨(some 39),.pick (.tmp 35) (.cst (.c (.bool true))) (.tmp 38),none,0⟩])
 (.cond (.tmp 39)
 (.seq (.region 0 [] [
 ⟨(some 40),.call 13 true [],none,0⟩,
 ⟨(some 6),.mov (.tmp 40),none,0⟩])
 .ret)
 .skip))
 (.seq (.region 0 [] [
 ⟨(some 42),.load (some 9) (.tmp 3),none,0⟩,
 ⟨(some 43),.call 15 true [(.tmp 42)],none,0⟩,
 ⟨(some 44),.call 30 true [(.tmp 43)],none,0⟩,
 ⟨(some 41),.mov (.tmp 44),none,0⟩,
 ⟨(some 45),.extract 0 (.tmp 41),none,0⟩,
 ⟨(some 46),.extract 1 (.tmp 41),none,0⟩,
 ⟨(some 8),.mov (.tmp 45),none,0⟩,
 ⟨(some 9),.mov (.tmp 46),none,0⟩])
 (.seq (.region 0 [] [
 ⟨(some 48),.load (some 9) (.tmp 7),none,0⟩,
 ⟨(some 49),.call 15 true [(.tmp 48)],none,0⟩,
 ⟨(some 50),.call 30 true [(.tmp 49)],none,0⟩,
 ⟨(some 47),.mov (.tmp 50),none,0⟩,
 ⟨(some 51),.extract 0 (.tmp 47),none,0⟩,
 ⟨(some 52),.extract 1 (.tmp 47),none,0⟩,
 ⟨(some 10),.mov (.tmp 51),none,0⟩,
 ⟨(some 11),.mov (.tmp 52),none,0⟩])
 (.seq (.seq (.region 0 [] [
 ⟨(some 53),.mov (.tmp 9),none,0⟩,
 ⟨(some 54),.bin .neq (.tmp 53) (.cst (.c (.int .i64 0))),none,0⟩,
 ⟨(some 55),.mov (.tmp 54),none,0⟩,
 ⟨(some 56),.mov (.tmp 11),some (55,false),0⟩,
 ⟨(some 57),.bin .neq (.tmp 56) (.cst (.c (.int .i64 0))),some (55,false),0⟩,
 ⟨(some 58),.pick (.tmp 55) (.cst (.c (.bool true))) (.tmp 57),none,0⟩,
 ⟨(some 59),.mov (.tmp 58),none,0⟩,
 ⟨(some 60),.mov (.tmp 10),some (59,false),0⟩,
 ⟨(some 61),.len (.tmp 60),some (59,false),0⟩,
 ⟨(some 62),.mov (.tmp 8),some (59,false),0⟩,
 ⟨(some 63),.len (.tmp 62),some (59,false),0⟩,
 ⟨(some 64),.bin .lss (.tmp 61) (.tmp 63),some (59,false),0⟩,
 ⟨(some 65),.pick (.tmp 59) (.cst (.c (.bool true))) (.tmp 64),none,0⟩,
 ⟨(some 66),.mov (.tmp 65),none,0⟩,
 ⟨(some 67),.mov (.tmp 10),some (66,false),0⟩,
 ⟨(some 68),.len (.tmp 67),some (66,false),0⟩,
 ⟨(some 69),.mov (.tmp 8),some (66,false),0⟩,
 ⟨(some 70),.len (.tmp 69),some (66,false),0⟩,
 ⟨(some 71),.bin .add (.tmp 70) (.cst (.c (.int .i64 1))),some (66,false),0⟩,
 ⟨(some 72),.bin .gtr (.tmp 68) (.tmp 71),some (66,false),0⟩,
 ⟨(some 73),.pick (.tmp 66) (.cst (.c (.bool true))) (.tmp 72),none,0⟩])
 (.cond (.tmp 73)
 (.seq (.region 0 [] [
 ⟨(some 6),.mov (.cst (.c (.bool false))),none,0⟩])
 .ret)
 .skip))
 (.seq (.seq (.region 0 [] [
 ⟨(some 74),.mov (.tmp 10),none,0⟩,
 ⟨(some 75),.len (.tmp 74),none,0⟩,
 ⟨(some 76),.bin .gtr (.tmp 75) (.cst (.c (.int .i64 0))),none,0⟩])
 (.cond (.tmp 76)
 (.seq (.region 0 [] [
 ⟨(some 77),.call 13 true [],none,0⟩,
 ⟨(some 6),.mov (.tmp 77),none,0⟩])
 .ret)
 .skip))
 (.seq (.region 0 [] [
 ⟨(some 78),.load (some 9) (.tmp 3),none,0⟩,
 ⟨(some 79),.mov (.tmp 2),none,0⟩,
 ⟨(some 80),.call 29 true [(.tmp 78),(.tmp 79)],none,0⟩,
 ⟨(some 12),.mov (.tmp 80),none,0⟩])
 (.seq (.region 1 [] [
 ⟨(some 82),.load (some 9) (.tmp 3),none,0⟩,
 ⟨(some 83),.call 15 true [(.tmp 82)],none,0⟩,
 ⟨(some 84),.mov (.tmp 12),none,0⟩,
 ⟨(some 85),.call 17 true [(.tmp 84)],none,0⟩,
 ⟨(some 86),.call 31 true [(.tmp 83),(.tmp 85)],none,0⟩,
 ⟨(some 81),.mov (.tmp 86),none,0⟩,
 ⟨(some 87),.extract 0 (.tmp 81),none,0⟩,
 ⟨(some 88),.extract 1 (.tmp 81),none,0⟩,
 ⟨(some 13),.alloc [(.int .i64 0),(.int .i64 0)],none,0⟩,
 ⟨none,.store (some 2) (.tmp 13) (.tmp 87),none,1⟩,
 ⟨(some 14),.mov (.tmp 88),none,1⟩])
 (.seq (.region 1 [] [
 ⟨(some 90),.load (some 9) (.tmp 7),none,0⟩,
 ⟨(some 91),.call 15 true [(.tmp 90)],none,0⟩,
 ⟨(some 92),.mov (.tmp 12),none,0⟩,
 ⟨(some 93),.call 17 true [(.tmp 92)],none,0⟩,
 ⟨(some 94),.call 31 true [(.tmp 91),(.tmp 93)],none,0⟩,
 ⟨(some 89),.mov (.tmp 94),none,0⟩,
 ⟨(some 95),.extract 0 (.tmp 89),none,0⟩,
 ⟨(some 96),.extract 1 (.tmp 89),none,0⟩,
 ⟨(some 15),.alloc [(.int .i64 0),(.int .i64 0)],none,0⟩,
 ⟨none,.store (some 2) (.tmp 15) (.tmp 95),none,1⟩,
 ⟨(some 16),.mov (.tmp 96),none,1⟩])
 (.seq (.region 0 [] [
 ⟨(some 98),.load (some 9) (.tmp 3),none,0⟩,
 ⟨(some 99),.call 15 true [(.tmp 98)],none,0⟩,
 ⟨(some 100),.call 32 true [(.tmp 99)],none,0⟩,
 ⟨(some 97),.mov (.tmp 100),none,0⟩,
 ⟨(some 101),.extract 0 (.tmp 97),none,0⟩,
 ⟨(some 102),.extract 1 (.tmp 97),none,0⟩,
 ⟨(some 103),.extract 2 (.tmp 97),none,0⟩,
 ⟨(some 17),.mov (.tmp 101),none,0⟩,
 ⟨(some 18),.mov (.tmp 102),none,0⟩,
 ⟨(some 19),.mov (.tmp 103),none,0⟩])
 (.seq (.region 0 [] [
 ⟨(some 105),.load (some 9) (.tmp 7),none,0⟩,
 ⟨(some 106),.call 15 true [(.tmp 105)],none,0⟩,
 ⟨(some 107),.call 32 true [(.tmp 106)],none,0⟩,
 ⟨(some 104),.mov (.tmp 107),none,0⟩,
 ⟨(some 108),.extract 0 (.tmp 104),none,0⟩,
 ⟨(some 109),.extract 1 (.tmp 104),none,0⟩,
 ⟨(some 110),.extract 2 (.tmp 104),none,0⟩,
 ⟨(some 20),.mov (.tmp 108),none,0⟩,
 ⟨(some 21),.mov (.tmp 109),none,0⟩,
 ⟨(some 22),.mov (.tmp 110),none,0⟩])
 (.seq (.region 0 [] [
 ⟨(some 111),.mov (.tmp 14),none,0⟩,
 ⟨(some 112),.bin .eql (.tmp 111) (.cst (.c (.int .i64 0))),none,0⟩,
 ⟨(some 113),.mov (.tmp 112),none,0⟩,
 ⟨(some 114),.mov (.tmp 16),some (113,true),0⟩,
 ⟨(some 115),.bin .eql (.tmp 114) (.cst (.c (.int .i64 0))),some (113,true),0⟩,
 ⟨(some 116),.pick (.tmp 113) (.tmp 115) (.cst (.c (.bool false))),none,0⟩,
 ⟨(some 117),.mov (.tmp 116),none,0⟩,
 ⟨(some 118),.load (some 2) (.tmp 15),some (117,true),0⟩,
 ⟨(some 119),.load (some 2) (.tmp 13),some (117,true),0⟩,
 ⟨(some 120),.call 33 true [(.tmp 118),(.tmp 119)],some (117,true),0⟩,
 ⟨(some 121),.pick (.tmp 117) (.tmp 120) (.cst (.c (.bool false))),none,0⟩,
 ⟨(some 122),.mov (.tmp 121),none,0⟩,
 ⟨(some 123),.mov (.tmp 19),some (122,true),0⟩,
 ⟨(some 124),.bin .eql (.tmp 123) (.cst (.c (.int .i64 0))),some (122,true),0⟩,
 ⟨(some 125),.pick (.tmp 122) (.tmp 124) (.cst (.c (.bool false))),none,0⟩,
 ⟨(some 126),.mov (.tmp 125),none,0⟩,
 ⟨(some 127),.mov (.tmp 22),some (126,true),0⟩,
 ⟨(some 128),.bin .eql (.tmp 127) (.cst (.c (.int .i64 0))),some (126,true),0⟩,
 ⟨(some 129),.pick (.tmp 126) (.tmp 128) (.cst (.c (.bool false))),none,0⟩,
 ⟨(some 130),.mov (.tmp 129),none,0⟩,
 ⟨(some 131),.mov (.tmp 21),some (130,true),0⟩,
 ⟨(some 132),.mov (.tmp 18),some (130,true),0⟩,
 ⟨(some 133),.bin .geq (.tmp 131) (.tmp 132),some (130,true),0⟩,
 ⟨(some 134),.pick (.tmp 130) (.tmp 133) (.cst (.c (.bool false))),none,0⟩,
 ⟨(some 135),.mov (.tmp 134),none,0⟩,
 ⟨(some 136),.call 13 true [],some (135,true),0⟩,
 ⟨(some 137),.pick (.tmp 135) (.tmp 136) (.cst (.c (.bool false))),none,0⟩,
 ⟨(some 6),.mov (.tmp 137),none,0⟩])
 .ret))))))))))))))⟩
/-- 7 isatis/isatislaw02.CropWider -/
def f7 : AFunc := ⟨233,[.tmp 8],false,
 (.seq (.region 1 [] [
 ⟨(some 4),.box (.tmp 0),none,0⟩,
 ⟨(some 8),.mov (.cst (.c (.bool false))),none,1⟩])
 (.seq (.seq (.region 0 [] [
 ⟨(some 31),.load (some 9) (.tmp 4),none,0⟩,
 ⟨(some 32),.call 26 true [(.tmp 31)],none,0⟩,
 ⟨(some 33),.not (.tmp 32),none,0⟩])
 (.cond (.tmp 33)
 (.seq (.region 0 [] [
 ⟨(some 34),.call 13 true [],none,0⟩,
 ⟨(some 8),.mov (.tmp 34),none,0⟩])
 .ret)
 .skip))
 (.seq (.region 1 [] [
 ⟨(some 35),.load (some 9) (.tmp 4),none,0⟩,
 ⟨(some 9),.alloc [(.int .i64 0),.nils,.nils,.nils,.nils,(.int .i64 0),(.int .i64 0),(.int .i64 0),.nils],none,0⟩,
 ⟨none,.store (some 9) (.tmp 9) (.tmp 35),none,1⟩])
 (.seq (.region 6 [(0,1),(0,2),(0,4),(1,4),(2,4),(3,4),(0,5),(1,5),(2,5),(3,5),(4,5),(0,6),(1,6),(2,6),(3,6),(4,6),(0,8),(1,8),(2,8),(3,8),(4,8),(5,8),(6,8),(7,8),(0,9),(1,9),(2,9),(3,9),(4,9),(5,9),(6,9),(7,9),(8,9),(0,10),(1,10),(2,10),(3,10),(4,10),(5,10),(6,10),(7,10),(8,10),(4,12),(5,12),(6,12),(7,12),(8,12),(9,12),(10,12),(11,12)] [
 ⟨(some 36),.bslice 2 0 [(.int .i64 0),(.int .i64 0)] [],none,0⟩,
 ⟨(some 37),.faddr 1 (.tmp 4),none,1⟩,
 ⟨(some 38),.load none (.tmp 37),none,1⟩,
 ⟨(some 39),.append 2 16 (.tmp 36) (.tmp 38),none,1⟩,
 ⟨(some 40),.bslice 1 0 [(.int .i64 0)] [],none,2⟩,
 ⟨(some 41),.faddr 2 (.tmp 4),none,3⟩,
 ⟨(some 42),.load none (.tmp 41),none,3⟩,
 ⟨(some 43),.append 1 8 (.tmp 40) (.tmp 42),none,3⟩,
 ⟨(some 44),.bslice 3 0 [(.int .i64 0),(.int .i64 0),(.int .i64 0)] [],none,4⟩,
 ⟨(some 45),.faddr 8 (.tmp 4),none,5⟩,
 ⟨(some 46),.load none (.tmp 45),none,5⟩,
 ⟨(some 47),.append 3 24 (.tmp 44) (.tmp 46),none,5⟩,
 ⟨(some 48),.faddr 1 (.tmp 9),none,6⟩,
 ⟨none,.store none (.tmp 48) (.tmp 39),none,6⟩,
 ⟨(some 49),.faddr 2 (.tmp 9),none,6⟩,
 ⟨none,.store none (.tmp 49) (.tmp 43),none,6⟩,
 ⟨(some 50),.faddr 8 (.tmp 9),none,6⟩,
 ⟨none,.store none (.tmp 50) (.tmp 47),none,6⟩])
 (.seq (.region 0 [] [
 ⟨(some 51),.mov (.tmp 2),none,0⟩,
 ⟨(some 52),.conv .i64 (.tmp 51),none,0⟩,
 ⟨(some 53),.bin .rem (.tmp 52) (.cst (.c (.int .i64 3))),none,0⟩,
 ⟨(some 54),.mov (.tmp 2),none,0⟩,
 ⟨(some 55),.conv .i64 (.tmp 54),none,0⟩,
 ⟨(some 56),.bin .quo (.tmp 55) (.cst (.c (.int .i64 4))),none,0⟩,
 ⟨(some 57),.bin .rem (.tmp 56) (.cst (.c (.int .i64 3))),none,0⟩,
 ⟨(some 10),.mov (.tmp 53),none,0⟩,
 ⟨(some 11),.mov (.tmp 57),none,0⟩])
 (.seq (.region 0 [] [
 ⟨(some 58),.mov (.tmp 1),none,0⟩,
 ⟨(some 59),.conv .i64 (.tmp 58),none,0⟩,
 ⟨(some 60),.bin .quo (.tmp 59) (.cst (.c (.int .i64 3))),none,0⟩,
 ⟨(some 12),.mov (.tmp 60),none,0⟩])
 (.seq (.seq (.region 0 [] [
 ⟨(some 61),.mov (.tmp 1),none,0⟩,
 ⟨(some 62),.bin .rem (.tmp 61) (.cst (.c (.int .u8 3))),none,0⟩,
 ⟨(some 63),.bin .eql (.tmp 62) (.cst (.c (.int .u8 0))),none,0⟩])
 (.cond (.tmp 63)
 (.seq (.region 0 [(0,2),(1,2),(0,3),(1,3),(2,3),(0,4),(1,4),(2,4),(0,5),(1,5),(2,5),(0,6),(1,6)] [
 ⟨(some 64),.faddr 1 (.tmp 9),none,0⟩,
 ⟨(some 65),.load none (.tmp 64),none,0⟩,
 ⟨(some 66),.mov (.tmp 12),none,0⟩,
 ⟨(some 67),.faddr 1 (.tmp 9),none,0⟩,
 ⟨(some 68),.load none (.tmp 67),none,0⟩,
 ⟨(some 69),.len (.tmp 68),none,0⟩,
 ⟨(some 70),.bin .rem (.tmp 66) (.tmp 69),none,0⟩,
 ⟨(some 71),.iaddr 2 (.tmp 65) (.tmp 70),none,0⟩,
 ⟨(some 13),.mov (.tmp 71),none,0⟩])
 (.region 0 [(0,1),(0,2),(1,2),(0,3),(1,3),(0,4),(1,4),(0,5),(1,5),(0,6),(1,6),(2,6),(3,6),(4,6),(5,6),(0,7),(1,7),(0,8),(1,8),(0,9),(1,9),(2,9),(3,9),(4,9),(5,9),(6,9),(7,9),(8,9),(0,10),(1,10),(2,10),(3,10),(4,10),(5,10),(6,10),(7,10),(8,10),(0,11),(1,11),(2,11),(3,11),(4,11),(5,11),(6,11),(7,11),(8,11),(0,12),(1,12),(2,12),(3,12),(4,12),(5,12),(6,12),(7,12),(8,12),(0,13),(1,13),(2,13),(3,13),(4,13),(5,13),(6,13),(7,13),(8,13),(9,13),(10,13),(11,13),(12,13),(0,14),(1,14),(2,14),(3,14),(4,14),(5,14),(6,14),(7,14),(8,14),(0,15),(1,15),(2,15),(3,15),(4,15),(5,15),(6,15),(7,15),(8,15),(1,16),(13,16),(14,16),(15,16),(1,17),(13,17),(14,17),(15,17),(1,18),(13,18),(14,18),(15,18)] [
 ⟨(some 72),.mov (.tmp 13),none,0⟩,
 ⟨(some 73),.mov (.tmp 13),none,0⟩,
 ⟨(some 74),.mov (.tmp 13),none,0⟩,
 ⟨(some 75),.nilchk (.tmp 74),none,0⟩,
 ⟨(some 76),.faddr 0 (.tmp 75),none,0⟩,
 ⟨(some 77),.load none (.tmp 76),none,0⟩,
 ⟨(some 78),.mov (.tmp 10),none,0⟩,
 ⟨(some 79),.bin .sub (.tmp 77) (.tmp 78),none,0⟩,
 ⟨(some 80),.mm true (.cst (.c (.int .i64 0))) (.tmp 79),none,0⟩,
 ⟨(some 81),.mov (.tmp 13),none,0⟩,
 ⟨(some 82),.nilchk (.tmp 81),none,0⟩,
 ⟨(some 83),.faddr 1 (.tmp 82),none,0⟩,
 ⟨(some 84),.load none (.tmp 83),none,0⟩,
 ⟨(some 85),.mov (.tmp 11),none,0⟩,
 ⟨(some 86),.bin .add (.tmp 84) (.tmp 85),none,0⟩,
 ⟨(some 87),.mm false (.cst (.c (.int .i64 50))) (.tmp 86),none,0⟩,
 ⟨(some 88),.nilchk (.tmp 72),none,0⟩,
 ⟨(some 89),.faddr 0 (.tmp 88),none,0⟩,
 ⟨none,.store none (.tmp 89) (.tmp 80),none,0⟩,
 ⟨(some 90),.nilchk (.tmp 73),none,0⟩,
 ⟨(some 91),.faddr 1 (.tmp 90),none,0⟩,
 ⟨none,.store none (.tmp 91) (.tmp 87),none,0⟩]))
 .skip))
 (.seq (.seq (.region 0 [] [
 ⟨(some 92),.mov (.tmp 1),none,0⟩,
 ⟨(some 93),.bin .rem (.tmp 92) (.cst (.c (.int .u8 3))),none,0⟩,
 ⟨(some 94),.bin .eql (.tmp 93) (.cst (.c (.int .u8 1))),none,0⟩])
 (.cond (.tmp 94)
 (.region 0 [(0,2),(1,2),(0,3),(1,3),(2,3),(0,4),(1,4),(2,4),(0,5),(1,5),(2,5),(0,6),(1,6)] [
 ⟨(some 95),.faddr 2 (.tmp 9),none,0⟩,
 ⟨(some 96),.load none (.tmp 95),none,0⟩,
 ⟨(some 97),.mov (.tmp 12),none,0⟩,
 ⟨(some 98),.faddr 2 (.tmp 9),none,0⟩,
 ⟨(some 99),.load none (.tmp 98),none,0⟩,
 ⟨(some 100),.len (.tmp 99),none,0⟩,
 ⟨(some 101),.bin .rem (.tmp 97) (.tmp 100),none,0⟩,
 ⟨(some 102),.iaddr 1 (.tmp 96) (.tmp 101),none,0⟩,
 ⟨none,.store none (.tmp 102) (.cst (.c (.int .i64 2))),none,0⟩])
 .skip))
 (.seq (.seq (.region 0 [] [
 ⟨(some 103),.faddr 8 (.tmp 9),none,0⟩,
 ⟨(some 104),.load none (.tmp 103),none,0⟩,
 ⟨(some 105),.len (.tmp 104),none,0⟩,
 ⟨(some 14),.mov (.tmp 105),none,0⟩])
 (.seq (.region 0 [] [
 ⟨(some 106),.mov (.tmp 1),none,0⟩,
 ⟨(some 107),.bin .rem (.tmp 106) (.cst (.c (.int .u8 3))),none,0⟩,
 ⟨(some 108),.bin .eql (.tmp 107) (.cst (.c (.int .u8 2))),none,0⟩,
 ⟨(some 109),.mov (.tmp 108),none,0⟩,
 ⟨(some 110),.mov (.tmp 14),some (109,true),0⟩,
 ⟨(some 111),.bin .gtr (.tmp 110) (.cst (.c (.int .i64 0))),some (109,true),0⟩,
 ⟨(some 112),.pick (.tmp 109) (.tmp 111) (.cst (.c (.bool false))),none,0⟩])
 (.cond (.tmp 112)
 (.seq (.region 0 [(0,2),(1,2),(0,3),(1,3),(2,3),(0,4),(1,4)] [
 ⟨(some 113),.faddr 8 (.tmp 9),none,0⟩,
 ⟨(some 114),.load none (.tmp 113),none,0⟩,
 ⟨(some 115),.mov (.tmp 12),none,0⟩,
 ⟨(some 116),.mov (.tmp 14),none,0⟩,
 ⟨(some 117),.bin .rem (.tmp 115) (.tmp 116),none,0⟩,
 ⟨(some 118),.iaddr 3 (.tmp 114) (.tmp 117),none,0⟩,
 ⟨(some 119),.faddr 1 (.tmp 118),none,0⟩,
 ⟨(some 15),.mov (.tmp 119),none,0⟩])
 (.region 0 [(0,1),(0,2),(1,2),(0,3),(1,3),(0,4),(1,4),(0,5),(1,5),(0,6),(1,6),(2,6),(3,6),(4,6),(5,6),(0,7),(1,7),(0,8),(1,8),(0,9),(1,9),(2,9),(3,9),(4,9),(5,9),(6,9),(7,9),(8,9),(0,10),(1,10),(2,10),(3,10),(4,10),(5,10),(6,10),(7,10),(8,10),(0,11),(1,11),(2,11),(3,11),(4,11),(5,11),(6,11),(7,11),(8,11),(0,12),(1,12),(2,12),(3,12),(4,12),(5,12),(6,12),(7,12),(8,12),(0,13),(1,13),(2,13),(3,13),(4,13),(5,13),(6,13),(7,13),(8,13),(9,13),(10,13),(11,13),(12,13),(0,14),(1,14),(2,14),(3,14),(4,14),(5,14),(6,14),(7,14),(8,14),(0,15),(1,15),(2,15),(3,15),(4,15),(5,15),(6,15),(7,15),(8,15),(1,16),(13,16),(14,16),(15,16),(1,17),(13,17),(14,17),(15,17),(1,18),(13,18),(14,18),(15,18)] [
 ⟨(some 120),.mov (.tmp 15),none,0⟩,
 ⟨(some 121),.mov (.tmp 15),none,0⟩,
 ⟨(some 122),.mov (.tmp 15),none,0⟩,
 ⟨(some 123),.nilchk (.tmp 122),none,0⟩,
 ⟨(some 124),.faddr 0 (.tmp 123),none,0⟩,
 ⟨(some 125),.load none (.tmp 124),none,0⟩,
 ⟨(some 126),.mov (.tmp 10),none,0⟩,
 ⟨(some 127),.bin .sub (.tmp 125) (.tmp 126),none,0⟩,
 ⟨(some 128),.mm true (.cst (.c (.int .i64 0))) (.tmp 127),none,0⟩,
 ⟨(some 129),.mov (.tmp 15),none,0⟩,
 ⟨(some 130),.nilchk (.tmp 129),none,0⟩,
 ⟨(some 131),.faddr 1 (.tmp 130),none,0⟩,
 ⟨(some 132),.load none (.tmp 131),none,0⟩,
 ⟨(some 133),.mov (.tmp 11),none,0⟩,
 ⟨(some 134),.bin .add (.tmp 132) (.tmp 133),none,0⟩,
 ⟨(some 135),.mm false (.cst (.c (.int .i64 1000))) (.tmp 134),none,0⟩,
 ⟨(some 136),.nilchk (.tmp 120),none,0⟩,
 ⟨(some 137),.faddr 0 (.tmp 136),none,0⟩,
 ⟨none,.store none (.tmp 137) (.tmp 128),none,0⟩,
 ⟨(some 138),.nilchk (.tmp 121),none,0⟩,
 ⟨(some 139),.faddr 1 (.tmp 138),none,0⟩,
 ⟨none,.store none (.tmp 139) (.tmp 135),none,0⟩]))
 .skip)))
 (.seq (.seq (.region 0 [] [
 ⟨(some 140),.load (some 9) (.tmp 9),none,0⟩,
 ⟨(some 141),.call 26 true [(.tmp 140)],none,0⟩,
 ⟨(some 142),.not (.tmp 141),none,0⟩])
 (.cond (.tmp 142)
 (.seq (.region 0 [] [
 ⟨(some 143),.call 13 true [],none,0⟩,
 ⟨(some 8),.mov (.tmp 143),none,0⟩])
 .ret)
 .skip))
 (.seq (.region 0 [] [
 ⟨(some 145),.load (some 9) (.tmp 4),none,0⟩,
 ⟨(some 146),.call 15 true [(.tmp 145)],none,0⟩,
 ⟨(some 147),.call 30 true [(.tmp 146)],none,0⟩,
 ⟨(some 144),.mov (.tmp 147),none,0⟩,
 ⟨(some 148),.extract 0 (.tmp 144),none,0⟩,
 ⟨(some 149),.extract 1 (.tmp 144),none,0⟩,
 ⟨(some 16),.mov (.tmp 148),none,0⟩,
 ⟨(some 17),.mov (.tmp 149),none,0⟩])
 (.seq (.region 0 [] [
 ⟨(some 151),.load (some 9) (.tmp 9),none,0⟩,
 ⟨(some 152),.call 15 true [(.tmp 151)],none,0⟩,
 ⟨(some 153),.call 30 true [(.tmp 152)],none,0⟩,
 ⟨(some 150),.mov (.tmp 153),none,0⟩,
 ⟨(some 154),.extract 0 (.tmp 150),none,0⟩,
 ⟨(some 155),.extract 1 (.tmp 150),none,0⟩,
 ⟨(some 18),.mov (.tmp 154),none,0⟩,
 ⟨(some 19),.mov (.tmp 155),none,0⟩])
 (.seq (.seq (.region 0 [] [
 ⟨(some 156),.mov (.tmp 17),none,0⟩,
 ⟨(some 157),.bin .neq (.tmp 156) (.cst (.c (.int .i64 0))),none,0⟩,
 ⟨(some 158),.mov (.tmp 157),none,0⟩,
 ⟨(some 159),.mov (.tmp 19),some (158,false),0⟩,
 ⟨(some 160),.bin .neq (.tmp 159) (.cst (.c (.int .i64 0))),some (158,false),0⟩,
 ⟨(some 161),.pick (.tmp 158) (.cst (.c (.bool true))) (.tmp 160),none,0⟩,
 ⟨(some 162),.mov (.tmp 161),none,0⟩,
 ⟨(some 163),.mov (.tmp 18),some (162,false),0⟩,
 ⟨(some 164),.len (.tmp 163),some (162,false),0⟩,
 ⟨(some 165),.mov (.tmp 16),some (162,false),0⟩,
 ⟨(some 166),.len (.tmp 165),some (162,false),0⟩,
 ⟨(some 167),.bin .gtr (.tmp 164) (.tmp 166),some (162,false),0⟩,
 ⟨(some 168),.pick (.tmp 162) (.cst (.c (.bool true))) (.tmp 167),none,0⟩])
 (.cond (.tmp 168)
 (.seq (.region 0 [] [
 ⟨(some 8),.mov (.cst (.c (.bool false))),none,0⟩])
 .ret)
 .skip))
 (.seq (.seq (.region 0 [] [
 ⟨(some 169),.mov (.tmp 16),none,0⟩,
 ⟨(some 170),.len (.tmp 169),none,0⟩,
 ⟨(some 171),.bin .gtr (.tmp 170) (.cst (.c (.int .i64 0))),none,0⟩])
 (.cond (.tmp 171)
 (.seq (.region 0 [] [
 ⟨(some 172),.call 13 true [],none,0⟩,
 ⟨(some 8),.mov (.tmp 172),none,0⟩])
 .ret)
 .skip))
 (.seq (.region 0 [] [
 ⟨(some 173),.load (some 9) (.tmp 4),none,0⟩,
 ⟨(some 174),.mov (.tmp 3),none,0⟩,
 ⟨(some 175),.call 29 true [(.tmp 173),(.tmp 174)],none,0⟩,
 ⟨(some 20),.mov (.tmp 175),none,0⟩])
 (.seq (.region 1 [] [
 ⟨(some 177),.load (some 9) (.tmp 4),none,0⟩,
 ⟨(some 178),.call 15 true [(.tmp 177)],none,0⟩,
 ⟨(some 179),.mov (.tmp 20),none,0⟩,
 ⟨(some 180),.call 17 true [(.tmp 179)],none,0⟩,
 ⟨(some 181),.call 31 true [(.tmp 178),(.tmp 180)],none,0⟩,
 ⟨(some 176),.mov (.tmp 181),none,0⟩,
 ⟨(some 182),.extract 0 (.tmp 176),none,0⟩,
 ⟨(some 183),.extract 1 (.tmp 176),none,0⟩,
 ⟨(some 21),.alloc [(.int .i64 0),(.int .i64 0)],none,0⟩,
 ⟨none,.store (some 2) (.tmp 21) (.tmp 182),none,1⟩,
 ⟨(some 22),.mov (.tmp 183),none,1⟩])
 (.seq (.region 1 [] [
 ⟨(some 185),.load (some 9) (.tmp 9),none,0⟩,
 ⟨(some 186),.call 15 true [(.tmp 185)],none,0⟩,
 ⟨(some 187),.mov (.tmp 20),none,0⟩,
 ⟨(some 188),.call 17 true [(.tmp 187)],none,0⟩,
 ⟨(some 189),.call 31 true [(.tmp 186),(.tmp 188)],none,0⟩,
 ⟨(some 184),.mov (.tmp 189),none,0⟩,
 ⟨(some 190),.extract 0 (.tmp 184),none,0⟩,
 ⟨(some 191),.extract 1 (.tmp 184),none,0⟩,
 ⟨(some 23),.alloc [(.int .i64 0),(.int .i64 0)],none,0⟩,
 ⟨none,.store (some 2) (.tmp 23) (.tmp 190),none,1⟩,
 ⟨(some 24),.mov (.tmp 191),none,1⟩])
 (.seq (.region 0 [] [
 ⟨(some 193),.load (some 9) (.tmp 4),none,0⟩,
 ⟨(some 194),.call 15 true [(.tmp 193)],none,0⟩,
 ⟨(some 195),.call 32 true [(.tmp 194)],none,0⟩,
 ⟨(some 192),.mov (.tmp 195),none,0⟩,
 ⟨(some 196),.extract 0 (.tmp 192),none,0⟩,
 ⟨(some 197),.extract 1 (.tmp 192),none,0⟩,
 ⟨(some 198),.extract 2 (.tmp 192),none,0⟩,
 ⟨(some 25),.mov (.tmp 196),none,0⟩,
 ⟨(some 26),.mov (.tmp 197),none,0⟩,
 ⟨(some 27),.mov (.tmp 198),none,0⟩])
 (.seq (.region 0 [] [
 ⟨(some 200),.load (some 9) (.tmp 9),none,0⟩,
 ⟨(some 201),.call 15 true [(.tmp 200)],none,0⟩,
 ⟨(some 202),.call 32 true [(.tmp 201)],none,0⟩,
 ⟨(some 199),.mov (.tmp 202),none,0⟩,
 ⟨(some 203),.extract 0 (.tmp 199),none,0⟩,
 ⟨(some 204),.extract 1 (.tmp 199),none,0⟩,
 ⟨(some 205),.extract 2 (.tmp 199),none,0⟩,
 ⟨(some 28),.mov (.tmp 203),none,0⟩,
 ⟨(some 29),.mov (.tmp 204),none,0⟩,
 ⟨(some 30),.mov (.tmp 205),none,0⟩])
 (.seq (.region 0 [] [
 ⟨(some 206),.mov (.tmp 22),none,0⟩,
 ⟨(some 207),.bin .eql (.tmp 206) (.cst (.c (.int .i64 0))),none,0⟩,
 ⟨(some 208),.mov (.tmp 207),none,0⟩,
 ⟨(some 209),.mov (.tmp 24),some (208,true),0⟩,
 ⟨(some 210),.bin .eql (.tmp 209) (.cst (.c (.int .i64 0))),some (208,true),0⟩,
 ⟨(some 211),.pick (.tmp 208) (.tmp 210) (.cst (.c (.bool false))),none,0⟩,
 ⟨(some 212),.mov (.tmp 211),none,0⟩,
 ⟨(some 213),.load (some 2) (.tmp 21),some (212,true),0⟩,
 ⟨(some 214),.load (some 2) (.tmp 23),some (212,true),0⟩,
 ⟨(some 215),.call 33 true [(.tmp 213),(.tmp 214)],some (212,true),0⟩,
 ⟨(some 216),.pick (.tmp 212) (.tmp 215) (.cst (.c (.bool false))),none,0⟩,
 ⟨(some 217),.mov (.tmp 216),none,0⟩,
 ⟨(some 218),.mov (.tmp 27),some (217,true),0⟩,
 ⟨(some 219),.bin .eql (.tmp 218) (.cst (.c (.int .i64 0))),some (217,true),0⟩,
 ⟨(some 220),.pick (.tmp 217) (.tmp 219) (.cst (.c (.bool false))),none,0⟩,
 ⟨(some 221),.mov (.tmp 220),none,0⟩,
 ⟨(some 222),.mov (.tmp 30),some (221,true),0⟩,
 ⟨(some 223),.bin .eql (.tmp 222) (.cst (.c (.int .i64 0))),some (221,true),0⟩,
 ⟨(some 224),.pick (.tmp 221) (.tmp 223) (.cst (.c (.bool false))),none,0⟩,
 ⟨(some 225),.mov (.tmp 224),none,0⟩,
 ⟨(some 226),.mov (.tmp 29),some (225,true),0⟩,
 ⟨(some 227),.mov (.tmp 26),some (225,true),0⟩,
 ⟨(some 228),.bin .leq (.tmp 226) (.tmp 227),some (225,true),0⟩,
 ⟨(some 229),.pick (.tmp 225) (.tmp 228) (.cst (.c (.bool false))),none,0⟩,
 ⟨(some 230),.mov (.tmp 229),none,0⟩,
 ⟨(some 231),.call 13 true [],some (230,true),0⟩,
 ⟨(some 232),.pick (.tmp 230) (.tmp 231) (.cst (.c (.bool false))),none,0⟩,
 ⟨(some 8),.mov (.tmp 232),none,0⟩])
 .ret))))))))))))))))))))⟩
/-- 8 isatis/isatislaw02.CropFirst -/
def f8 : AFunc := ⟨76,[.tmp 2],false,
 (.seq (.region 1 [] [
 ⟨(some 1),.box (.tmp 0),none,0⟩,
 ⟨(some 2),.mov (.cst (.c (.bool false))),none,1⟩])
 (.seq (.seq (.region 0 [] [
 ⟨(some 11),.load (some 9) (.tmp 1),none,0⟩,
 ⟨(some 12),.call 26 true [(.tmp 11)],none,0⟩,
 ⟨(some 13),.not (.tmp 12),none,0⟩])
 (.cond (.tmp 13)
 (.seq (.region 0 [] [
 ⟨(some 14),.call 13 true [],none,0⟩,
 ⟨(some 2),.mov (.tmp 14),none,0⟩])
 .ret)
 .skip))
 (.seq (.region 0 [] [
 ⟨(some 16),.load (some 9) (.tmp 1),none,0⟩,
 ⟨(some 17),.call 15 true [(.tmp 16)],none,0⟩,
 ⟨(some 18),.call 34 true [(.tmp 17)],none,0⟩,
 ⟨(some 15),.mov (.tmp 18),none,0⟩,
 ⟨(some 19),.extract 0 (.tmp 15),none,0⟩,
 ⟨(some 20),.extract 1 (.tmp 15),none,0⟩,
 ⟨(some 3),.mov (.tmp 19),none,0⟩,
 ⟨(some 4),.mov (.tmp 20),none,0⟩])
 (.seq (.seq (.region 0 [] [
 ⟨(some 21),.mov (.tmp 4),none,0⟩,
 ⟨(some 22),.bin .neq (.tmp 21) (.cst (.c (.int .i64 0))),none,0⟩])
 (.cond (.tmp 22)
 (.seq (.region 1 [] [
 ⟨(some 24),.load (some 9) (.tmp 1),none,0⟩,
 ⟨(some 25),.call 15 true [(.tmp 24)],none,0⟩,
 ⟨(some 26),.call 31 true [(.tmp 25),(.cst (.c .nils))],none,0⟩,
 ⟨(some 23),.mov (.tmp 26),none,0⟩,
 ⟨(some 27),.extract 0 (.tmp 23),none,0⟩,
 ⟨(some 28),.extract 1 (.tmp 23),none,0⟩,
 ⟨(some 5),.alloc [(.int .i64 0),(.int .i64 0)],none,0⟩,
 ⟨none,.store (some 2) (.tmp 5) (.tmp 27),none,1⟩,
 ⟨(some 6),.mov (.tmp 28),none,1⟩])
 (.seq (.region 0 [] [
 ⟨(some 29),.mov (.tmp 4),none,0⟩,
 ⟨(some 30),.bin .eql (.tmp 29) (.cst (.c (.int .i64 7))),none,0⟩,
 ⟨(some 31),.mov (.tmp 30),none,0⟩,
 ⟨(some 32),.mov (.tmp 6),some (31,true),0⟩,
 ⟨(some 33),.bin .eql (.tmp 32) (.cst (.c (.int .i64 0))),some (31,true),0⟩,
 ⟨(some 34),.pick (.tmp 31) (.tmp 33) (.cst (.c (.bool false))),none,0⟩,
 ⟨(some 35),.mov (.tmp 34),none,0⟩,
 ⟨(some 36),.call 13 true [],some (35,true),0⟩,
 ⟨(some 37),.pick (.tmp 35) (.tmp 36) (.cst (.c (.bool false))),none,0⟩,
 ⟨(some 2),.mov (.tmp 37),none,0⟩])
 .ret))
 .skip))
 (.seq (.seq (.region 0 [] [
 ⟨(some 38),.mov (.tmp 3),none,0⟩,
 ⟨(some 39),.faddr 8 (.tmp 1),none,0⟩,
 ⟨(some 40),.load none (.tmp 39),none,0⟩,
 ⟨(some 41),.len (.tmp 40),none,0⟩,
 ⟨(some 42),.bin .sub (.tmp 41) (.cst (.c (.int .i64 1))),none,0⟩,
 ⟨(some 43),.call 35 true [(.tmp 38),(.cst (.c (.int .i64 0))),(.tmp 42)],none,0⟩,
 ⟨(some 44),.not (.tmp 43),none,0⟩])
 (.cond (.tmp 44)
 (.seq (.region 0 [] [
 ⟨(some 2),.mov (.cst (.c (.bool false))),none,0⟩])
 .ret)
 .skip))
 (.seq (.region 1 [] [
 ⟨(some 46),.load (some 9) (.tmp 1),none,0⟩,
 ⟨(some 47),.mov (.tmp 3),none,0⟩,
 ⟨(some 48),.conv .u64 (.tmp 47),none,0⟩,
 ⟨(some 49),.bin .shl (.cst (.c (.int .i64 1))) (.tmp 48),none,0⟩,
 ⟨(some 50),.bin .sub (.tmp 49) (.cst (.c (.int .i64 1))),none,0⟩,
 ⟨(some 51),.call 36 true [(.tmp 46),(.tmp 50)],none,0⟩,
 ⟨(some 52),.call 15 true [(.tmp 51)],none,0⟩,
 ⟨(some 53),.call 31 true [(.tmp 52),(.cst (.c .nils))],none,0⟩,
 ⟨(some 45),.mov (.tmp 53),none,0⟩,
 ⟨(some 54),.extract 0 (.tmp 45),none,0⟩,
 ⟨(some 55),.extract 1 (.tmp 45),none,0⟩,
 ⟨(some 7),.alloc [(.int .i64 0),(.int .i64 0)],none,0⟩,
 ⟨none,.store (some 2) (.tmp 7) (.tmp 54),none,1⟩,
 ⟨(some 8),.mov (.tmp 55),none,1⟩])
 (.seq (.region 1 [] [
 ⟨(some 57),.load (some 9) (.tmp 1),none,0⟩,
 ⟨(some 58),.mov (.tmp 3),none,0⟩,
 ⟨(some 59),.conv .u64 (.tmp 58),none,0⟩,
 ⟨(some 60),.bin .shl (.cst (.c (.int .i64 2))) (.tmp 59),none,0⟩,
 ⟨(some 61),.bin .sub (.tmp 60) (.cst (.c (.int .i64 1))),none,0⟩,
 ⟨(some 62),.call 36 true [(.tmp 57),(.tmp 61)],none,0⟩,
 ⟨(some 63),.call 15 true [(.tmp 62)],none,0⟩,
 ⟨(some 64),.call 31 true [(.tmp 63),(.cst (.c .nils))],none,0⟩,
 ⟨(some 56),.mov (.tmp 64),none,0⟩,
 ⟨(some 65),.extract 0 (.tmp 56),none,0⟩,
 ⟨(some 66),.extract 1 (.tmp 56),none,0⟩,
 ⟨(some 9),.alloc [(.int .i64 0),(.int .i64 0)],none,0⟩,
 ⟨none,.store (some 2) (.tmp 9) (.tmp 65),none,1⟩,
 ⟨(some 10),.mov (.tmp 66),none,1⟩])
 (.seq (.region 0 [] [
 ⟨(some 67),.mov (.tmp 8),none,0⟩,
 ⟨(some 68),.bin .eql (.tmp 67) (.cst (.c (.int .i64 0))),none,0⟩,
 ⟨(some 69),.mov (.tmp 68),none,0⟩,
 ⟨(some 70),.mov (.tmp 10),some (69,true),0⟩,
 ⟨(some 71),.bin .eql (.tmp 70) (.cst (.c (.int .i64 11))),some (69,true),0⟩,
 ⟨(some 72),.pick (.tmp 69) (.tmp 71) (.cst (.c (.bool false))),none,0⟩,
 ⟨(some 73),.mov (.tmp 72),none,0⟩,
 ⟨(some 74),.call 13 true [],some (73,true),0⟩,
 ⟨(some 75),.pick (.tmp 73) (.tmp 74) (.cst (.c (.bool false))),none,0⟩,
 ⟨(some 2),.mov (.tmp 75),none,0⟩])
 .ret))))))))⟩
/-- 9 isatis/isatislaw02.CropLeft | loop 0 vars [7,8] kill 46 makes false -/
def f9 : AFunc := ⟨118,[.tmp 4],false,
 (.seq (.region 1 [] [
 ⟨(some 2),.box (.tmp 0),none,0⟩,
 ⟨(some 4),.mov (.cst (.c (.bool false))),none,1⟩])
 (.seq (.seq (.region 0 [] [
 ⟨(some 14),.load (some 9) (.tmp 2),none,0⟩,
 ⟨(some 15),.call 26 true [(.tmp 14)],none,0⟩,
 ⟨(some 16),.not (.tmp 15),none,0⟩])
 (.cond (.tmp 16)
 (.seq (.region 0 [] [
 ⟨(some 17),.call 13 true [],none,0⟩,
 ⟨(some 4),.mov (.tmp 17),none,0⟩])
 .ret)
 .skip))
 (.seq (.region 0 [] [
 ⟨(some 19),.load (some 9) (.tmp 2),none,0⟩,
 ⟨(some 20),.call 15 true [(.tmp 19)],none,0⟩,
 ⟨(some 21),.call 30 true [(.tmp 20)],none,0⟩,
 ⟨(some 18),.mov (.tmp 21),none,0⟩,
 ⟨(some 22),.extract 0 (.tmp 18),none,0⟩,
 ⟨(some 23),.extract 1 (.tmp 18),none,0⟩,
 ⟨(some 5),.mov (.tmp 22),none,0⟩,
 ⟨(some 6),.mov (.tmp 23),none,0⟩])
 (.seq (.seq (.region 0 [] [
 ⟨(some 24),.mov (.tmp 6),none,0⟩,
 ⟨(some 25),.bin .neq (.tmp 24) (.cst (.c (.int .i64 0))),none,0⟩])
 (.cond (.tmp 25)
 (.seq (.region 0 [] [
 ⟨(some 4),.mov (.cst (.c (.bool false))),none,0⟩])
 .ret)
 .skip))
 (.seq (.region 0 [] [
 ⟨(some 7),.mov (.cst (.c (.int .i64 0))),none,0⟩])
 (.seq (.seq (.region 0 [] [
 ⟨(some 8),.mov (.cst (.c (.int .i64 0))),none,0⟩])
 (.block 0 (.loop ⟨[4,26,27,28,29,30,31,32,33,34,35,36,37,38,39,40,41,42,43,44,45,46,47,48,49,50,51,52,53,54,55,56,57,58,59,60,61,62,63,64,65,66,67,68,69,70],false,[]⟩
 (.seq (.seq (.region 0 [] [
 ⟨(some 26),.mov (.tmp 8),none,0⟩,
 ⟨(some 27),.mov (.tmp 5),none,0⟩,
 ⟨(some 28),.len (.tmp 27),none,0⟩,
 ⟨(some 29),.bin .lss (.tmp 26) (.tmp 28),none,0⟩])
 (.cond (.tmp 29)
 .skip
 (.exit 0)))
 (.seq (.block 1 (.seq (.seq (.region 0 [(0,1),(6,7),(6,10),(7,10),(8,10),(9,10),(6,11),(7,11),(8,11),(9,11),(6,12),(7,12),(8,12),(9,12),(19,20),(19,23),(20,23),(21,23),(22,23),(19,24),(20,24),(21,24),(22,24),(23,24),(19,25),(20,25),(21,25),(22,25),(23,25),(19,26),(20,26),(21,26),(22,26),(19,27),(20,27),(21,27),(22,27)] [
 ⟨(some 32),.mov (.tmp 5),none,0⟩,
 ⟨(some 33),.mov (.tmp 8),none,0⟩,
 ⟨(some 34),.iaddr 1 (.tmp 32) (.tmp 33),none,0⟩,
 ⟨(some 35),.load none (.tmp 34),none,0⟩,
 ⟨(some 36),.bin .lss (.tmp 35) (.cst (.c (.int .i64 0))),none,0⟩,
 ⟨(some 37),.mov (.tmp 36),none,0⟩,
 ⟨(some 38),.mov (.tmp 5),some (37,false),0⟩,
 ⟨(some 39),.mov (.tmp 8),some (37,false),0⟩,
 ⟨(some 40),.iaddr 1 (.tmp 38) (.tmp 39),some (37,false),0⟩,
 ⟨(some 41),.load none (.tmp 40),some (37,false),0⟩,
 ⟨(some 42),.faddr 8 (.tmp 2),some (37,false),0⟩,
 ⟨(some 43),.load none (.tmp 42),some (37,false),0⟩,
 ⟨(some 44),.len (.tmp 43),some (37,false),0⟩,
 ⟨(some 45),.bin .geq (.tmp 41) (.tmp 44),some (37,false),0⟩,
 ⟨(some 46),.pick (.tmp 37) (.cst (.c (.bool true))) (.tmp 45),none,0⟩,
 ⟨(some 47),.mov (.tmp 46),none,0⟩,
 ⟨(some 48),.mov (.tmp 8),some (47,false),0⟩,
 ⟨(some 49),.bin .gtr (.tmp 48) (.cst (.c (.int .i64 0))),some (47,false),0⟩,
 ⟨(some 50),.mov (.tmp 49),some (47,false),0⟩,
 ⟨(some 51),.mov (.tmp 5),some (50,true),0⟩,
 ⟨(some 52),.mov (.tmp 8),some (50,true),0⟩,
 ⟨(some 53),.iaddr 1 (.tmp 51) (.tmp 52),some (50,true),0⟩,
 ⟨(some 54),.load none (.tmp 53),some (50,true),0⟩,
 ⟨(some 55),.mov (.tmp 5),some (50,true),0⟩,
 ⟨(some 56),.mov (.tmp 8),some (50,true),0⟩,
 ⟨(some 57),.bin .sub (.tmp 56) (.cst (.c (.int .i64 1))),some (50,true),0⟩,
 ⟨(some 58),.iaddr 1 (.tmp 55) (.tmp 57),some (50,true),0⟩,
 ⟨(some 59),.load none (.tmp 58),some (50,true),0⟩,
 ⟨(some 60),.bin .leq (.tmp 54) (.tmp 59),some (50,true),0⟩,
 ⟨(some 61),.pick (.tmp 50) (.tmp 60) (.cst (.c (.bool false))),some (47,false),0⟩,
 ⟨(some 62),.pick (.tmp 47) (.cst (.c (.bool true))) (.tmp 61),none,0⟩])
 (.cond (.tmp 62)
 (.seq (.region 0 [] [
 ⟨(some 4),.mov (.cst (.c (.bool false))),none,0⟩])
 .ret)
 .skip))
 (.region 0 [] [
 ⟨(some 63),.mov (.tmp 7),none,0⟩,
 ⟨(some 64),.mov (.tmp 5),none,0⟩,
 ⟨(some 65),.mov (.tmp 8),none,0⟩,
 ⟨(some 66),.iaddr 1 (.tmp 64) (.tmp 65),none,0⟩,
 ⟨(some 67),.load none (.tmp 66),none,0⟩,
 ⟨(some 68),.conv .u64 (.tmp 67),none,0⟩,
 ⟨(some 69),.bin .shl (.cst (.c (.int .i64 1))) (.tmp 68),none,0⟩,
 ⟨(some 70),.bin .or (.tmp 63) (.tmp 69),none,0⟩,
 ⟨(some 7),.mov (.tmp 70),none,0⟩])))
 (.region 0 [] [
 ⟨(some 30),.mov (.tmp 8),none,0⟩,
 ⟨(some 31),.bin .add (.tmp 30) (.cst (.c (.int .i64 1))),none,0⟩,
 ⟨(some 8),.mov (.tmp 31),none,0⟩]))))))
 (.seq (.region 0 [] [
 ⟨(some 71),.mov (.tmp 1),none,0⟩,
 ⟨(some 72),.conv .i64 (.tmp 71),none,0⟩,
 ⟨(some 73),.load (some 9) (.tmp 2),none,0⟩,
 ⟨(some 74),.call 37 true [(.tmp 73)],none,0⟩,
 ⟨(some 75),.bin .and (.tmp 72) (.tmp 74),none,0⟩,
 ⟨(some 9),.mov (.tmp 75),none,0⟩])
 (.seq (.region 1 [(0,1),(0,2),(0,3),(1,3),(2,3),(0,4),(9,10),(0,11),(1,11),(2,11),(3,11),(4,11),(5,11),(6,11),(7,11),(8,11),(9,11),(10,11),(10,12)] [
 ⟨(some 77),.load (some 9) (.tmp 2),none,0⟩,
 ⟨(some 78),.load (some 9) (.tmp 2),none,0⟩,
 ⟨(some 79),.call 37 true [(.tmp 78)],none,0⟩,
 ⟨(some 80),.mov (.tmp 7),none,0⟩,
 ⟨(some 81),.bin .andn (.tmp 79) (.tmp 80),none,0⟩,
 ⟨(some 82),.call 36 true [(.tmp 77),(.tmp 81)],none,0⟩,
 ⟨(some 83),.call 15 true [(.tmp 82)],none,0⟩,
 ⟨(some 84),.call 31 true [(.tmp 83),(.cst (.c .nils))],none,0⟩,
 ⟨(some 76),.mov (.tmp 84),none,0⟩,
 ⟨(some 85),.extract 0 (.tmp 76),none,0⟩,
 ⟨(some 86),.extract 1 (.tmp 76),none,0⟩,
 ⟨(some 10),.alloc [(.int .i64 0),(.int .i64 0)],none,0⟩,
 ⟨none,.store (some 2) (.tmp 10) (.tmp 85),none,1⟩,
 ⟨(some 11),.mov (.tmp 86),none,1⟩])
 (.seq (.region 1 [(0,1),(0,2),(0,3),(1,3),(2,3),(0,4),(9,10),(0,11),(1,11),(2,11),(3,11),(4,11),(5,11),(6,11),(7,11),(8,11),(9,11),(10,11),(10,12)] [
 ⟨(some 88),.load (some 9) (.tmp 2),none,0⟩,
 ⟨(some 89),.load (some 9) (.tmp 2),none,0⟩,
 ⟨(some 90),.call 37 true [(.tmp 89)],none,0⟩,
 ⟨(some 91),.mov (.tmp 9),none,0⟩,
 ⟨(some 92),.bin .andn (.tmp 90) (.tmp 91),none,0⟩,
 ⟨(some 93),.call 36 true [(.tmp 88),(.tmp 92)],none,0⟩,
 ⟨(some 94),.call 15 true [(.tmp 93)],none,0⟩,
 ⟨(some 95),.call 31 true [(.tmp 94),(.cst (.c .nils))],none,0⟩,
 ⟨(some 87),.mov (.tmp 95),none,0⟩,
 ⟨(some 96),.extract 0 (.tmp 87),none,0⟩,
 ⟨(some 97),.extract 1 (.tmp 87),none,0⟩,
 ⟨(some 12),.alloc [(.int .i64 0),(.int .i64 0)],none,0⟩,
 ⟨none,.store (some 2) (.tmp 12) (.tmp 96),none,1⟩,
 ⟨(some 13),.mov (.tmp 97),none,1⟩])
 (.seq (.region 0 [] [
 ⟨(some 98),.mov (.tmp 11),none,0⟩,
 ⟨(some 99),.bin .eql (.tmp 98) (.cst (.c (.int .i64 0))),none,0⟩,
 ⟨(some 100),.mov (.tmp 99),none,0⟩,
 ⟨(some 101),.mov (.tmp 13),some (100,true),0⟩,
 ⟨(some 102),.bin .eql (.tmp 101) (.cst (.c (.int .i64 11))),some (100,true),0⟩,
 ⟨(some 103),.mov (.tmp 102),some (100,true),0⟩,
 ⟨(some 104),.mov (.tmp 13),some (103,false),0⟩,
 ⟨(some 105),.bin .eql (.tmp 104) (.cst (.c (.int .i64 0))),some (103,false),0⟩,
 ⟨(some 106),.mov (.tmp 105),some (103,false),0⟩,
 ⟨(some 107),.mov (.tmp 9),some (106,true),0⟩,
 ⟨(some 108),.call 39 true [(.tmp 107)],some (106,true),0⟩,
 ⟨(some 109),.mov (.tmp 5),some (106,true),0⟩,
 ⟨(some 110),.call 38 true [(.tmp 108),(.tmp 109)],some (106,true),0⟩,
 ⟨(some 111),.not (.tmp 110),some (106,true),0⟩,
 ⟨(some 112),.pick (.tmp 106) (.tmp 111) (.cst (.c (.bool false))),some (103,false),0⟩,
 ⟨(some 113),.pick (.tmp 103) (.cst (.c (.bool true))) (.tmp 112),some (100,true),0⟩,
 ⟨(some 114),.pick (.tmp 100) (.tmp 113) (.cst (.c (.bool false))),none,0⟩,
 ⟨(some 115),.mov (.tmp 114),none,0⟩,
 ⟨(some 116),.call 13 true [],some (115,true),0⟩,
 ⟨(some 117),.pick (.tmp 115) (.tmp 116) (.cst (.c (.bool false))),none,0⟩,
 ⟨(some 4),.mov (.tmp 117),none,0⟩])
 .ret))))))))))⟩
/-- 10 isatis/isatislaw02.CropApart | loop 0 vars [15] kill 26 makes false -/
def f10 : AFunc := ⟨133,[.tmp 10],false,
 (.seq (.region 1 [] [
 ⟨(some 5),.box (.tmp 0),none,0⟩,
 ⟨(some 10),.mov (.cst (.c (.bool false))),none,1⟩])
 (.seq (.seq (.region 0 [] [
 ⟨(some 20),.load (some 9) (.tmp 5),none,0⟩,
 ⟨(some 21),.call 26 true [(.tmp 20)],none,0⟩,
 ⟨(some 22),.not (.tmp 21),none,0⟩])
 (.cond (.tmp 22)
 (.seq (.region 0 [] [
 ⟨(some 23),.call 13 true [],none,0⟩,
 ⟨(some 10),.mov (.tmp 23),none,0⟩])
 .ret)
 .skip))
 (.seq (.region 0 [] [
 ⟨(some 24),.load (some 9) (.tmp 5),none,0⟩,
 ⟨(some 25),.mov (.tmp 3),none,0⟩,
 ⟨(some 26),.call 29 true [(.tmp 24),(.tmp 25)],none,0⟩,
 ⟨(some 11),.mov (.tmp 26),none,0⟩])
 (.seq (.seq (.region 0 [] [
 ⟨(some 27),.mov (.tmp 11),none,0⟩,
 ⟨(some 28),.len (.tmp 27),none,0⟩,
 ⟨(some 29),.bin .eql (.tmp 28) (.cst (.c (.int .i64 0))),none,0⟩])
 (.cond (.tmp 29)
 (.seq (.region 0 [] [
 ⟨(some 30),.call 13 true [],none,0⟩,
 ⟨(some 10),.mov (.tmp 30),none,0⟩])
 .ret)
 .skip))
 (.seq (.region 0 [] [
 ⟨(some 31),.mov (.tmp 4),none,0⟩,
 ⟨(some 32),.conv .i64 (.tmp 31),none,0⟩,
 ⟨(some 33),.mov (.tmp 11),none,0⟩,
 ⟨(some 34),.len (.tmp 33),none,0⟩,
 ⟨(some 35),.bin .rem (.tmp 32) (.tmp 34),none,0⟩,
 ⟨(some 12),.mov (.tmp 35),none,0⟩])
 (.seq (.region 2 [(0,1),(0,2),(0,3),(1,3),(2,3),(0,4),(1,4),(2,4),(0,5),(0,7),(1,7),(2,7),(3,7),(4,7),(5,7),(6,7),(0,8),(1,8),(2,8),(3,8),(4,8),(5,8),(6,8),(7,8),(0,9),(1,9),(2,9),(3,9),(4,9),(5,9),(6,9),(7,9),(0,10),(1,10),(2,10),(3,10),(4,10),(5,10),(6,10),(7,10),(8,10),(9,10),(7,11),(8,11),(9,11),(7,12),(0,14),(1,14),(2,14),(3,14),(4,14),(5,14),(6,14),(7,14),(8,14),(9,14),(10,14),(11,14),(12,14),(13,14),(0,15),(1,15),(2,15),(3,15),(4,15),(5,15),(6,15),(7,15),(8,15),(9,15),(10,15),(11,15),(12,15),(13,15),(14,15)] [
 ⟨(some 36),.load (some 9) (.tmp 5),none,0⟩,
 ⟨(some 37),.mov (.tmp 1),none,0⟩,
 ⟨(some 38),.conv .i64 (.tmp 37),none,0⟩,
 ⟨(some 39),.load (some 9) (.tmp 5),none,0⟩,
 ⟨(some 40),.call 28 true [(.tmp 39)],none,0⟩,
 ⟨(some 41),.bin .rem (.tmp 38) (.tmp 40),none,0⟩,
 ⟨(some 42),.call 27 false [(.tmp 36),(.tmp 41)],none,0⟩,
 ⟨(some 43),.load (some 9) (.tmp 5),none,0⟩,
 ⟨(some 44),.mov (.tmp 2),none,0⟩,
 ⟨(some 45),.conv .i64 (.tmp 44),none,0⟩,
 ⟨(some 46),.load (some 9) (.tmp 5),none,0⟩,
 ⟨(some 47),.call 28 true [(.tmp 46)],none,0⟩,
 ⟨(some 48),.bin .rem (.tmp 45) (.tmp 47),none,0⟩,
 ⟨(some 49),.call 27 false [(.tmp 43),(.tmp 48)],none,0⟩,
 ⟨(some 13),.alloc [.nils,.nils],none,0⟩,
 ⟨(some 14),.alloc [.nils,.nils],none,1⟩,
 ⟨none,.store (some 2) (.tmp 13) (.tmp 42),none,2⟩,
 ⟨none,.store (some 2) (.tmp 14) (.tmp 49),none,2⟩])
 (.seq (.seq (.region 0 [] [
 ⟨(some 15),.mov (.cst (.c (.int .i64 0))),none,0⟩])
 (.block 0 (.loop ⟨[50,51,52,53,54,55,56,57,58,59,60,61,62,63,64,65,66,67,68,69,70,71,72,73,74,75],false,[]⟩
 (.seq (.seq (.region 0 [] [
 ⟨(some 50),.mov (.tmp 15),none,0⟩,
 ⟨(some 51),.mov (.tmp 11),none,0⟩,
 ⟨(some 52),.mov (.tmp 12),none,0⟩,
 ⟨(some 53),.iaddr 1 (.tmp 51) (.tmp 52),none,0⟩,
 ⟨(some 54),.load none (.tmp 53),none,0⟩,
 ⟨(some 55),.bin .leq (.tmp 50) (.tmp 54),none,0⟩])
 (.cond (.tmp 55)
 .skip
 (.exit 0)))
 (.seq (.block 1 (.region 0 [(0,2),(1,2),(0,3),(1,3),(2,3),(0,4),(1,4),(2,4),(0,5),(1,5),(2,5),(3,5),(4,5),(0,6),(1,6),(2,6),(3,6),(4,6),(5,6),(0,7),(1,7),(2,7),(3,7),(4,7),(5,7),(0,8),(1,8),(2,8),(3,8),(4,8),(5,8),(6,8),(7,8),(0,9),(1,9),(2,9),(3,9),(4,9),(5,9),(0,10),(1,10),(2,10),(3,10),(4,10),(5,10),(0,11),(1,11),(2,11),(3,11),(4,11),(5,11),(6,11),(7,11),(8,11),(9,11),(10,11),(0,12),(1,12),(2,12),(3,12),(4,12),(5,12),(6,12),(7,12),(8,12),(9,12),(10,12),(0,13),(1,13),(2,13),(3,13),(4,13),(5,13),(6,13),(7,13),(8,13),(9,13),(10,13),(11,13),(12,13),(0,14),(1,14),(2,14),(3,14),(4,14),(5,14),(6,14),(7,14),(8,14),(9,14),(10,14),(0,15),(1,15),(2,15),(3,15),(4,15),(5,15),(6,15),(7,15),(8,15),(9,15),(10,15),(3,16),(4,16),(5,16),(3,17),(4,17),(5,17)] [
 ⟨(some 58),.faddr 0 (.tmp 14),none,0⟩,
 ⟨(some 59),.load none (.tmp 58),none,0⟩,
 ⟨(some 60),.mov (.tmp 15),none,0⟩,
 ⟨(some 61),.faddr 1 (.tmp 14),none,0⟩,
 ⟨(some 62),.load none (.tmp 61),none,0⟩,
 ⟨(some 63),.mov (.tmp 15),none,0⟩,
 ⟨(some 64),.faddr 0 (.tmp 13),none,0⟩,
 ⟨(some 65),.load none (.tmp 64),none,0⟩,
 ⟨(some 66),.mov (.tmp 15),none,0⟩,
 ⟨(some 67),.iaddr 1 (.tmp 65) (.tmp 66),none,0⟩,
 ⟨(some 68),.load none (.tmp 67),none,0⟩,
 ⟨(some 69),.faddr 1 (.tmp 13),none,0⟩,
 ⟨(some 70),.load none (.tmp 69),none,0⟩,
 ⟨(some 71),.mov (.tmp 15),none,0⟩,
 ⟨(some 72),.iaddr 1 (.tmp 70) (.tmp 71),none,0⟩,
 ⟨(some 73),.load none (.tmp 72),none,0⟩,
 ⟨(some 74),.iaddr 1 (.tmp 59) (.tmp 60),none,0⟩,
 ⟨none,.store none (.tmp 74) (.tmp 68),none,0⟩,
 ⟨(some 75),.iaddr 1 (.tmp 62) (.tmp 63),none,0⟩,
 ⟨none,.store none (.tmp 75) (.tmp 73),none,0⟩]))
 (.region 0 [] [
 ⟨(some 56),.mov (.tmp 15),none,0⟩,
 ⟨(some 57),.bin .add (.tmp 56) (.cst (.c (.int .i64 1))),none,0⟩,
 ⟨(some 15),.mov (.tmp 57),none,0⟩]))))))
 (.seq (.region 0 [(0,2),(1,2),(0,4),(1,4),(2,4),(3,4),(8,9),(9,10)] [
 ⟨(some 77),.load (some 9) (.tmp 5),none,0⟩,
 ⟨(some 78),.call 15 true [(.tmp 77)],none,0⟩,
 ⟨(some 79),.load (some 2) (.tmp 13),none,0⟩,
 ⟨(some 80),.call 16 true [(.tmp 79)],none,0⟩,
 ⟨(some 81),.mov (.tmp 11),none,0⟩,
 ⟨(some 82),.call 17 true [(.tmp 81)],none,0⟩,
 ⟨(some 83),.call 14 true [(.tmp 78),(.tmp 80),(.tmp 82)],none,0⟩,
 ⟨(some 76),.mov (.tmp 83),none,0⟩,
 ⟨(some 84),.extract 0 (.tmp 76),none,0⟩,
 ⟨(some 85),.extract 1 (.tmp 76),none,0⟩,
 ⟨(some 16),.mov (.tmp 84),none,0⟩,
 ⟨(some 17),.mov (.tmp 85),none,0⟩])
 (.seq (.region 0 [(0,2),(1,2),(0,4),(1,4),(2,4),(3,4),(0,5),(1,5),(2,5),(3,5),(4,5),(0,6),(1,6),(2,6),(3,6),(4,6),(0,7),(1,7),(2,7),(3,7),(11,12),(12,13)] [
 ⟨(some 87),.load (some 9) (.tmp 5),none,0⟩,
 ⟨(some 88),.call 15 true [(.tmp 87)],none,0⟩,
 ⟨(some 89),.load (some 2) (.tmp 14),none,0⟩,
 ⟨(some 90),.call 16 true [(.tmp 89)],none,0⟩,
 ⟨(some 91),.mov (.tmp 11),none,0⟩,
 ⟨(some 92),.mov (.tmp 12),none,0⟩,
 ⟨(some 93),.bin .add (.tmp 92) (.cst (.c (.int .i64 1))),none,0⟩,
 ⟨(some 94),.slice 1 (.tmp 91) none (some (.tmp 93)),none,0⟩,
 ⟨(some 95),.call 17 true [(.tmp 94)],none,0⟩,
 ⟨(some 96),.call 14 true [(.tmp 88),(.tmp 90),(.tmp 95)],none,0⟩,
 ⟨(some 86),.mov (.tmp 96),none,0⟩,
 ⟨(some 97),.extract 0 (.tmp 86),none,0⟩,
 ⟨(some 98),.extract 1 (.tmp 86),none,0⟩,
 ⟨(some 18),.mov (.tmp 97),none,0⟩,
 ⟨(some 19),.mov (.tmp 98),none,0⟩])
 (.seq (.region 0 [(7,9),(8,9),(7,10),(8,10),(14,16),(15,16),(14,17),(15,17),(21,22),(21,25),(22,25),(23,25),(24,25),(21,26),(22,26),(23,26),(24,26),(25,26),(21,27),(22,27),(23,27),(24,27),(21,28),(22,28),(23,28),(24,28)] [
 ⟨(some 99),.mov (.tmp 17),none,0⟩,
 ⟨(some 100),.bin .eql (.tmp 99) (.cst (.c (.int .i64 0))),none,0⟩,
 ⟨(some 101),.mov (.tmp 100),none,0⟩,
 ⟨(some 102),.mov (.tmp 19),some (101,true),0⟩,
 ⟨(some 103),.bin .eql (.tmp 102) (.cst (.c (.int .i64 0))),some (101,true),0⟩,
 ⟨(some 104),.pick (.tmp 101) (.tmp 103) (.cst (.c (.bool false))),none,0⟩,
 ⟨(some 105),.mov (.tmp 104),none,0⟩,
 ⟨(some 106),.mov (.tmp 16),some (105,true),0⟩,
 ⟨(some 107),.len (.tmp 106),some (105,true),0⟩,
 ⟨(some 108),.mov (.tmp 11),some (105,true),0⟩,
 ⟨(some 109),.len (.tmp 108),some (105,true),0⟩,
 ⟨(some 110),.bin .eql (.tmp 107) (.tmp 109),some (105,true),0⟩,
 ⟨(some 111),.pick (.tmp 105) (.tmp 110) (.cst (.c (.bool false))),none,0⟩,
 ⟨(some 112),.mov (.tmp 111),none,0⟩,
 ⟨(some 113),.mov (.tmp 18),some (112,true),0⟩,
 ⟨(some 114),.len (.tmp 113),some (112,true),0⟩,
 ⟨(some 115),.mov (.tmp 12),some (112,true),0⟩,
 ⟨(some 116),.bin .add (.tmp 115) (.cst (.c (.int .i64 1))),some (112,true),0⟩,
 ⟨(some 117),.bin .eql (.tmp 114) (.tmp 116),some (112,true),0⟩,
 ⟨(some 118),.pick (.tmp 112) (.tmp 117) (.cst (.c (.bool false))),none,0⟩,
 ⟨(some 119),.mov (.tmp 118),none,0⟩,
 ⟨(some 120),.mov (.tmp 16),some (119,true),0⟩,
 ⟨(some 121),.mov (.tmp 12),some (119,true),0⟩,
 ⟨(some 122),.iaddr 3 (.tmp 120) (.tmp 121),some (119,true),0⟩,
 ⟨(some 123),.load (some 3) (.tmp 122),some (119,true),0⟩,
 ⟨(some 124),.mov (.tmp 18),some (119,true),0⟩,
 ⟨(some 125),.mov (.tmp 12),some (119,true),0⟩,
 ⟨(some 126),.iaddr 3 (.tmp 124) (.tmp 125),some (119,true),0⟩,
 ⟨(some 127),.load (some 3) (.tmp 126),some (119,true),0⟩,
 ⟨(some 128),.eqA false [(some .i64),(some .i64),(some .i64)] (.tmp 123) (.tmp 127),some (119,true),0⟩,
 ⟨(some 129),.pick (.tmp 119) (.tmp 128) (.cst (.c (.bool false))),none,0⟩,
 ⟨(some 130),.mov (.tmp 129),none,0⟩,
 ⟨(some 131),.call 13 true [],some (130,true),0⟩,
 ⟨(some 132),.pick (.tmp 130) (.tmp 131) (.cst (.c (.bool false))),none,0⟩,
 ⟨(some 10),.mov (.tmp 132),none,0⟩])
 .ret))))))))))⟩
/-- 11 isatis/isatislaw02.CropNames -/
def f11 : AFunc := ⟨312,[.tmp 0],false,
 (.seq (.region 0 [] [
 ⟨(some 0),.mov (.cst (.c (.bool false))),none,0⟩])
 (.seq (.region 1 [] [
 ⟨(some 27),.call 40 false [],none,0⟩,
 ⟨(some 1),.alloc [.nils,.nils],none,0⟩,
 ⟨none,.store (some 2) (.tmp 1) (.tmp 27),none,1⟩])
 (.seq (.region 0 [] [
 ⟨(some 28),.faddr 1 (.tmp 1),none,0⟩,
 ⟨(some 29),.load none (.tmp 28),none,0⟩,
 ⟨(some 30),.iaddr 1 (.tmp 29) (.cst (.c (.int .i64 1))),none,0⟩,
 ⟨none,.store none (.tmp 30) (.cst (.c (.int .i64 1))),none,0⟩])
 (.seq (.region 1 [(0,1),(0,2),(1,2),(5,6),(6,7)] [
 ⟨(some 32),.call 41 false [(.cst (.c (.int .i64 0)))],none,0⟩,
 ⟨(some 33),.load (some 2) (.tmp 1),none,0⟩,
 ⟨(some 34),.bslice 1 2 [(.int .i64 0)] [(0,(.cst (.c (.int .i64 1)))),(1,(.cst (.c (.int .i64 3))))],none,0⟩,
 ⟨(some 35),.call 14 true [(.tmp 32),(.tmp 33),(.tmp 34)],none,1⟩,
 ⟨(some 31),.mov (.tmp 35),none,1⟩,
 ⟨(some 36),.extract 0 (.tmp 31),none,1⟩,
 ⟨(some 37),.extract 1 (.tmp 31),none,1⟩,
 ⟨(some 2),.mov (.tmp 36),none,1⟩,
 ⟨(some 3),.mov (.tmp 37),none,1⟩])
 (.seq (.region 2 [] [
 ⟨(some 39),.call 41 false [(.cst (.c (.int .i64 0)))],none,0⟩,
 ⟨(some 40),.bslice 1 2 [(.int .i64 0)] [(0,(.cst (.c (.int .i64 2)))),(1,(.cst (.c (.int .i64 4))))],none,0⟩,
 ⟨(some 41),.call 31 true [(.tmp 39),(.tmp 40)],none,1⟩,
 ⟨(some 38),.mov (.tmp 41),none,1⟩,
 ⟨(some 42),.extract 0 (.tmp 38),none,1⟩,
 ⟨(some 43),.extract 1 (.tmp 38),none,1⟩,
 ⟨(some 4),.alloc [(.int .i64 0),(.int .i64 0)],none,1⟩,
 ⟨none,.store (some 2) (.tmp 4) (.tmp 42),none,2⟩,
 ⟨(some 5),.mov (.tmp 43),none,2⟩])
 (.seq (.region 1 [] [
 ⟨(some 45),.call 41 false [(.cst (.c (.int .i64 0)))],none,0⟩,
 ⟨(some 46),.call 31 true [(.tmp 45),(.cst (.c .nils))],none,0⟩,
 ⟨(some 44),.mov (.tmp 46),none,0⟩,
 ⟨(some 47),.extract 0 (.tmp 44),none,0⟩,
 ⟨(some 48),.extract 1 (.tmp 44),none,0⟩,
 ⟨(some 6),.alloc [(.int .i64 0),(.int .i64 0)],none,0⟩,
 ⟨none,.store (some 2) (.tmp 6) (.tmp 47),none,1⟩,
 ⟨(some 7),.mov (.tmp 48),none,1⟩])
 (.seq (.region 1 [] [
 ⟨(some 50),.call 41 false [(.cst (.c (.int .i64 0)))],none,0⟩,
 ⟨(some 51),.call 42 true [(.tmp 50),(.cst (.c (.int .i64 2)))],none,0⟩,
 ⟨(some 49),.mov (.tmp 51),none,0⟩,
 ⟨(some 52),.extract 0 (.tmp 49),none,0⟩,
 ⟨(some 53),.extract 1 (.tmp 49),none,0⟩,
 ⟨(some 8),.alloc [(.int .i64 0),(.int .i64 0)],none,0⟩,
 ⟨none,.store (some 2) (.tmp 8) (.tmp 52),none,1⟩,
 ⟨(some 9),.mov (.tmp 53),none,1⟩])
 (.seq (.region 2 [] [
 ⟨(some 55),.call 41 false [(.cst (.c (.int .i64 1)))],none,0⟩,
 ⟨(some 56),.bslice 1 2 [(.int .i64 0)] [(0,(.cst (.c (.int .i64 2)))),(1,(.cst (.c (.int .i64 4))))],none,0⟩,
 ⟨(some 57),.call 31 true [(.tmp 55),(.tmp 56)],none,1⟩,
 ⟨(some 54),.mov (.tmp 57),none,1⟩,
 ⟨(some 58),.extract 0 (.tmp 54),none,1⟩,
 ⟨(some 59),.extract 1 (.tmp 54),none,1⟩,
 ⟨(some 10),.alloc [(.int .i64 0),(.int .i64 0)],none,1⟩,
 ⟨none,.store (some 2) (.tmp 10) (.tmp 58),none,2⟩,
 ⟨(some 11),.mov (.tmp 59),none,2⟩])
 (.seq (.region 0 [] [
 ⟨(some 61),.call 41 false [(.cst (.c (.int .i64 1)))],none,0⟩,
 ⟨(some 62),.call 30 true [(.tmp 61)],none,0⟩,
 ⟨(some 60),.mov (.tmp 62),none,0⟩,
 ⟨(some 63),.extract 0 (.tmp 60),none,0⟩,
 ⟨(some 64),.extract 1 (.tmp 60),none,0⟩,
 ⟨(some 12),.mov (.tmp 63),none,0⟩,
 ⟨(some 13),.mov (.tmp 64),none,0⟩])
 (.seq (.seq (.region 2 [(8,11),(9,11),(10,11),(19,20),(28,29),(37,38),(46,47),(60,61),(66,67),(71,72),(77,78)] [
 ⟨(some 65),.mov (.tmp 3),none,0⟩,
 ⟨(some 66),.bin .neq (.tmp 65) (.cst (.c (.int .i64 0))),none,0⟩,
 ⟨(some 67),.mov (.tmp 66),none,0⟩,
 ⟨(some 68),.mov (.tmp 2),some (67,false),0⟩,
 ⟨(some 69),.len (.tmp 68),some (67,false),0⟩,
 ⟨(some 70),.bin .neq (.tmp 69) (.cst (.c (.int .i64 2))),some (67,false),0⟩,
 ⟨(some 71),.pick (.tmp 67) (.cst (.c (.bool true))) (.tmp 70),none,0⟩,
 ⟨(some 72),.mov (.tmp 71),none,0⟩,
 ⟨(some 73),.mov (.tmp 2),some (72,false),0⟩,
 ⟨(some 74),.iaddr 3 (.tmp 73) (.cst (.c (.int .i64 0))),some (72,false),0⟩,
 ⟨(some 75),.load (some 3) (.tmp 74),some (72,false),0⟩,
 ⟨(some 76),.build [(.int .i64 0),(.int .i64 0),(.int .i64 0)] [(0,1,(.cst (.c (.int .i64 9)))),(1,1,(.cst (.c (.int .i64 20)))),(2,1,(.cst (.c (.int .i64 180))))],some (72,false),0⟩,
 ⟨(some 77),.eqA true [(some .i64),(some .i64),(some .i64)] (.tmp 75) (.tmp 76),some (72,false),0⟩,
 ⟨(some 78),.pick (.tmp 72) (.cst (.c (.bool true))) (.tmp 77),none,0⟩,
 ⟨(some 79),.mov (.tmp 78),none,0⟩,
 ⟨(some 80),.mov (.tmp 5),some (79,false),0⟩,
 ⟨(some 81),.bin .neq (.tmp 80) (.cst (.c (.int .i64 0))),some (79,false),0⟩,
 ⟨(some 82),.pick (.tmp 79) (.cst (.c (.bool true))) (.tmp 81),none,0⟩,
 ⟨(some 83),.mov (.tmp 82),none,0⟩,
 ⟨(some 84),.load (some 2) (.tmp 4),some (83,false),0⟩,
 ⟨(some 85),.call 43 true [(.cst (.c (.int .i64 474))),(.cst (.c (.int .i64 521)))],some (83,false),0⟩,
 ⟨(some 86),.eqA true [(some .i64),(some .i64)] (.tmp 84) (.tmp 85),some (83,false),0⟩,
 ⟨(some 87),.pick (.tmp 83) (.cst (.c (.bool true))) (.tmp 86),none,0⟩,
 ⟨(some 88),.mov (.tmp 87),none,0⟩,
 ⟨(some 89),.mov (.tmp 7),some (88,false),0⟩,
 ⟨(some 90),.bin .neq (.tmp 89) (.cst (.c (.int .i64 0))),some (88,false),0⟩,
 ⟨(some 91),.pick (.tmp 88) (.cst (.c (.bool true))) (.tmp 90),none,0⟩,
 ⟨(some 92),.mov (.tmp 91),none,0⟩,
 ⟨(some 93),.load (some 2) (.tmp 6),some (92,false),0⟩,
 ⟨(some 94),.build [(.int .i64 0),(.int .i64 0)] [],some (92,false),0⟩,
 ⟨(some 95),.eqA true [(some .i64),(some .i64)] (.tmp 93) (.tmp 94),some (92,false),0⟩,
 ⟨(some 96),.pick (.tmp 92) (.cst (.c (.bool true))) (.tmp 95),none,0⟩,
 ⟨(some 97),.mov (.tmp 96),none,0⟩,
 ⟨(some 98),.mov (.tmp 9),some (97,false),0⟩,
 ⟨(some 99),.bin .neq (.tmp 98) (.cst (.c (.int .i64 0))),some (97,false),0⟩,
 ⟨(some 100),.pick (.tmp 97) (.cst (.c (.bool true))) (.tmp 99),none,0⟩,
 ⟨(some 101),.mov (.tmp 100),none,0⟩,
 ⟨(some 102),.load (some 2) (.tmp 8),some (101,false),0⟩,
 ⟨(some 103),.call 43 true [(.cst (.c (.int .i64 24))),(.cst (.c (.int .i64 26)))],some (101,false),0⟩,
 ⟨(some 104),.eqA true [(some .i64),(some .i64)] (.tmp 102) (.tmp 103),some (101,false),0⟩,
 ⟨(some 105),.pick (.tmp 101) (.cst (.c (.bool true))) (.tmp 104),none,0⟩,
 ⟨(some 106),.mov (.tmp 105),none,0⟩,
 ⟨(some 107),.mov (.tmp 11),some (106,false),0⟩,
 ⟨(some 108),.bin .neq (.tmp 107) (.cst (.c (.int .i64 0))),some (106,false),0⟩,
 ⟨(some 109),.pick (.tmp 106) (.cst (.c (.bool true))) (.tmp 108),none,0⟩,
 ⟨(some 110),.mov (.tmp 109),none,0⟩,
 ⟨(some 111),.load (some 2) (.tmp 10),some (110,false),0⟩,
 ⟨(some 112),.call 43 true [(.cst (.c (.int .i64 490))),(.cst (.c (.int .i64 505)))],some (110,false),0⟩,
 ⟨(some 113),.eqA true [(some .i64),(some .i64)] (.tmp 111) (.tmp 112),some (110,false),0⟩,
 ⟨(some 114),.pick (.tmp 110) (.cst (.c (.bool true))) (.tmp 113),none,0⟩,
 ⟨(some 115),.mov (.tmp 114),none,0⟩,
 ⟨(some 116),.mov (.tmp 13),some (115,false),0⟩,
 ⟨(some 117),.bin .neq (.tmp 116) (.cst (.c (.int .i64 0))),some (115,false),0⟩,
 ⟨(some 118),.pick (.tmp 115) (.cst (.c (.bool true))) (.tmp 117),none,0⟩,
 ⟨(some 119),.mov (.tmp 118),none,0⟩,
 ⟨(some 120),.mov (.tmp 12),some (119,false),0⟩,
 ⟨(some 121),.len (.tmp 120),some (119,false),0⟩,
 ⟨(some 122),.bin .neq (.tmp 121) (.cst (.c (.int .i64 0))),some (119,false),0⟩,
 ⟨(some 123),.pick (.tmp 119) (.cst (.c (.bool true))) (.tmp 122),none,0⟩,
 ⟨(some 124),.mov (.tmp 123),none,0⟩,
 ⟨(some 125),.call 41 false [(.cst (.c (.int .i64 0)))],some (124,false),0⟩,
 ⟨(some 126),.load (some 2) (.tmp 1),some (124,false),0⟩,
 ⟨(some 127),.call 18 true [(.tmp 125),(.tmp 126)],some (124,false),0⟩,
 ⟨(some 128),.not (.tmp 127),some (124,false),0⟩,
 ⟨(some 129),.pick (.tmp 124) (.cst (.c (.bool true))) (.tmp 128),none,0⟩,
 ⟨(some 130),.mov (.tmp 129),none,0⟩,
 ⟨(some 131),.call 41 false [(.cst (.c (.int .i64 1)))],some (130,false),0⟩,
 ⟨(some 132),.load (some 2) (.tmp 1),some (130,false),0⟩,
 ⟨(some 133),.call 18 true [(.tmp 131),(.tmp 132)],some (130,false),0⟩,
 ⟨(some 134),.pick (.tmp 130) (.cst (.c (.bool true))) (.tmp 133),none,0⟩,
 ⟨(some 135),.mov (.tmp 134),none,0⟩,
 ⟨(some 136),.call 41 false [(.cst (.c (.int .i64 0)))],some (135,false),0⟩,
 ⟨(some 137),.bslice 1 2 [(.int .i64 0)] [(0,(.cst (.c (.int .i64 2)))),(1,(.cst (.c (.int .i64 4))))],some (135,false),0⟩,
 ⟨(some 138),.call 44 true [(.tmp 136),(.tmp 137),(.cst (.c (.int .i64 474)))],some (135,false),1⟩,
 ⟨(some 139),.not (.tmp 138),some (135,false),1⟩,
 ⟨(some 140),.pick (.tmp 135) (.cst (.c (.bool true))) (.tmp 139),none,1⟩,
 ⟨(some 141),.mov (.tmp 140),none,1⟩,
 ⟨(some 142),.call 41 false [(.cst (.c (.int .i64 0)))],some (141,false),1⟩,
 ⟨(some 143),.bslice 1 2 [(.int .i64 0)] [(0,(.cst (.c (.int .i64 2)))),(1,(.cst (.c (.int .i64 4))))],some (141,false),1⟩,
 ⟨(some 144),.call 44 true [(.tmp 142),(.tmp 143),(.cst (.c (.int .i64 475)))],some (141,false),2⟩,
 ⟨(some 145),.pick (.tmp 141) (.cst (.c (.bool true))) (.tmp 144),none,2⟩])
 (.cond (.tmp 145)
 (.seq (.region 0 [] [
 ⟨(some 0),.mov (.cst (.c (.bool false))),none,0⟩])
 .ret)
 .skip))
 (.seq (.region 2 [] [
 ⟨(some 146),.call 40 false [],none,0⟩,
 ⟨(some 147),.call 40 false [],none,0⟩,
 ⟨(some 14),.alloc [.nils,.nils],none,0⟩,
 ⟨(some 15),.alloc [.nils,.nils],none,1⟩,
 ⟨none,.store (some 2) (.tmp 14) (.tmp 146),none,2⟩,
 ⟨none,.store (some 2) (.tmp 15) (.tmp 147),none,2⟩])
 (.seq (.region 0 [] [
 ⟨(some 148),.faddr 1 (.tmp 14),none,0⟩,
 ⟨(some 149),.load none (.tmp 148),none,0⟩,
 ⟨(some 150),.iaddr 1 (.tmp 149) (.cst (.c (.int .i64 0))),none,0⟩,
 ⟨none,.store none (.tmp 150) (.cst (.c (.int .i64 1))),none,0⟩])
 (.seq (.region 0 [] [
 ⟨(some 151),.faddr 0 (.tmp 15),none,0⟩,
 ⟨(some 152),.load none (.tmp 151),none,0⟩,
 ⟨(some 153),.slice 1 (.tmp 152) none (some (.cst (.c (.int .i64 4)))),none,0⟩,
 ⟨(some 154),.faddr 0 (.tmp 15),none,0⟩,
 ⟨none,.store none (.tmp 154) (.tmp 153),none,0⟩])
 (.seq (.region 0 [(0,1),(4,5)] [
 ⟨(some 156),.call 41 false [(.cst (.c (.int .i64 0)))],none,0⟩,
 ⟨(some 157),.load (some 2) (.tmp 14),none,0⟩,
 ⟨(some 158),.call 14 true [(.tmp 156),(.tmp 157),(.cst (.c .nils))],none,0⟩,
 ⟨(some 155),.mov (.tmp 158),none,0⟩,
 ⟨(some 159),.extract 0 (.tmp 155),none,0⟩,
 ⟨(some 160),.extract 1 (.tmp 155),none,0⟩,
 ⟨(some 3),.mov (.tmp 160),none,0⟩])
 (.seq (.region 0 [(0,1),(4,5)] [
 ⟨(some 162),.call 41 false [(.cst (.c (.int .i64 0)))],none,0⟩,
 ⟨(some 163),.load (some 2) (.tmp 15),none,0⟩,
 ⟨(some 164),.call 14 true [(.tmp 162),(.tmp 163),(.cst (.c .nils))],none,0⟩,
 ⟨(some 161),.mov (.tmp 164),none,0⟩,
 ⟨(some 165),.extract 0 (.tmp 161),none,0⟩,
 ⟨(some 166),.extract 1 (.tmp 161),none,0⟩,
 ⟨(some 5),.mov (.tmp 166),none,0⟩])
 (.seq (.region 1 [] [
 ⟨(some 168),.call 41 false [(.cst (.c (.int .i64 0)))],none,0⟩,
 ⟨(some 169),.call 40 false [],none,0⟩,
 ⟨(some 170),.bslice 1 3 [(.int .i64 0)] [(0,(.cst (.c (.int .i64 0)))),(1,(.cst (.c (.int .i64 1)))),(2,(.cst (.c (.int .i64 2))))],none,0⟩,
 ⟨(some 171),.call 14 true [(.tmp 168),(.tmp 169),(.tmp 170)],none,1⟩,
 ⟨(some 167),.mov (.tmp 171),none,1⟩,
 ⟨(some 172),.extract 0 (.tmp 167),none,1⟩,
 ⟨(some 173),.extract 1 (.tmp 167),none,1⟩,
 ⟨(some 7),.mov (.tmp 173),none,1⟩])
 (.seq (.region 1 [] [
 ⟨(some 175),.call 41 false [(.cst (.c (.int .i64 2)))],none,0⟩,
 ⟨(some 176),.bslice 1 2 [(.int .i64 0)] [(0,(.cst (.c (.int .i64 2)))),(1,(.cst (.c (.int .i64 1))))],none,0⟩,
 ⟨(some 177),.call 45 true [(.tmp 175),(.tmp 176)],none,1⟩,
 ⟨(some 174),.mov (.tmp 177),none,1⟩,
 ⟨(some 178),.extract 0 (.tmp 174),none,1⟩,
 ⟨(some 179),.extract 1 (.tmp 174),none,1⟩,
 ⟨(some 9),.mov (.tmp 179),none,1⟩])
 (.seq (.region 0 [] [
 ⟨(some 181),.call 41 false [(.cst (.c (.int .i64 2)))],none,0⟩,
 ⟨(some 182),.call 42 true [(.tmp 181),(.cst (.c (.int .i64 5)))],none,0⟩,
 ⟨(some 180),.mov (.tmp 182),none,0⟩,
 ⟨(some 183),.extract 0 (.tmp 180),none,0⟩,
 ⟨(some 184),.extract 1 (.tmp 180),none,0⟩,
 ⟨(some 11),.mov (.tmp 184),none,0⟩])
 (.seq (.region 0 [] [
 ⟨(some 186),.call 41 false [(.cst (.c (.int .i64 2)))],none,0⟩,
 ⟨(some 187),.call 32 true [(.tmp 186)],none,0⟩,
 ⟨(some 185),.mov (.tmp 187),none,0⟩,
 ⟨(some 188),.extract 0 (.tmp 185),none,0⟩,
 ⟨(some 189),.extract 1 (.tmp 185),none,0⟩,
 ⟨(some 190),.extract 2 (.tmp 185),none,0⟩,
 ⟨(some 13),.mov (.tmp 190),none,0⟩])
 (.seq (.region 0 [] [
 ⟨(some 192),.call 41 false [(.cst (.c (.int .i64 1)))],none,0⟩,
 ⟨(some 193),.call 34 true [(.tmp 192)],none,0⟩,
 ⟨(some 191),.mov (.tmp 193),none,0⟩,
 ⟨(some 194),.extract 0 (.tmp 191),none,0⟩,
 ⟨(some 195),.extract 1 (.tmp 191),none,0⟩,
 ⟨(some 16),.mov (.tmp 194),none,0⟩,
 ⟨(some 17),.mov (.tmp 195),none,0⟩])
 (.seq (.region 9 [] [
 ⟨(some 196),.call 41 false [(.cst (.c (.int .i64 1)))],none,0⟩,
 ⟨(some 197),.call 41 false [(.cst (.c (.int .i64 1)))],none,0⟩,
 ⟨(some 198),.call 41 false [(.cst (.c (.int .i64 1)))],none,0⟩,
 ⟨(some 199),.call 41 false [(.cst (.c (.int .i64 1)))],none,0⟩,
 ⟨(some 200),.call 41 false [(.cst (.c (.int .i64 1)))],none,0⟩,
 ⟨(some 201),.call 41 false [(.cst (.c (.int .i64 1)))],none,0⟩,
 ⟨(some 202),.call 41 false [(.cst (.c (.int .i64 1)))],none,0⟩,
 ⟨(some 203),.call 41 false [(.cst (.c (.int .i64 1)))],none,0⟩,
 ⟨(some 204),.call 41 false [(.cst (.c (.int .i64 1)))],none,0⟩,
 ⟨(some 18),.alloc [(.int .i64 0),.nils,.nils,.nils,.nils,(.int .i64 0),(.int .i64 0),(.int .i64 0),.nils],none,0⟩,
 ⟨(some 19),.alloc [(.int .i64 0),.nils,.nils,.nils,.nils,(.int .i64 0),(.int .i64 0),(.int .i64 0),.nils],none,1⟩,
 ⟨(some 20),.alloc [(.int .i64 0),.nils,.nils,.nils,.nils,(.int .i64 0),(.int .i64 0),(.int .i64 0),.nils],none,2⟩,
 ⟨(some 21),.alloc [(.int .i64 0),.nils,.nils,.nils,.nils,(.int .i64 0),(.int .i64 0),(.int .i64 0),.nils],none,3⟩,
 ⟨(some 22),.alloc [(.int .i64 0),.nils,.nils,.nils,.nils,(.int .i64 0),(.int .i64 0),(.int .i64 0),.nils],none,4⟩,
 ⟨(some 23),.alloc [(.int .i64 0),.nils,.nils,.nils,.nils,(.int .i64 0),(.int .i64 0),(.int .i64 0),.nils],none,5⟩,
 ⟨(some 24),.alloc [(.int .i64 0),.nils,.nils,.nils,.nils,(.int .i64 0),(.int .i64 0),(.int .i64 0),.nils],none,6⟩,
 ⟨(some 25),.alloc [(.int .i64 0),.nils,.nils,.nils,.nils,(.int .i64 0),(.int .i64 0),(.int .i64 0),.nils],none,7⟩,
 ⟨(some 26),.alloc [(.int .i64 0),.nils,.nils,.nils,.nils,(.int .i64 0),(.int .i64 0),(.int .i64 0),.nils],none,8⟩,
 ⟨none,.store (some 9) (.tmp 18) (.tmp 196),none,9⟩,
 ⟨none,.store (some 9) (.tmp 19) (.tmp 197),none,9⟩,
 ⟨none,.store (some 9) (.tmp 20) (.tmp 198),none,9⟩,
 ⟨none,.store (some 9) (.tmp 21) (.tmp 199),none,9⟩,
 ⟨none,.store (some 9) (.tmp 22) (.tmp 200),none,9⟩,
 ⟨none,.store (some 9) (.tmp 23) (.tmp 201),none,9⟩,
 ⟨none,.store (some 9) (.tmp 24) (.tmp 202),none,9⟩,
 ⟨none,.store (some 9) (.tmp 25) (.tmp 203),none,9⟩,
 ⟨none,.store (some 9) (.tmp 26) (.tmp 204),none,9⟩])
 (.seq (.region 0 [] [
 ⟨(some 205),.faddr 0 (.tmp 18),none,0⟩,
 ⟨none,.store none (.tmp 205) (.cst (.c (.int .i64 10))),none,0⟩])
 (.seq (.region 0 [(0,2),(1,2)] [
 ⟨(some 206),.faddr 1 (.tmp 19),none,0⟩,
 ⟨(some 207),.load none (.tmp 206),none,0⟩,
 ⟨(some 208),.call 43 true [(.cst (.c (.int .i64 0))),(.cst (.c (.int .i64 51)))],none,0⟩,
 ⟨(some 209),.iaddr 2 (.tmp 207) (.cst (.c (.int .i64 0))),none,0⟩,
 ⟨none,.store (some 2) (.tmp 209) (.tmp 208),none,0⟩])
 (.seq (.region 0 [] [
 ⟨(some 210),.faddr 2 (.tmp 20),none,0⟩,
 ⟨(some 211),.load none (.tmp 210),none,0⟩,
 ⟨(some 212),.iaddr 1 (.tmp 211) (.cst (.c (.int .i64 0))),none,0⟩,
 ⟨none,.store none (.tmp 212) (.cst (.c (.int .i64 3))),none,0⟩])
 (.seq (.region 0 [] [
 ⟨(some 213),.faddr 3 (.tmp 21),none,0⟩,
 ⟨(some 214),.load none (.tmp 213),none,0⟩,
 ⟨(some 215),.iaddr 1 (.tmp 214) (.cst (.c (.int .i64 1))),none,0⟩,
 ⟨none,.store none (.tmp 215) (.cst (.c (.int .i64 21))),none,0⟩])
 (.seq (.region 0 [] [
 ⟨(some 216),.faddr 5 (.tmp 22),none,0⟩,
 ⟨none,.store none (.tmp 216) (.cst (.c (.int .i64 0))),none,0⟩])
 (.seq (.region 1 [] [
 ⟨(some 217),.bslice 1 3 [(.int .i64 0)] [(0,(.cst (.c (.int .i64 0)))),(1,(.cst (.c (.int .i64 1)))),(2,(.cst (.c (.int .i64 2))))],none,0⟩,
 ⟨(some 218),.faddr 4 (.tmp 23),none,1⟩,
 ⟨none,.store none (.tmp 218) (.tmp 217),none,1⟩])
 (.seq (.region 0 [] [
 ⟨(some 219),.faddr 8 (.tmp 24),none,0⟩,
 ⟨(some 220),.load none (.tmp 219),none,0⟩,
 ⟨(some 221),.iaddr 3 (.tmp 220) (.cst (.c (.int .i64 0))),none,0⟩,
 ⟨(some 222),.faddr 0 (.tmp 221),none,0⟩,
 ⟨none,.store none (.tmp 222) (.cst (.c (.int .i64 5))),none,0⟩])
 (.seq (.region 1 [] [
 ⟨(some 223),.bslice 1 4 [(.int .i64 0)] [(0,(.cst (.c (.int .i64 4)))),(1,(.cst (.c (.int .i64 3)))),(2,(.cst (.c (.int .i64 2)))),(3,(.cst (.c (.int .i64 1))))],none,0⟩,
 ⟨(some 224),.faddr 3 (.tmp 25),none,1⟩,
 ⟨none,.store none (.tmp 224) (.tmp 223),none,1⟩])
 (.seq (.region 0 [(0,2),(1,2),(0,3),(1,3),(0,4),(1,4),(2,4),(3,4),(0,5),(1,5),(2,5),(3,5),(2,6),(3,6),(2,7),(3,7)] [
 ⟨(some 225),.faddr 1 (.tmp 26),none,0⟩,
 ⟨(some 226),.load none (.tmp 225),none,0⟩,
 ⟨(some 227),.faddr 1 (.tmp 26),none,0⟩,
 ⟨(some 228),.load none (.tmp 227),none,0⟩,
 ⟨(some 229),.call 43 true [(.cst (.c (.int .i64 0))),(.cst (.c (.int .i64 49)))],none,0⟩,
 ⟨(some 230),.call 43 true [(.cst (.c (.int .i64 0))),(.cst (.c (.int .i64 10)))],none,0⟩,
 ⟨(some 231),.iaddr 2 (.tmp 226) (.cst (.c (.int .i64 0))),none,0⟩,
 ⟨none,.store (some 2) (.tmp 231) (.tmp 229),none,0⟩,
 ⟨(some 232),.iaddr 2 (.tmp 228) (.cst (.c (.int .i64 1))),none,0⟩,
 ⟨none,.store (some 2) (.tmp 232) (.tmp 230),none,0⟩])
 (.seq (.region 0 [] [
 ⟨(some 233),.mov (.tmp 3),none,0⟩,
 ⟨(some 234),.bin .eql (.tmp 233) (.cst (.c (.int .i64 2))),none,0⟩,
 ⟨(some 235),.mov (.tmp 234),none,0⟩,
 ⟨(some 236),.mov (.tmp 5),some (235,true),0⟩,
 ⟨(some 237),.bin .eql (.tmp 236) (.cst (.c (.int .i64 2))),some (235,true),0⟩,
 ⟨(some 238),.pick (.tmp 235) (.tmp 237) (.cst (.c (.bool false))),none,0⟩,
 ⟨(some 239),.mov (.tmp 238),none,0⟩,
 ⟨(some 240),.mov (.tmp 7),some (239,true),0⟩,
 ⟨(some 241),.bin .eql (.tmp 240) (.cst (.c (.int .i64 2))),some (239,true),0⟩,
 ⟨(some 242),.pick (.tmp 239) (.tmp 241) (.cst (.c (.bool false))),none,0⟩,
 ⟨(some 243),.mov (.tmp 242),none,0⟩,
 ⟨(some 244),.mov (.tmp 9),some (243,true),0⟩,
 ⟨(some 245),.bin .eql (.tmp 244) (.cst (.c (.int .i64 2))),some (243,true),0⟩,
 ⟨(some 246),.pick (.tmp 243) (.tmp 245) (.cst (.c (.bool false))),none,0⟩,
 ⟨(some 247),.mov (.tmp 246),none,0⟩,
 ⟨(some 248),.mov (.tmp 11),some (247,true),0⟩,
 ⟨(some 249),.bin .eql (.tmp 248) (.cst (.c (.int .i64 2))),some (247,true),0⟩,
 ⟨(some 250),.pick (.tmp 247) (.tmp 249) (.cst (.c (.bool false))),none,0⟩,
 ⟨(some 251),.mov (.tmp 250),none,0⟩,
 ⟨(some 252),.mov (.tmp 13),some (251,true),0⟩,
 ⟨(some 253),.bin .eql (.tmp 252) (.cst (.c (.int .i64 11))),some (251,true),0⟩,
 ⟨(some 254),.pick (.tmp 251) (.tmp 253) (.cst (.c (.bool false))),none,0⟩,
 ⟨(some 255),.mov (.tmp 254),none,0⟩,
 ⟨(some 256),.mov (.tmp 17),some (255,true),0⟩,
 ⟨(some 257),.bin .eql (.tmp 256) (.cst (.c (.int .i64 7))),some (255,true),0⟩,
 ⟨(some 258),.pick (.tmp 255) (.tmp 257) (.cst (.c (.bool false))),none,0⟩,
 ⟨(some 259),.mov (.tmp 258),none,0⟩,
 ⟨(some 260),.load (some 9) (.tmp 18),some (259,true),0⟩,
 ⟨(some 261),.call 20 true [(.tmp 260)],some (259,true),0⟩,
 ⟨(some 262),.bin .eql (.tmp 261) (.cst (.c (.int .i64 3))),some (259,true),0⟩,
 ⟨(some 263),.pick (.tmp 259) (.tmp 262) (.cst (.c (.bool false))),none,0⟩,
 ⟨(some 264),.mov (.tmp 263),none,0⟩,
 ⟨(some 265),.load (some 9) (.tmp 19),some (264,true),0⟩,
 ⟨(some 266),.call 20 true [(.tmp 265)],some (264,true),0⟩,
 ⟨(some 267),.bin .eql (.tmp 266) (.cst (.c (.int .i64 1))),some (264,true),0⟩,
 ⟨(some 268),.pick (.tmp 264) (.tmp 267) (.cst (.c (.bool false))),none,0⟩,
 ⟨(some 269),.mov (.tmp 268),none,0⟩,
 ⟨(some 270),.load (some 9) (.tmp 20),some (269,true),0⟩,
 ⟨(some 271),.call 20 true [(.tmp 270)],some (269,true),0⟩,
 ⟨(some 272),.bin .eql (.tmp 271) (.cst (.c (.int .i64 1))),some (269,true),0⟩,
 ⟨(some 273),.pick (.tmp 269) (.tmp 272) (.cst (.c (.bool false))),none,0⟩,
 ⟨(some 274),.mov (.tmp 273),none,0⟩,
 ⟨(some 275),.load (some 9) (.tmp 21),some (274,true),0⟩,
 ⟨(some 276),.call 20 true [(.tmp 275)],some (274,true),0⟩,
 ⟨(some 277),.bin .eql (.tmp 276) (.cst (.c (.int .i64 1))),some (274,true),0⟩,
 ⟨(some 278),.pick (.tmp 274) (.tmp 277) (.cst (.c (.bool false))),none,0⟩,
 ⟨(some 279),.mov (.tmp 278),none,0⟩,
 ⟨(some 280),.load (some 9) (.tmp 22),some (279,true),0⟩,
 ⟨(some 281),.call 20 true [(.tmp 280)],some (279,true),0⟩,
 ⟨(some 282),.bin .eql (.tmp 281) (.cst (.c (.int .i64 1))),some (279,true),0⟩,
 ⟨(some 283),.pick (.tmp 279) (.tmp 282) (.cst (.c (.bool false))),none,0⟩,
 ⟨(some 284),.mov (.tmp 283),none,0⟩,
 ⟨(some 285),.load (some 9) (.tmp 23),some (284,true),0⟩,
 ⟨(some 286),.call 20 true [(.tmp 285)],some (284,true),0⟩,
 ⟨(some 287),.bin .eql (.tmp 286) (.cst (.c (.int .i64 1))),some (284,true),0⟩,
 ⟨(some 288),.pick (.tmp 284) (.tmp 287) (.cst (.c (.bool false))),none,0⟩,
 ⟨(some 289),.mov (.tmp 288),none,0⟩,
 ⟨(some 290),.load (some 9) (.tmp 24),some (289,true),0⟩,
 ⟨(some 291),.call 20 true [(.tmp 290)],some (289,true),0⟩,
 ⟨(some 292),.bin .eql (.tmp 291) (.cst (.c (.int .i64 1))),some (289,true),0⟩,
 ⟨(some 293),.pick (.tmp 289) (.tmp 292) (.cst (.c (.bool false))),none,0⟩,
 ⟨(some 294),.mov (.tmp 293),none,0⟩,
 ⟨(some 295),.load (some 9) (.tmp 25),some (294,true),0⟩,
 ⟨(some 296),.call 20 true [(.tmp 295)],some (294,true),0⟩,
 ⟨(some 297),.bin .eql (.tmp 296) (.cst (.c (.int .i64 3))),some (294,true),0⟩,
 ⟨(some 298),.pick (.tmp 294) (.tmp 297) (.cst (.c (.bool false))),none,0⟩,
 ⟨(some 299),.mov (.tmp 298),none,0⟩,
 ⟨(some 300),.load (some 9) (.tmp 26),some (299,true),0⟩,
 ⟨(some 301),.call 20 true [(.tmp 300)],some (299,true),0⟩,
 ⟨(some 302),.bin .eql (.tmp 301) (.cst (.c (.int .i64 3))),some (299,true),0⟩,
 ⟨(some 303),.pick (.tmp 299) (.tmp 302) (.cst (.c (.bool false))),none,0⟩,
 ⟨(some 304),.mov (.tmp 303),none,0⟩,
 ⟨(some 305),.build [(.int .i64 0),.nils,.nils,.nils,.nils,(.int .i64 0),(.int .i64 0),(.int .i64 0),.nils] [],some (304,true),0⟩,
 ⟨(some 306),.call 20 true [(.tmp 305)],some (304,true),0⟩,
 ⟨(some 307),.bin .eql (.tmp 306) (.cst (.c (.int .i64 1))),some (304,true),0⟩,
 ⟨(some 308),.pick (.tmp 304) (.tmp 307) (.cst (.c (.bool false))),none,0⟩,
 ⟨(some 309),.mov (.tmp 308),none,0⟩,
 ⟨(some 310),.call 13 true [],some (309,true),0⟩,
 ⟨(some 311),.pick (.tmp 309) (.tmp 310) (.cst (.c (.bool false))),none,0⟩,
 ⟨(some 0),.mov (.tmp 311),none,0⟩])
 .ret)))))))))))))))))))))))))))))))⟩
/-- 12 isatis/isatislaw02.Thin -/
def f12 : AFunc := ⟨41,[.tmp 2],false,
 (.seq (.region 1 [] [
 ⟨(some 1),.box (.tmp 0),none,0⟩,
 ⟨(some 2),.mov (.cst (.c (.bool false))),none,1⟩])
 (.seq (.region 0 [] [
 ⟨(some 3),.faddr 1 (.tmp 1),none,0⟩,
 ⟨(some 4),.load none (.tmp 3),none,0⟩,
 ⟨(some 5),.len (.tmp 4),none,0⟩,
 ⟨(some 6),.bin .leq (.tmp 5) (.cst (.c (.int .i64 12))),none,0⟩,
 ⟨(some 7),.mov (.tmp 6),none,0⟩,
 ⟨(some 8),.faddr 2 (.tmp 1),some (7,true),0⟩,
 ⟨(some 9),.load none (.tmp 8),some (7,true),0⟩,
 ⟨(some 10),.len (.tmp 9),some (7,true),0⟩,
 ⟨(some 11),.bin .leq (.tmp 10) (.cst (.c (.int .i64 12))),some (7,true),0⟩,
 ⟨(some 12),.pick (.tmp 7) (.tmp 11) (.cst (.c (.bool false))),none,0⟩,
 ⟨(some 13),.mov (.tmp 12),none,0⟩,
 ⟨(some 14),.faddr 3 (.tmp 1),some (13,true),0⟩,
 ⟨(some 15),.load none (.tmp 14),some (13,true),0⟩,
 ⟨(some 16),.len (.tmp 15),some (13,true),0⟩,
 ⟨(some 17),.bin .leq (.tmp 16) (.cst (.c (.int .i64 5))),some (13,true),0⟩,
 ⟨(some 18),.pick (.tmp 13) (.tmp 17) (.cst (.c (.bool false))),none,0⟩,
 ⟨(some 19),.mov (.tmp 18),none,0⟩,
 ⟨(some 20),.faddr 4 (.tmp 1),some (19,true),0⟩,
 ⟨(some 21),.load none (.tmp 20),some (19,true),0⟩,
 ⟨(some 22),.len (.tmp 21),some (19,true),0⟩,
 ⟨(some 23),.bin .leq (.tmp 22) (.cst (.c (.int .i64 12))),some (19,true),0⟩,
 ⟨(some 24),.pick (.tmp 19) (.tmp 23) (.cst (.c (.bool false))),none,0⟩,
 ⟨(some 25),.mov (.tmp 24),none,0⟩,
 ⟨(some 26),.faddr 8 (.tmp 1),some (25,true),0⟩,
 ⟨(some 27),.load none (.tmp 26),some (25,true),0⟩,
 ⟨(some 28),.len (.tmp 27),some (25,true),0⟩,
 ⟨(some 29),.bin .leq (.tmp 28) (.cst (.c (.int .i64 7))),some (25,true),0⟩,
 ⟨(some 30),.pick (.tmp 25) (.tmp 29) (.cst (.c (.bool false))),none,0⟩,
 ⟨(some 31),.mov (.tmp 30),none,0⟩,
 ⟨(some 32),.load (some 9) (.tmp 1),some (31,true),0⟩,
 ⟨(some 33),.call 46 true [(.tmp 32)],some (31,true),0⟩,
 ⟨(some 34),.bin .neq (.tmp 33) (.cst (.c (.int .i64 0))),some (31,true),0⟩,
 ⟨(some 35),.mov (.tmp 34),some (31,true),0⟩,
 ⟨(some 36),.load (some 9) (.tmp 1),some (35,false),0⟩,
 ⟨(some 37),.call 28 true [(.tmp 36)],some (35,false),0⟩,
 ⟨(some 38),.bin .leq (.tmp 37) (.cst (.c (.int .i64 100))),some (35,false),0⟩,
 ⟨(some 39),.pick (.tmp 35) (.cst (.c (.bool true))) (.tmp 38),some (31,true),0⟩,
 ⟨(some 40),.pick (.tmp 31) (.tmp 39) (.cst (.c (.bool false))),none,0⟩,
 ⟨(some 2),.mov (.tmp 40),none,0⟩])
 .ret))⟩
/-- 13 isatis/isatislaw02.awake -/
def f13 : AFunc := ⟨160,[.tmp 0],false,
 (.seq (.region 0 [] [
 ⟨(some 0),.mov (.cst (.c (.bool false))),none,0⟩])
 (.seq (.region 1 [] [
 ⟨(some 19),.call 41 true [(.cst (.c (.int .i64 0)))],none,0⟩,
 ⟨(some 20),.call 40 true [],none,0⟩,
 ⟨(some 21),.bslice 1 2 [(.int .i64 0)] [(0,(.cst (.c (.int .i64 1)))),(1,(.cst (.c (.int .i64 3))))],none,0⟩,
 ⟨(some 22),.call 14 true [(.tmp 19),(.tmp 20),(.tmp 21)],none,1⟩,
 ⟨(some 18),.mov (.tmp 22),none,1⟩,
 ⟨(some 23),.extract 0 (.tmp 18),none,1⟩,
 ⟨(some 24),.extract 1 (.tmp 18),none,1⟩,
 ⟨(some 1),.mov (.tmp 23),none,1⟩,
 ⟨(some 2),.mov (.tmp 24),none,1⟩])
 (.seq (.region 1 [] [
 ⟨(some 26),.call 41 true [(.cst (.c (.int .i64 0)))],none,0⟩,
 ⟨(some 27),.bslice 1 2 [(.int .i64 0)] [(0,(.cst (.c (.int .i64 2)))),(1,(.cst (.c (.int .i64 4))))],none,0⟩,
 ⟨(some 28),.call 45 true [(.tmp 26),(.tmp 27)],none,1⟩,
 ⟨(some 25),.mov (.tmp 28),none,1⟩,
 ⟨(some 29),.extract 0 (.tmp 25),none,1⟩,
 ⟨(some 30),.extract 1 (.tmp 25),none,1⟩,
 ⟨(some 3),.mov (.tmp 29),none,1⟩,
 ⟨(some 4),.mov (.tmp 30),none,1⟩])
 (.seq (.region 2 [] [
 ⟨(some 32),.call 41 true [(.cst (.c (.int .i64 0)))],none,0⟩,
 ⟨(some 33),.bslice 1 2 [(.int .i64 0)] [(0,(.cst (.c (.int .i64 1)))),(1,(.cst (.c (.int .i64 3))))],none,0⟩,
 ⟨(some 34),.call 31 true [(.tmp 32),(.tmp 33)],none,1⟩,
 ⟨(some 31),.mov (.tmp 34),none,1⟩,
 ⟨(some 35),.extract 0 (.tmp 31),none,1⟩,
 ⟨(some 36),.extract 1 (.tmp 31),none,1⟩,
 ⟨(some 5),.alloc [(.int .i64 0),(.int .i64 0)],none,1⟩,
 ⟨none,.store (some 2) (.tmp 5) (.tmp 35),none,2⟩,
 ⟨(some 6),.mov (.tmp 36),none,2⟩])
 (.seq (.region 0 [] [
 ⟨(some 38),.call 41 true [(.cst (.c (.int .i64 0)))],none,0⟩,
 ⟨(some 39),.call 32 true [(.tmp 38)],none,0⟩,
 ⟨(some 37),.mov (.tmp 39),none,0⟩,
 ⟨(some 40),.extract 0 (.tmp 37),none,0⟩,
 ⟨(some 41),.extract 1 (.tmp 37),none,0⟩,
 ⟨(some 42),.extract 2 (.tmp 37),none,0⟩,
 ⟨(some 7),.mov (.tmp 40),none,0⟩,
 ⟨(some 8),.mov (.tmp 41),none,0⟩,
 ⟨(some 9),.mov (.tmp 42),none,0⟩])
 (.seq (.region 1 [] [
 ⟨(some 44),.call 41 true [(.cst (.c (.int .i64 0)))],none,0⟩,
 ⟨(some 45),.call 42 true [(.tmp 44),(.cst (.c (.int .i64 4)))],none,0⟩,
 ⟨(some 43),.mov (.tmp 45),none,0⟩,
 ⟨(some 46),.extract 0 (.tmp 43),none,0⟩,
 ⟨(some 47),.extract 1 (.tmp 43),none,0⟩,
 ⟨(some 10),.alloc [(.int .i64 0),(.int .i64 0)],none,0⟩,
 ⟨none,.store (some 2) (.tmp 10) (.tmp 46),none,1⟩,
 ⟨(some 11),.mov (.tmp 47),none,1⟩])
 (.seq (.region 2 [] [
 ⟨(some 49),.call 41 true [(.cst (.c (.int .i64 0)))],none,0⟩,
 ⟨(some 50),.bslice 1 2 [(.int .i64 0)] [(0,(.cst (.c (.int .i64 1)))),(1,(.cst (.c (.int .i64 3))))],none,0⟩,
 ⟨(some 51),.call 47 true [(.tmp 49),(.tmp 50)],none,1⟩,
 ⟨(some 48),.mov (.tmp 51),none,1⟩,
 ⟨(some 52),.extract 0 (.tmp 48),none,1⟩,
 ⟨(some 53),.extract 1 (.tmp 48),none,1⟩,
 ⟨(some 12),.alloc [.nils,.nils],none,1⟩,
 ⟨none,.store (some 2) (.tmp 12) (.tmp 52),none,2⟩,
 ⟨(some 13),.mov (.tmp 53),none,2⟩])
 (.seq (.region 0 [] [
 ⟨(some 55),.call 41 true [(.cst (.c (.int .i64 2)))],none,0⟩,
 ⟨(some 56),.call 34 true [(.tmp 55)],none,0⟩,
 ⟨(some 54),.mov (.tmp 56),none,0⟩,
 ⟨(some 57),.extract 0 (.tmp 54),none,0⟩,
 ⟨(some 58),.extract 1 (.tmp 54),none,0⟩,
 ⟨(some 14),.mov (.tmp 57),none,0⟩,
 ⟨(some 15),.mov (.tmp 58),none,0⟩])
 (.seq (.region 0 [] [
 ⟨(some 60),.call 41 true [(.cst (.c (.int .i64 2)))],none,0⟩,
 ⟨(some 61),.call 30 true [(.tmp 60)],none,0⟩,
 ⟨(some 59),.mov (.tmp 61),none,0⟩,
 ⟨(some 62),.extract 0 (.tmp 59),none,0⟩,
 ⟨(some 63),.extract 1 (.tmp 59),none,0⟩,
 ⟨(some 16),.mov (.tmp 62),none,0⟩,
 ⟨(some 17),.mov (.tmp 63),none,0⟩])
 (.seq (.region 2 [(8,11),(9,11),(10,11),(15,18),(16,18),(17,18),(31,34),(32,34),(33,34),(31,35),(32,35),(33,35),(31,36),(32,36),(33,36),(44,45),(53,54),(66,67),(75,76),(92,93)] [
 ⟨(some 64),.mov (.tmp 2),none,0⟩,
 ⟨(some 65),.bin .eql (.tmp 64) (.cst (.c (.int .i64 0))),none,0⟩,
 ⟨(some 66),.mov (.tmp 65),none,0⟩,
 ⟨(some 67),.mov (.tmp 1),some (66,true),0⟩,
 ⟨(some 68),.len (.tmp 67),some (66,true),0⟩,
 ⟨(some 69),.bin .eql (.tmp 68) (.cst (.c (.int .i64 2))),some (66,true),0⟩,
 ⟨(some 70),.pick (.tmp 66) (.tmp 69) (.cst (.c (.bool false))),none,0⟩,
 ⟨(some 71),.mov (.tmp 70),none,0⟩,
 ⟨(some 72),.mov (.tmp 1),some (71,true),0⟩,
 ⟨(some 73),.iaddr 3 (.tmp 72) (.cst (.c (.int .i64 0))),some (71,true),0⟩,
 ⟨(some 74),.load (some 3) (.tmp 73),some (71,true),0⟩,
 ⟨(some 75),.build [(.int .i64 0),(.int .i64 0),(.int .i64 0)] [(0,1,(.cst (.c (.int .i64 18)))),(1,1,(.cst (.c (.int .i64 20)))),(2,1,(.cst (.c (.int .i64 360))))],some (71,true),0⟩,
 ⟨(some 76),.eqA false [(some .i64),(some .i64),(some .i64)] (.tmp 74) (.tmp 75),some (71,true),0⟩,
 ⟨(some 77),.pick (.tmp 71) (.tmp 76) (.cst (.c (.bool false))),none,0⟩,
 ⟨(some 78),.mov (.tmp 77),none,0⟩,
 ⟨(some 79),.mov (.tmp 1),some (78,true),0⟩,
 ⟨(some 80),.iaddr 3 (.tmp 79) (.cst (.c (.int .i64 1))),some (78,true),0⟩,
 ⟨(some 81),.load (some 3) (.tmp 80),some (78,true),0⟩,
 ⟨(some 82),.build [(.int .i64 0),(.int .i64 0),(.int .i64 0)] [(0,1,(.cst (.c (.int .i64 5)))),(1,1,(.cst (.c (.int .i64 15)))),(2,1,(.cst (.c (.int .i64 75))))],some (78,true),0⟩,
 ⟨(some 83),.eqA false [(some .i64),(some .i64),(some .i64)] (.tmp 81) (.tmp 82),some (78,true),0⟩,
 ⟨(some 84),.pick (.tmp 78) (.tmp 83) (.cst (.c (.bool false))),none,0⟩,
 ⟨(some 85),.mov (.tmp 84),none,0⟩,
 ⟨(some 86),.mov (.tmp 4),some (85,true),0⟩,
 ⟨(some 87),.bin .eql (.tmp 86) (.cst (.c (.int .i64 0))),some (85,true),0⟩,
 ⟨(some 88),.pick (.tmp 85) (.tmp 87) (.cst (.c (.bool false))),none,0⟩,
 ⟨(some 89),.mov (.tmp 88),none,0⟩,
 ⟨(some 90),.mov (.tmp 3),some (89,true),0⟩,
 ⟨(some 91),.len (.tmp 90),some (89,true),0⟩,
 ⟨(some 92),.bin .eql (.tmp 91) (.cst (.c (.int .i64 2))),some (89,true),0⟩,
 ⟨(some 93),.pick (.tmp 89) (.tmp 92) (.cst (.c (.bool false))),none,0⟩,
 ⟨(some 94),.mov (.tmp 93),none,0⟩,
 ⟨(some 95),.mov (.tmp 3),some (94,true),0⟩,
 ⟨(some 96),.iaddr 5 (.tmp 95) (.cst (.c (.int .i64 0))),some (94,true),0⟩,
 ⟨(some 97),.load (some 5) (.tmp 96),some (94,true),0⟩,
 ⟨(some 98),.call 43 true [(.cst (.c (.int .i64 24))),(.cst (.c (.int .i64 26)))],some (94,true),0⟩,
 ⟨(some 99),.call 43 true [(.cst (.c (.int .i64 384))),(.cst (.c (.int .i64 416)))],some (94,true),0⟩,
 ⟨(some 100),.build [(.int .i64 0),(.int .i64 0),(.int .i64 0),(.int .i64 0),(.int .i64 0)] [(0,2,(.tmp 98)),(2,1,(.cst (.c (.int .i64 16)))),(3,2,(.tmp 99))],some (94,true),0⟩,
 ⟨(some 101),.eqA false [(some .i64),(some .i64),(some .i64),(some .i64),(some .i64)] (.tmp 97) (.tmp 100),some (94,true),0⟩,
 ⟨(some 102),.pick (.tmp 94) (.tmp 101) (.cst (.c (.bool false))),none,0⟩,
 ⟨(some 103),.mov (.tmp 102),none,0⟩,
 ⟨(some 104),.mov (.tmp 6),some (103,true),0⟩,
 ⟨(some 105),.bin .eql (.tmp 104) (.cst (.c (.int .i64 0))),some (103,true),0⟩,
 ⟨(some 106),.pick (.tmp 103) (.tmp 105) (.cst (.c (.bool false))),none,0⟩,
 ⟨(some 107),.mov (.tmp 106),none,0⟩,
 ⟨(some 108),.load (some 2) (.tmp 5),some (107,true),0⟩,
 ⟨(some 109),.call 43 true [(.cst (.c (.int .i64 255))),(.cst (.c (.int .i64 490)))],some (107,true),0⟩,
 ⟨(some 110),.eqA false [(some .i64),(some .i64)] (.tmp 108) (.tmp 109),some (107,true),0⟩,
 ⟨(some 111),.pick (.tmp 107) (.tmp 110) (.cst (.c (.bool false))),none,0⟩,
 ⟨(some 112),.mov (.tmp 111),none,0⟩,
 ⟨(some 113),.mov (.tmp 9),some (112,true),0⟩,
 ⟨(some 114),.bin .eql (.tmp 113) (.cst (.c (.int .i64 0))),some (112,true),0⟩,
 ⟨(some 115),.pick (.tmp 112) (.tmp 114) (.cst (.c (.bool false))),none,0⟩,
 ⟨(some 116),.mov (.tmp 115),none,0⟩,
 ⟨(some 117),.mov (.tmp 7),some (116,true),0⟩,
 ⟨(some 118),.bslice 1 2 [(.int .i64 0)] [(0,(.cst (.c (.int .i64 2)))),(1,(.cst (.c (.int .i64 4))))],some (116,true),0⟩,
 ⟨(some 119),.call 48 true [(.tmp 117),(.tmp 118)],some (116,true),1⟩,
 ⟨(some 120),.pick (.tmp 116) (.tmp 119) (.cst (.c (.bool false))),none,1⟩,
 ⟨(some 121),.mov (.tmp 120),none,1⟩,
 ⟨(some 122),.mov (.tmp 8),some (121,true),1⟩,
 ⟨(some 123),.bin .eql (.tmp 122) (.cst (.c (.int .i64 474))),some (121,true),1⟩,
 ⟨(some 124),.pick (.tmp 121) (.tmp 123) (.cst (.c (.bool false))),none,1⟩,
 ⟨(some 125),.mov (.tmp 124),none,1⟩,
 ⟨(some 126),.mov (.tmp 11),some (125,true),1⟩,
 ⟨(some 127),.bin .eql (.tmp 126) (.cst (.c (.int .i64 0))),some (125,true),1⟩,
 ⟨(some 128),.pick (.tmp 125) (.tmp 127) (.cst (.c (.bool false))),none,1⟩,
 ⟨(some 129),.mov (.tmp 128),none,1⟩,
 ⟨(some 130),.load (some 2) (.tmp 10),some (129,true),1⟩,
 ⟨(some 131),.call 43 true [(.cst (.c (.int .i64 30))),(.cst (.c (.int .i64 33)))],some (129,true),1⟩,
 ⟨(some 132),.eqA false [(some .i64),(some .i64)] (.tmp 130) (.tmp 131),some (129,true),1⟩,
 ⟨(some 133),.pick (.tmp 129) (.tmp 132) (.cst (.c (.bool false))),none,1⟩,
 ⟨(some 134),.mov (.tmp 133),none,1⟩,
 ⟨(some 135),.mov (.tmp 13),some (134,true),1⟩,
 ⟨(some 136),.bin .eql (.tmp 135) (.cst (.c (.int .i64 0))),some (134,true),1⟩,
 ⟨(some 137),.pick (.tmp 134) (.tmp 136) (.cst (.c (.bool false))),none,1⟩,
 ⟨(some 138),.mov (.tmp 137),none,1⟩,
 ⟨(some 139),.call 41 true [(.cst (.c (.int .i64 0)))],some (138,true),1⟩,
 ⟨(some 140),.load (some 2) (.tmp 12),some (138,true),1⟩,
 ⟨(some 141),.call 18 true [(.tmp 139),(.tmp 140)],some (138,true),1⟩,
 ⟨(some 142),.pick (.tmp 138) (.tmp 141) (.cst (.c (.bool false))),none,1⟩,
 ⟨(some 143),.mov (.tmp 142),none,1⟩,
 ⟨(some 144),.mov (.tmp 15),some (143,true),1⟩,
 ⟨(some 145),.bin .eql (.tmp 144) (.cst (.c (.int .i64 0))),some (143,true),1⟩,
 ⟨(some 146),.pick (.tmp 143) (.tmp 145) (.cst (.c (.bool false))),none,1⟩,
 ⟨(some 147),.mov (.tmp 146),none,1⟩,
 ⟨(some 148),.mov (.tmp 14),some (147,true),1⟩,
 ⟨(some 149),.bin .eql (.tmp 148) (.cst (.c (.int .i64 1))),some (147,true),1⟩,
 ⟨(some 150),.pick (.tmp 147) (.tmp 149) (.cst (.c (.bool false))),none,1⟩,
 ⟨(some 151),.mov (.tmp 150),none,1⟩,
 ⟨(some 152),.mov (.tmp 17),some (151,true),1⟩,
 ⟨(some 153),.bin .eql (.tmp 152) (.cst (.c (.int .i64 0))),some (151,true),1⟩,
 ⟨(some 154),.pick (.tmp 151) (.tmp 153) (.cst (.c (.bool false))),none,1⟩,
 ⟨(some 155),.mov (.tmp 154),none,1⟩,
 ⟨(some 156),.mov (.tmp 16),some (155,true),1⟩,
 ⟨(some 157),.bslice 1 1 [(.int .i64 0)] [(0,(.cst (.c (.int .i64 0))))],some (155,true),1⟩,
 ⟨(some 158),.call 48 true [(.tmp 156),(.tmp 157)],some (155,true),2⟩,
 ⟨(some 159),.pick (.tmp 155) (.tmp 158) (.cst (.c (.bool false))),none,2⟩,
 ⟨(some 0),.mov (.tmp 159),none,2⟩])
 .ret))))))))))⟩
/-- 14 isatis/crop.Play -/
def f14 : AFunc := ⟨29,[.tmp 6,.tmp 7],false,
 (.seq (.region 2 [] [
 ⟨(some 3),.box (.tmp 0),none,0⟩,
 ⟨(some 4),.box (.tmp 1),none,1⟩,
 ⟨(some 6),.mov (.cst (.c .nils)),none,2⟩,
 ⟨(some 7),.mov (.cst (.c (.int .i64 0))),none,2⟩])
 (.seq (.seq (.region 0 [] [
 ⟨(some 9),.load (some 9) (.tmp 3),none,0⟩,
 ⟨(some 10),.call 20 true [(.tmp 9)],none,0⟩,
 ⟨(some 8),.mov (.tmp 10),none,0⟩])
 (.seq (.region 0 [] [
 ⟨(some 11),.mov (.tmp 8),none,0⟩,
 ⟨(some 12),.bin .neq (.tmp 11) (.cst (.c (.int .i64 0))),none,0⟩])
 (.cond (.tmp 12)
 (.seq (.region 0 [] [
 ⟨(some 13),.mov (.tmp 8),none,0⟩,
 ⟨(some 6),.mov (.cst (.c .nils)),none,0⟩,
 ⟨(some 7),.mov (.tmp 13),none,0⟩])
 .ret)
 .skip)))
 (.seq (.seq (.region 0 [] [
 ⟨(some 14),.load (some 9) (.tmp 3),none,0⟩,
 ⟨(some 15),.load (some 2) (.tmp 4),none,0⟩,
 ⟨(some 16),.call 49 true [(.tmp 14),(.tmp 15)],none,0⟩,
 ⟨(some 17),.not (.tmp 16),none,0⟩,
 ⟨(some 18),.mov (.tmp 17),none,0⟩,
 ⟨(some 19),.load (some 9) (.tmp 3),some (18,false),0⟩,
 ⟨(some 20),.mov (.tmp 2),some (18,false),0⟩,
 ⟨(some 21),.call 50 true [(.tmp 19),(.tmp 20)],some (18,false),0⟩,
 ⟨(some 22),.not (.tmp 21),some (18,false),0⟩,
 ⟨(some 23),.pick (.tmp 18) (.cst (.c (.bool true))) (.tmp 22),none,0⟩])
 (.cond (.tmp 23)
 (.seq (.region 0 [] [
 ⟨(some 6),.mov (.cst (.c .nils)),none,0⟩,
 ⟨(some 7),.mov (.cst (.c (.int .i64 2))),none,0⟩])
 .ret)
 .skip))
 (.seq (.region 0 [(0,2),(1,2),(0,3),(1,3),(2,3)] [
 ⟨(some 24),.load (some 9) (.tmp 3),none,0⟩,
 ⟨(some 25),.call 51 false [(.tmp 24)],none,0⟩,
 ⟨(some 26),.load (some 2) (.tmp 4),none,0⟩,
 ⟨(some 27),.mov (.tmp 2),none,0⟩,
 ⟨(some 28),.call 52 false [(.tmp 25),(.tmp 26),(.tmp 27)],none,0⟩,
 ⟨(some 6),.mov (.tmp 28),none,0⟩,
 ⟨(some 7),.mov (.cst (.c (.int .i64 0))),none,0⟩])
 .ret))))⟩
/-- 15 isatis/isatislaw02.Field | loop 0 vars [4] kill 18 makes true reify [(3,((some 1),2))] | loop 2 vars [5] kill 26 makes true reify [(3,((some 8),3))] -/
def f15 : AFunc := ⟨69,[.cell 2 (some 9)],false,
 (.seq (.region 2 [] [
 ⟨(some 1),.box (.tmp 0),none,0⟩,
 ⟨(some 2),.alloc [(.int .i64 0),.nils,.nils,.nils,.nils,(.int .i64 0),(.int .i64 0),(.int .i64 0),.nils],none,1⟩])
 (.seq (.region 1 [(0,2),(1,2),(0,3),(1,3),(0,4),(1,4),(0,5),(1,5),(2,5),(3,5),(4,5),(0,6),(1,6),(2,6),(3,6),(4,6),(0,7),(1,7),(0,8),(1,8),(2,8),(3,8),(4,8),(5,8),(6,8),(7,8),(0,9),(1,9),(2,9),(3,9),(4,9),(5,9),(6,9),(7,9),(0,10),(1,10),(0,11),(1,11),(2,11),(3,11),(4,11),(5,11),(6,11),(7,11),(8,11),(9,11),(10,11),(0,12),(1,12),(2,12),(3,12),(4,12),(5,12),(6,12),(7,12),(8,12),(9,12),(10,12),(0,13),(1,13),(2,13),(3,13),(4,13),(5,13),(6,13),(7,13),(8,13),(9,13),(10,13),(11,13),(12,13),(0,14),(1,14),(2,14),(3,14),(4,14),(5,14),(6,14),(7,14),(8,14),(9,14),(10,14),(11,14),(12,14),(0,15),(1,15),(2,15),(3,15),(4,15),(5,15),(6,15),(7,15),(8,15),(9,15),(10,15),(11,15),(12,15),(13,15),(14,15),(0,16),(1,16),(2,16),(3,16),(4,16),(5,16),(6,16),(7,16),(8,16),(9,16),(10,16),(11,16),(12,16),(13,16),(14,16),(0,18),(1,18),(2,18),(3,18),(4,18),(5,18),(6,18),(7,18),(8,18),(9,18),(10,18),(11,18),(12,18),(13,18),(14,18),(15,18),(16,18),(17,18)] [
 ⟨(some 6),.faddr 0 (.tmp 1),none,0⟩,
 ⟨(some 7),.load none (.tmp 6),none,0⟩,
 ⟨(some 8),.faddr 2 (.tmp 1),none,0⟩,
 ⟨(some 9),.load none (.tmp 8),none,0⟩,
 ⟨(some 10),.call 17 true [(.tmp 9)],none,0⟩,
 ⟨(some 11),.faddr 3 (.tmp 1),none,0⟩,
 ⟨(some 12),.load none (.tmp 11),none,0⟩,
 ⟨(some 13),.call 17 true [(.tmp 12)],none,0⟩,
 ⟨(some 14),.faddr 4 (.tmp 1),none,0⟩,
 ⟨(some 15),.load none (.tmp 14),none,0⟩,
 ⟨(some 16),.call 17 true [(.tmp 15)],none,0⟩,
 ⟨(some 17),.faddr 5 (.tmp 1),none,0⟩,
 ⟨(some 18),.load none (.tmp 17),none,0⟩,
 ⟨(some 19),.faddr 6 (.tmp 1),none,0⟩,
 ⟨(some 20),.load none (.tmp 19),none,0⟩,
 ⟨(some 21),.faddr 7 (.tmp 1),none,0⟩,
 ⟨(some 22),.load none (.tmp 21),none,0⟩,
 ⟨(some 23),.build [(.int .i64 0),.nils,.nils,.nils,.nils,(.int .i64 0),(.int .i64 0),(.int .i64 0),.nils] [(0,1,(.tmp 7)),(2,1,(.tmp 10)),(3,1,(.tmp 13)),(4,1,(.tmp 16)),(5,1,(.tmp 18)),(6,1,(.tmp 20)),(7,1,(.tmp 22))],none,0⟩,
 ⟨(some 3),.alloc [(.int .i64 0),.nils,.nils,.nils,.nils,(.int .i64 0),(.int .i64 0),(.int .i64 0),.nils],none,0⟩,
 ⟨none,.store (some 9) (.tmp 3) (.tmp 23),none,1⟩])
 (.seq (.seq (.region 0 [] [
 ⟨(some 4),.mov (.cst (.c (.int .i64 0))),none,0⟩])
 (.block 0 (.loop ⟨[24,25,26,27,28,29,30,31,32,33,34,35,36,37,38,39,40,41],true,[(3,(some 1),2)]⟩
 (.seq (.seq (.region 0 [] [
 ⟨(some 24),.mov (.tmp 4),none,0⟩,
 ⟨(some 25),.faddr 1 (.tmp 1),none,0⟩,
 ⟨(some 26),.load none (.tmp 25),none,0⟩,
 ⟨(some 27),.len (.tmp 26),none,0⟩,
 ⟨(some 28),.bin .lss (.tmp 24) (.tmp 27),none,0⟩])
 (.cond (.tmp 28)
 .skip
 (.exit 0)))
 (.seq (.block 1 (.region 2 [(0,2),(1,2),(0,3),(1,3),(0,4),(1,4),(2,4),(3,4),(0,5),(1,5),(0,6),(1,6),(0,7),(1,7),(0,8),(1,8)] [
 ⟨(some 31),.faddr 1 (.tmp 3),none,0⟩,
 ⟨(some 32),.load none (.tmp 31),none,0⟩,
 ⟨(some 33),.faddr 1 (.tmp 1),none,0⟩,
 ⟨(some 34),.load none (.tmp 33),none,0⟩,
 ⟨(some 35),.mov (.tmp 4),none,0⟩,
 ⟨(some 36),.iaddr 2 (.tmp 34) (.tmp 35),none,0⟩,
 ⟨(some 37),.load (some 2) (.tmp 36),none,0⟩,
 ⟨(some 38),.call 53 true [(.tmp 37)],none,0⟩,
 ⟨(some 39),.bslice 2 1 [(.int .i64 0),(.int .i64 0)] [(0,(.tmp 38))],none,0⟩,
 ⟨(some 40),.append 2 16 (.tmp 32) (.tmp 39),none,1⟩,
 ⟨(some 41),.faddr 1 (.tmp 3),none,2⟩,
 ⟨none,.store none (.tmp 41) (.tmp 40),none,2⟩]))
 (.region 0 [] [
 ⟨(some 29),.mov (.tmp 4),none,0⟩,
 ⟨(some 30),.bin .add (.tmp 29) (.cst (.c (.int .i64 1))),none,0⟩,
 ⟨(some 4),.mov (.tmp 30),none,0⟩]))))))
 (.seq (.seq (.region 0 [] [
 ⟨(some 5),.mov (.cst (.c (.int .i64 0))),none,0⟩])
 (.block 2 (.loop ⟨[42,43,44,45,46,47,48,49,50,51,52,53,54,55,56,57,58,59,60,61,62,63,64,65,66,67],true,[(3,(some 8),3)]⟩
 (.seq (.seq (.region 0 [] [
 ⟨(some 42),.mov (.tmp 5),none,0⟩,
 ⟨(some 43),.faddr 8 (.tmp 1),none,0⟩,
 ⟨(some 44),.load none (.tmp 43),none,0⟩,
 ⟨(some 45),.len (.tmp 44),none,0⟩,
 ⟨(some 46),.bin .lss (.tmp 42) (.tmp 45),none,0⟩])
 (.cond (.tmp 46)
 .skip
 (.exit 2)))
 (.seq (.block 3 (.region 2 [(0,2),(1,2),(0,3),(1,3),(0,4),(1,4),(2,4),(3,4),(0,5),(1,5),(0,6),(1,6),(0,7),(1,7),(0,8),(1,8),(2,8),(3,8),(4,8),(5,8),(6,8),(7,8),(0,9),(1,9),(2,9),(3,9),(4,9),(5,9),(6,9),(7,9),(0,10),(1,10),(2,10),(3,10),(4,10),(5,10),(6,10),(7,10),(8,10),(9,10),(0,11),(1,11),(2,11),(3,11),(4,11),(5,11),(6,11),(7,11),(0,12),(1,12),(2,12),(3,12),(4,12),(5,12),(6,12),(7,12),(0,13),(1,13),(2,13),(3,13),(4,13),(5,13),(6,13),(7,13),(0,14),(1,14),(2,14),(3,14),(4,14),(5,14),(6,14),(7,14),(0,15),(1,15),(0,16),(1,16)] [
 ⟨(some 49),.faddr 8 (.tmp 3),none,0⟩,
 ⟨(some 50),.load none (.tmp 49),none,0⟩,
 ⟨(some 51),.faddr 8 (.tmp 1),none,0⟩,
 ⟨(some 52),.load none (.tmp 51),none,0⟩,
 ⟨(some 53),.mov (.tmp 5),none,0⟩,
 ⟨(some 54),.iaddr 3 (.tmp 52) (.tmp 53),none,0⟩,
 ⟨(some 55),.faddr 0 (.tmp 54),none,0⟩,
 ⟨(some 56),.load none (.tmp 55),none,0⟩,
 ⟨(some 57),.faddr 8 (.tmp 1),none,0⟩,
 ⟨(some 58),.load none (.tmp 57),none,0⟩,
 ⟨(some 59),.mov (.tmp 5),none,0⟩,
 ⟨(some 60),.iaddr 3 (.tmp 58) (.tmp 59),none,0⟩,
 ⟨(some 61),.faddr 1 (.tmp 60),none,0⟩,
 ⟨(some 62),.load (some 2) (.tmp 61),none,0⟩,
 ⟨(some 63),.call 53 true [(.tmp 62)],none,0⟩,
 ⟨(some 64),.build [(.int .i64 0),(.int .i64 0),(.int .i64 0)] [(0,1,(.tmp 56)),(1,2,(.tmp 63))],none,0⟩,
 ⟨(some 65),.bslice 3 1 [(.int .i64 0),(.int .i64 0),(.int .i64 0)] [(0,(.tmp 64))],none,0⟩,
 ⟨(some 66),.append 3 24 (.tmp 50) (.tmp 65),none,1⟩,
 ⟨(some 67),.faddr 8 (.tmp 3),none,2⟩,
 ⟨none,.store none (.tmp 67) (.tmp 66),none,2⟩]))
 (.region 0 [] [
 ⟨(some 47),.mov (.tmp 5),none,0⟩,
 ⟨(some 48),.bin .add (.tmp 47) (.cst (.c (.int .i64 1))),none,0⟩,
 ⟨(some 5),.mov (.tmp 48),none,0⟩]))))))
 (.seq (.region 0 [] [
 ⟨(some 68),.load (some 9) (.tmp 3),none,0⟩,
 ⟨none,.store (some 9) (.tmp 2) (.tmp 68),none,0⟩])
 .ret)))))⟩
/-- 16 isatis/isatislaw02.Truth -/
def f16 : AFunc := ⟨10,[.cell 2 (some 2)],false,
 (.seq (.region 2 [] [
 ⟨(some 1),.box (.tmp 0),none,0⟩,
 ⟨(some 2),.alloc [.nils,.nils],none,1⟩])
 (.seq (.region 0 [(0,3),(1,3),(2,3),(0,4),(1,4),(2,4)] [
 ⟨(some 3),.faddr 0 (.tmp 1),none,0⟩,
 ⟨(some 4),.load none (.tmp 3),none,0⟩,
 ⟨(some 5),.call 17 true [(.tmp 4)],none,0⟩,
 ⟨(some 6),.faddr 1 (.tmp 1),none,0⟩,
 ⟨(some 7),.load none (.tmp 6),none,0⟩,
 ⟨(some 8),.call 17 true [(.tmp 7)],none,0⟩,
 ⟨(some 9),.build [.nils,.nils] [(0,1,(.tmp 5)),(1,1,(.tmp 8))],none,0⟩,
 ⟨none,.store (some 2) (.tmp 2) (.tmp 9),none,0⟩])
 .ret))⟩
/-- 17 isatis/isatislaw02.list -/
def f17 : AFunc := ⟨5,[.tmp 2],false,
 (.seq (.region 0 [] [
 ⟨(some 2),.mov (.cst (.c .nils)),none,0⟩])
 (.seq (.region 1 [] [
 ⟨(some 3),.mov (.tmp 0),none,0⟩,
 ⟨(some 4),.append 1 8 (.cst (.c .nils)) (.tmp 3),none,0⟩,
 ⟨(some 2),.mov (.tmp 4),none,1⟩])
 .ret))⟩
/-- 18 isatis/crop.ProveTruth -/
def f18 : AFunc := ⟨25,[.tmp 4],false,
 (.seq (.region 2 [] [
 ⟨(some 2),.box (.tmp 0),none,0⟩,
 ⟨(some 3),.box (.tmp 1),none,1⟩,
 ⟨(some 4),.mov (.cst (.c (.bool false))),none,2⟩])
 (.seq (.seq (.region 0 [] [
 ⟨(some 6),.load (some 9) (.tmp 2),none,0⟩,
 ⟨(some 7),.call 20 true [(.tmp 6)],none,0⟩,
 ⟨(some 8),.bin .neq (.tmp 7) (.cst (.c (.int .i64 0))),none,0⟩,
 ⟨(some 9),.mov (.tmp 8),none,0⟩,
 ⟨(some 10),.load (some 9) (.tmp 2),some (9,false),0⟩,
 ⟨(some 11),.load (some 2) (.tmp 3),some (9,false),0⟩,
 ⟨(some 12),.call 49 true [(.tmp 10),(.tmp 11)],some (9,false),0⟩,
 ⟨(some 13),.not (.tmp 12),some (9,false),0⟩,
 ⟨(some 14),.pick (.tmp 9) (.cst (.c (.bool true))) (.tmp 13),none,0⟩])
 (.cond (.tmp 14)
 (.seq (.region 0 [] [
 ⟨(some 4),.mov (.cst (.c (.bool false))),none,0⟩])
 .ret)
 .skip))
 (.seq (.region 1 [(0,2),(1,2),(0,3),(1,3),(2,3),(0,4),(1,4),(2,4),(0,6),(1,6),(2,6),(3,6),(4,6),(5,6)] [
 ⟨(some 15),.load (some 9) (.tmp 2),none,0⟩,
 ⟨(some 16),.call 51 true [(.tmp 15)],none,0⟩,
 ⟨(some 17),.load (some 2) (.tmp 3),none,0⟩,
 ⟨(some 18),.faddr 4 (.tmp 2),none,0⟩,
 ⟨(some 19),.load none (.tmp 18),none,0⟩,
 ⟨(some 20),.call 54 true [(.tmp 16),(.tmp 17),(.tmp 19)],none,0⟩,
 ⟨(some 5),.alloc [(.int .i64 0),(.int .i64 0),(.int .i64 0),(.int .i64 0),(.int .i64 0),(.int .i64 0),(.int .i64 0),(.int .i64 0),(.int .i64 0),(.int .i64 0)],none,0⟩,
 ⟨none,.store (some 10) (.tmp 5) (.tmp 20),none,1⟩])
 (.seq (.region 0 [] [
 ⟨(some 21),.faddr 8 (.tmp 2),none,0⟩,
 ⟨(some 22),.load none (.tmp 21),none,0⟩,
 ⟨(some 23),.mkfn 56 none [(.tmp 5)],none,0⟩,
 ⟨(some 24),.call 55 false [(.tmp 22),(.tmp 23)],none,0⟩,
 ⟨(some 4),.mov (.tmp 24),none,0⟩])
 .ret))))⟩
/-- 19 isatis/isatislaw02.fault -/
def f19 : AFunc := ⟨5,[.tmp 2],false,
 (.seq (.region 1 [] [
 ⟨(some 1),.box (.tmp 0),none,0⟩,
 ⟨(some 2),.mov (.cst (.c (.int .i64 0))),none,1⟩])
 (.seq (.region 0 [] [
 ⟨(some 3),.load (some 9) (.tmp 1),none,0⟩,
 ⟨(some 4),.call 46 true [(.tmp 3)],none,0⟩,
 ⟨(some 2),.mov (.tmp 4),none,0⟩])
 .ret))⟩
/-- 20 isatis/crop.CheckField | loop 1 vars [4,79] kill 11 makes true -/
def f20 : AFunc := ⟨92,[.tmp 2],false,
 (.seq (.region 1 [] [
 ⟨(some 1),.box (.tmp 0),none,0⟩,
 ⟨(some 2),.mov (.cst (.c (.int .i64 0))),none,1⟩])
 (.seq (.region 0 [] [
 ⟨(some 7),.load (some 9) (.tmp 1),none,0⟩,
 ⟨(some 8),.mkfn 58 (some (.tmp 7)) [],none,0⟩,
 ⟨(some 3),.mov (.tmp 8),none,0⟩])
 (.seq (.block 0 (.seq (.region 0 [] [
 ⟨(some 10),.faddr 0 (.tmp 1),none,0⟩,
 ⟨(some 11),.load none (.tmp 10),none,0⟩,
 ⟨(some 12),.bin .gtr (.tmp 11) (.cst (.c (.int .i64 9))),none,0⟩,
 ⟨(some 13),.mov (.tmp 12),none,0⟩,
 ⟨(some 14),.faddr 3 (.tmp 1),some (13,false),0⟩,
 ⟨(some 15),.load none (.tmp 14),some (13,false),0⟩,
 ⟨(some 16),.len (.tmp 15),some (13,false),0⟩,
 ⟨(some 17),.bin .gtr (.tmp 16) (.cst (.c (.int .i64 3))),some (13,false),0⟩,
 ⟨(some 18),.pick (.tmp 13) (.cst (.c (.bool true))) (.tmp 17),none,0⟩,
 ⟨(some 19),.mov (.tmp 18),none,0⟩,
 ⟨(some 20),.faddr 8 (.tmp 1),some (19,false),0⟩,
 ⟨(some 21),.load none (.tmp 20),some (19,false),0⟩,
 ⟨(some 22),.len (.tmp 21),some (19,false),0⟩,
 ⟨(some 23),.bin .gtr (.tmp 22) (.cst (.c (.int .i64 5))),some (19,false),0⟩,
 ⟨(some 24),.pick (.tmp 19) (.cst (.c (.bool true))) (.tmp 23),none,0⟩,
 ⟨(some 9),.mov (.tmp 24),none,0⟩])
 (.cond (.tmp 9)
 (.seq (.region 0 [] [
 ⟨(some 2),.mov (.cst (.c (.int .i64 3))),none,0⟩])
 .ret)
 (.seq (.region 0 [(4,7),(5,7),(6,7),(4,8),(5,8),(6,8),(12,15),(13,15),(14,15),(12,16),(13,16),(14,16),(25,26),(25,27),(44,46),(45,46)] [
 ⟨(some 26),.load (some 9) (.tmp 1),none,0⟩,
 ⟨(some 27),.call 59 true [(.tmp 26)],none,0⟩,
 ⟨(some 28),.not (.tmp 27),none,0⟩,
 ⟨(some 29),.mov (.tmp 28),none,0⟩,
 ⟨(some 30),.faddr 1 (.tmp 1),some (29,false),0⟩,
 ⟨(some 31),.load none (.tmp 30),some (29,false),0⟩,
 ⟨(some 32),.len (.tmp 31),some (29,false),0⟩,
 ⟨(some 33),.load (some 9) (.tmp 1),some (29,false),0⟩,
 ⟨(some 34),.call 60 true [(.tmp 33)],some (29,false),0⟩,
 ⟨(some 35),.bin .neq (.tmp 32) (.tmp 34),some (29,false),0⟩,
 ⟨(some 36),.pick (.tmp 29) (.cst (.c (.bool true))) (.tmp 35),none,0⟩,
 ⟨(some 37),.mov (.tmp 36),none,0⟩,
 ⟨(some 38),.faddr 2 (.tmp 1),some (37,false),0⟩,
 ⟨(some 39),.load none (.tmp 38),some (37,false),0⟩,
 ⟨(some 40),.len (.tmp 39),some (37,false),0⟩,
 ⟨(some 41),.load (some 9) (.tmp 1),some (37,false),0⟩,
 ⟨(some 42),.call 60 true [(.tmp 41)],some (37,false),0⟩,
 ⟨(some 43),.bin .neq (.tmp 40) (.tmp 42),some (37,false),0⟩,
 ⟨(some 44),.pick (.tmp 37) (.cst (.c (.bool true))) (.tmp 43),none,0⟩,
 ⟨(some 45),.mov (.tmp 44),none,0⟩,
 ⟨(some 46),.load (some 9) (.tmp 1),some (45,false),0⟩,
 ⟨(some 47),.call 61 true [(.tmp 46)],some (45,false),0⟩,
 ⟨(some 48),.not (.tmp 47),some (45,false),0⟩,
 ⟨(some 49),.pick (.tmp 45) (.cst (.c (.bool true))) (.tmp 48),none,0⟩,
 ⟨(some 50),.mov (.tmp 49),none,0⟩,
 ⟨(some 51),.load (some 9) (.tmp 1),some (50,false),0⟩,
 ⟨(some 52),.faddr 4 (.tmp 1),some (50,false),0⟩,
 ⟨(some 53),.load none (.tmp 52),some (50,false),0⟩,
 ⟨(some 54),.call 50 true [(.tmp 51),(.tmp 53)],some (50,false),0⟩,
 ⟨(some 55),.not (.tmp 54),some (50,false),0⟩,
 ⟨(some 56),.pick (.tmp 50) (.cst (.c (.bool true))) (.tmp 55),none,0⟩,
 ⟨(some 57),.mov (.tmp 56),none,0⟩,
 ⟨(some 58),.faddr 1 (.tmp 1),some (57,false),0⟩,
 ⟨(some 59),.load none (.tmp 58),some (57,false),0⟩,
 ⟨(some 60),.call 62 false [(.tmp 59),(.cst (.c (.fn 63 false [] [])))],some (57,false),0⟩,
 ⟨(some 61),.not (.tmp 60),some (57,false),0⟩,
 ⟨(some 62),.pick (.tmp 57) (.cst (.c (.bool true))) (.tmp 61),none,0⟩,
 ⟨(some 63),.mov (.tmp 62),none,0⟩,
 ⟨(some 64),.faddr 2 (.tmp 1),some (63,false),0⟩,
 ⟨(some 65),.load none (.tmp 64),some (63,false),0⟩,
 ⟨(some 66),.call 64 false [(.tmp 65),(.cst (.c (.fn 65 false [] [])))],some (63,false),0⟩,
 ⟨(some 67),.not (.tmp 66),some (63,false),0⟩,
 ⟨(some 68),.pick (.tmp 63) (.cst (.c (.bool true))) (.tmp 67),none,0⟩,
 ⟨(some 69),.mov (.tmp 68),none,0⟩,
 ⟨(some 70),.faddr 8 (.tmp 1),some (69,false),0⟩,
 ⟨(some 71),.load none (.tmp 70),some (69,false),0⟩,
 ⟨(some 72),.mov (.tmp 3),some (69,false),0⟩,
 ⟨(some 73),.call 55 false [(.tmp 71),(.tmp 72)],some (69,false),0⟩,
 ⟨(some 74),.not (.tmp 73),some (69,false),0⟩,
 ⟨(some 75),.pick (.tmp 69) (.cst (.c (.bool true))) (.tmp 74),none,0⟩,
 ⟨(some 25),.mov (.tmp 75),none,0⟩])
 (.cond (.tmp 25)
 (.seq (.region 0 [] [
 ⟨(some 2),.mov (.cst (.c (.int .i64 1))),none,0⟩])
 .ret)
 .skip)))))
 (.seq (.region 0 [] [
 ⟨(some 4),.mov (.cst (.c (.int .i64 1))),none,0⟩])
 (.seq (.seq (.region 0 [] [
 ⟨(some 76),.load (some 9) (.tmp 1),none,0⟩,
 ⟨(some 77),.call 66 true [(.tmp 76)],none,0⟩,
 ⟨(some 78),.len (.tmp 77),none,0⟩,
 ⟨(some 79),.mov (.cst (.c (.int .i64 0))),none,0⟩])
 (.block 1 (.loop ⟨[6,80,81,82,83,84,85,86,87,88,89],true,[]⟩
 (.seq (.region 0 [] [
 ⟨(some 80),.bin .lss (.tmp 79) (.tmp 78),none,0⟩])
 (.seq (.cond (.tmp 80)
 .skip
 (.exit 1))
 (.seq (.block 2 (.seq (.region 1 [] [
 ⟨(some 81),.iaddr 2 (.tmp 77) (.tmp 79),none,0⟩,
 ⟨(some 82),.load (some 2) (.tmp 81),none,0⟩,
 ⟨(some 6),.alloc [(.int .i64 0),(.int .i64 0)],none,0⟩,
 ⟨none,.store (some 2) (.tmp 6) (.tmp 82),none,1⟩])
 (.region 1 [] [
 ⟨(some 83),.mov (.tmp 4),none,0⟩,
 ⟨(some 84),.load (some 2) (.tmp 6),none,0⟩,
 ⟨(some 85),.call 68 true [(.tmp 84)],none,0⟩,
 ⟨(some 86),.bin .mul (.tmp 83) (.tmp 85),none,0⟩,
 ⟨(some 87),.bslice 1 2 [(.int .i64 0)] [(0,(.tmp 86)),(1,(.cst (.c (.int .i64 2001))))],none,0⟩,
 ⟨(some 88),.call 67 true [(.tmp 87)],none,1⟩,
 ⟨(some 4),.mov (.tmp 88),none,1⟩])))
 (.region 0 [] [
 ⟨(some 89),.bin .add (.tmp 79) (.cst (.c (.int .i64 1))),none,0⟩,
 ⟨(some 79),.mov (.tmp 89),none,0⟩])))))))
 (.seq (.seq (.region 0 [] [
 ⟨(some 90),.mov (.tmp 4),none,0⟩,
 ⟨(some 91),.bin .gtr (.tmp 90) (.cst (.c (.int .i64 2000))),none,0⟩])
 (.cond (.tmp 91)
 (.seq (.region 0 [] [
 ⟨(some 2),.mov (.cst (.c (.int .i64 3))),none,0⟩])
 .ret)
 .skip))
 (.seq (.region 0 [] [
 ⟨(some 2),.mov (.cst (.c (.int .i64 0))),none,0⟩])
 .ret)))))))⟩
/-- 21 isatis/isatisref02.IsTruth | loop 0 vars [5] kill 17 makes false -/
def f21 : AFunc := ⟨26,[.tmp 4],false,
 (.seq (.region 2 [] [
 ⟨(some 2),.box (.tmp 0),none,0⟩,
 ⟨(some 3),.box (.tmp 1),none,1⟩,
 ⟨(some 4),.mov (.cst (.c (.bool false))),none,2⟩])
 (.seq (.seq (.region 0 [] [
 ⟨(some 6),.load (some 9) (.tmp 2),none,0⟩,
 ⟨(some 7),.load (some 2) (.tmp 3),none,0⟩,
 ⟨(some 8),.call 22 true [(.tmp 6),(.tmp 7)],none,0⟩,
 ⟨(some 9),.not (.tmp 8),none,0⟩])
 (.cond (.tmp 9)
 (.seq (.region 0 [] [
 ⟨(some 4),.mov (.cst (.c (.bool false))),none,0⟩])
 .ret)
 .skip))
 (.seq (.seq (.region 0 [] [
 ⟨(some 5),.mov (.cst (.c (.int .i64 0))),none,0⟩])
 (.block 0 (.loop ⟨[4,10,11,12,13,14,15,16,17,18,19,20,21,22,23,24,25],false,[]⟩
 (.seq (.seq (.region 0 [] [
 ⟨(some 10),.mov (.tmp 5),none,0⟩,
 ⟨(some 11),.faddr 8 (.tmp 2),none,0⟩,
 ⟨(some 12),.load none (.tmp 11),none,0⟩,
 ⟨(some 13),.len (.tmp 12),none,0⟩,
 ⟨(some 14),.bin .lss (.tmp 10) (.tmp 13),none,0⟩])
 (.cond (.tmp 14)
 .skip
 (.exit 0)))
 (.seq (.block 1 (.seq (.region 0 [(0,1),(0,2),(1,2),(0,3),(1,3),(0,4),(1,4),(2,4),(3,4),(0,5),(1,5),(0,6),(1,6)] [
 ⟨(some 17),.load (some 9) (.tmp 2),none,0⟩,
 ⟨(some 18),.load (some 2) (.tmp 3),none,0⟩,
 ⟨(some 19),.faddr 8 (.tmp 2),none,0⟩,
 ⟨(some 20),.load none (.tmp 19),none,0⟩,
 ⟨(some 21),.mov (.tmp 5),none,0⟩,
 ⟨(some 22),.iaddr 3 (.tmp 20) (.tmp 21),none,0⟩,
 ⟨(some 23),.load (some 3) (.tmp 22),none,0⟩,
 ⟨(some 24),.call 69 true [(.tmp 17),(.tmp 18),(.tmp 23)],none,0⟩,
 ⟨(some 25),.not (.tmp 24),none,0⟩])
 (.cond (.tmp 25)
 (.seq (.region 0 [] [
 ⟨(some 4),.mov (.cst (.c (.bool false))),none,0⟩])
 .ret)
 .skip)))
 (.region 0 [] [
 ⟨(some 15),.mov (.tmp 5),none,0⟩,
 ⟨(some 16),.bin .add (.tmp 15) (.cst (.c (.int .i64 1))),none,0⟩,
 ⟨(some 5),.mov (.tmp 16),none,0⟩]))))))
 (.seq (.region 0 [] [
 ⟨(some 4),.mov (.cst (.c (.bool true))),none,0⟩])
 .ret))))⟩
/-- 22 isatis/isatisref02.IsListed | loop 0 vars [5] kill 57 makes false -/
def f22 : AFunc := ⟨78,[.tmp 4],false,
 (.seq (.region 2 [] [
 ⟨(some 2),.box (.tmp 0),none,0⟩,
 ⟨(some 3),.box (.tmp 1),none,1⟩,
 ⟨(some 4),.mov (.cst (.c (.bool false))),none,2⟩])
 (.seq (.seq (.region 0 [] [
 ⟨(some 6),.faddr 0 (.tmp 3),none,0⟩,
 ⟨(some 7),.load none (.tmp 6),none,0⟩,
 ⟨(some 8),.len (.tmp 7),none,0⟩,
 ⟨(some 9),.faddr 1 (.tmp 2),none,0⟩,
 ⟨(some 10),.load none (.tmp 9),none,0⟩,
 ⟨(some 11),.len (.tmp 10),none,0⟩,
 ⟨(some 12),.bin .neq (.tmp 8) (.tmp 11),none,0⟩,
 ⟨(some 13),.mov (.tmp 12),none,0⟩,
 ⟨(some 14),.faddr 1 (.tmp 3),some (13,false),0⟩,
 ⟨(some 15),.load none (.tmp 14),some (13,false),0⟩,
 ⟨(some 16),.len (.tmp 15),some (13,false),0⟩,
 ⟨(some 17),.faddr 2 (.tmp 2),some (13,false),0⟩,
 ⟨(some 18),.load none (.tmp 17),some (13,false),0⟩,
 ⟨(some 19),.len (.tmp 18),some (13,false),0⟩,
 ⟨(some 20),.bin .neq (.tmp 16) (.tmp 19),some (13,false),0⟩,
 ⟨(some 21),.pick (.tmp 13) (.cst (.c (.bool true))) (.tmp 20),none,0⟩])
 (.cond (.tmp 21)
 (.seq (.region 0 [] [
 ⟨(some 4),.mov (.cst (.c (.bool false))),none,0⟩])
 .ret)
 .skip))
 (.seq (.seq (.region 0 [] [
 ⟨(some 5),.mov (.cst (.c (.int .i64 0))),none,0⟩])
 (.block 0 (.loop ⟨[4,22,23,24,25,26,27,28,29,30,31,32,33,34,35,36,37,38,39,40,41,42,43,44,45,46,47,48,49,50,51,52,53,54,55,56,57,58,59,60,61,62,63,64,65,66,67,68,69,70,71,72,73,74,75,76,77],false,[]⟩
 (.seq (.seq (.region 0 [] [
 ⟨(some 22),.mov (.tmp 5),none,0⟩,
 ⟨(some 23),.faddr 0 (.tmp 3),none,0⟩,
 ⟨(some 24),.load none (.tmp 23),none,0⟩,
 ⟨(some 25),.len (.tmp 24),none,0⟩,
 ⟨(some 26),.bin .lss (.tmp 22) (.tmp 25),none,0⟩])
 (.cond (.tmp 26)
 .skip
 (.exit 0)))
 (.seq (.block 1 (.seq (.region 0 [(0,2),(1,2),(0,5),(1,5),(2,5),(3,5),(4,5),(0,6),(1,6),(2,6),(3,6),(4,6),(0,7),(1,7),(2,7),(3,7),(4,7),(5,7),(6,7),(0,8),(1,8),(2,8),(3,8),(4,8),(0,9),(1,9),(2,9),(3,9),(4,9),(0,10),(1,10),(2,10),(3,10),(4,10),(0,11),(1,11),(2,11),(3,11),(4,11),(5,11),(6,11),(7,11),(8,11),(9,11),(10,11),(0,12),(1,12),(2,12),(3,12),(4,12),(5,12),(6,12),(7,12),(8,12),(9,12),(10,12),(0,13),(1,13),(2,13),(3,13),(4,13),(5,13),(6,13),(7,13),(8,13),(9,13),(10,13),(11,13),(12,13),(0,14),(1,14),(2,14),(3,14),(4,14),(5,14),(6,14),(7,14),(8,14),(9,14),(10,14),(0,15),(1,15),(2,15),(3,15),(4,15),(5,15),(6,15),(7,15),(8,15),(9,15),(10,15),(0,16),(1,16),(2,16),(3,16),(4,16),(5,16),(6,16),(7,16),(8,16),(9,16),(10,16),(20,22),(21,22),(29,31),(30,31),(36,38),(37,38),(36,41),(37,41),(38,41),(39,41),(40,41),(36,42),(37,42),(38,42),(39,42),(40,42),(36,43),(37,43),(38,43),(39,43),(40,43),(41,43),(42,43),(36,44),(37,44),(38,44),(39,44),(40,44),(36,45),(37,45),(38,45),(39,45),(40,45)] [
 ⟨(some 29),.faddr 0 (.tmp 3),none,0⟩,
 ⟨(some 30),.load none (.tmp 29),none,0⟩,
 ⟨(some 31),.mov (.tmp 5),none,0⟩,
 ⟨(some 32),.iaddr 1 (.tmp 30) (.tmp 31),none,0⟩,
 ⟨(some 33),.load none (.tmp 32),none,0⟩,
 ⟨(some 34),.faddr 1 (.tmp 2),none,0⟩,
 ⟨(some 35),.load none (.tmp 34),none,0⟩,
 ⟨(some 36),.mov (.tmp 5),none,0⟩,
 ⟨(some 37),.iaddr 2 (.tmp 35) (.tmp 36),none,0⟩,
 ⟨(some 38),.faddr 0 (.tmp 37),none,0⟩,
 ⟨(some 39),.load none (.tmp 38),none,0⟩,
 ⟨(some 40),.faddr 1 (.tmp 2),none,0⟩,
 ⟨(some 41),.load none (.tmp 40),none,0⟩,
 ⟨(some 42),.mov (.tmp 5),none,0⟩,
 ⟨(some 43),.iaddr 2 (.tmp 41) (.tmp 42),none,0⟩,
 ⟨(some 44),.faddr 1 (.tmp 43),none,0⟩,
 ⟨(some 45),.load none (.tmp 44),none,0⟩,
 ⟨(some 46),.call 35 true [(.tmp 33),(.tmp 39),(.tmp 45)],none,0⟩,
 ⟨(some 47),.not (.tmp 46),none,0⟩,
 ⟨(some 48),.mov (.tmp 47),none,0⟩,
 ⟨(some 49),.faddr 1 (.tmp 3),some (48,false),0⟩,
 ⟨(some 50),.load none (.tmp 49),some (48,false),0⟩,
 ⟨(some 51),.mov (.tmp 5),some (48,false),0⟩,
 ⟨(some 52),.iaddr 1 (.tmp 50) (.tmp 51),some (48,false),0⟩,
 ⟨(some 53),.load none (.tmp 52),some (48,false),0⟩,
 ⟨(some 54),.call 35 true [(.tmp 53),(.cst (.c (.int .i64 0))),(.cst (.c (.int .i64 1)))],some (48,false),0⟩,
 ⟨(some 55),.not (.tmp 54),some (48,false),0⟩,
 ⟨(some 56),.pick (.tmp 48) (.cst (.c (.bool true))) (.tmp 55),none,0⟩,
 ⟨(some 57),.mov (.tmp 56),none,0⟩,
 ⟨(some 58),.faddr 2 (.tmp 2),some (57,false),0⟩,
 ⟨(some 59),.load none (.tmp 58),some (57,false),0⟩,
 ⟨(some 60),.mov (.tmp 5),some (57,false),0⟩,
 ⟨(some 61),.iaddr 1 (.tmp 59) (.tmp 60),some (57,false),0⟩,
 ⟨(some 62),.load none (.tmp 61),some (57,false),0⟩,
 ⟨(some 63),.bin .neq (.tmp 62) (.cst (.c (.int .i64 2))),some (57,false),0⟩,
 ⟨(some 64),.mov (.tmp 63),some (57,false),0⟩,
 ⟨(some 65),.faddr 1 (.tmp 3),some (64,true),0⟩,
 ⟨(some 66),.load none (.tmp 65),some (64,true),0⟩,
 ⟨(some 67),.mov (.tmp 5),some (64,true),0⟩,
 ⟨(some 68),.iaddr 1 (.tmp 66) (.tmp 67),some (64,true),0⟩,
 ⟨(some 69),.load none (.tmp 68),some (64,true),0⟩,
 ⟨(some 70),.faddr 2 (.tmp 2),some (64,true),0⟩,
 ⟨(some 71),.load none (.tmp 70),some (64,true),0⟩,
 ⟨(some 72),.mov (.tmp 5),some (64,true),0⟩,
 ⟨(some 73),.iaddr 1 (.tmp 71) (.tmp 72),some (64,true),0⟩,
 ⟨(some 74),.load none (.tmp 73),some (64,true),0⟩,
 ⟨(some 75),.bin .neq (.tmp 69) (.tmp 74),some (64,true),0⟩,
 ⟨(some 76),.pick (.tmp 64) (.tmp 75) (.cst (.c (.bool false))),some (57,false),0⟩,
 ⟨(some 77),.pick (.tmp 57) (.cst (.c (.bool true))) (.tmp 76),none,0⟩])
 (.cond (.tmp 77)
 (.seq (.region 0 [] [
 ⟨(some 4),.mov (.cst (.c (.bool false))),none,0⟩])
 .ret)
 .skip)))
 (.region 0 [] [
 ⟨(some 27),.mov (.tmp 5),none,0⟩,
 ⟨(some 28),.bin .add (.tmp 27) (.cst (.c (.int .i64 1))),none,0⟩,
 ⟨(some 5),.mov (.tmp 28),none,0⟩]))))))
 (.seq (.region 0 [] [
 ⟨(some 4),.mov (.cst (.c (.bool true))),none,0⟩])
 .ret))))⟩
/-- 23 isatis/isatisref02.IsPlan | loop 0 vars [5] kill 31 makes false -/
def f23 : AFunc := ⟨42,[.tmp 4],false,
 (.seq (.region 1 [] [
 ⟨(some 2),.box (.tmp 0),none,0⟩,
 ⟨(some 4),.mov (.cst (.c (.bool false))),none,1⟩])
 (.seq (.seq (.region 0 [] [
 ⟨(some 5),.mov (.cst (.c (.int .i64 0))),none,0⟩])
 (.block 0 (.loop ⟨[4,6,7,8,9,10,11,12,13,14,15,16,17,18,19,20,21,22,23,24,25,26,27,28,29,30,31,32,33,34,35],false,[]⟩
 (.seq (.seq (.region 0 [] [
 ⟨(some 6),.mov (.tmp 5),none,0⟩,
 ⟨(some 7),.mov (.tmp 1),none,0⟩,
 ⟨(some 8),.len (.tmp 7),none,0⟩,
 ⟨(some 9),.bin .lss (.tmp 6) (.tmp 8),none,0⟩])
 (.cond (.tmp 9)
 .skip
 (.exit 0)))
 (.seq (.block 1 (.seq (.region 0 [(0,1),(0,4),(1,4),(2,4),(3,4),(0,5),(1,5),(2,5),(3,5),(12,13),(12,16),(13,16),(14,16),(15,16),(12,17),(13,17),(14,17),(15,17),(16,17),(12,18),(13,18),(14,18),(15,18),(16,18),(12,19),(13,19),(14,19),(15,19),(12,20),(13,20),(14,20),(15,20)] [
 ⟨(some 12),.mov (.tmp 1),none,0⟩,
 ⟨(some 13),.mov (.tmp 5),none,0⟩,
 ⟨(some 14),.iaddr 1 (.tmp 12) (.tmp 13),none,0⟩,
 ⟨(some 15),.load none (.tmp 14),none,0⟩,
 ⟨(some 16),.faddr 0 (.tmp 2),none,0⟩,
 ⟨(some 17),.load none (.tmp 16),none,0⟩,
 ⟨(some 18),.call 35 true [(.tmp 15),(.cst (.c (.int .i64 0))),(.tmp 17)],none,0⟩,
 ⟨(some 19),.not (.tmp 18),none,0⟩,
 ⟨(some 20),.mov (.tmp 19),none,0⟩,
 ⟨(some 21),.mov (.tmp 5),some (20,false),0⟩,
 ⟨(some 22),.bin .gtr (.tmp 21) (.cst (.c (.int .i64 0))),some (20,false),0⟩,
 ⟨(some 23),.mov (.tmp 22),some (20,false),0⟩,
 ⟨(some 24),.mov (.tmp 1),some (23,true),0⟩,
 ⟨(some 25),.mov (.tmp 5),some (23,true),0⟩,
 ⟨(some 26),.iaddr 1 (.tmp 24) (.tmp 25),some (23,true),0⟩,
 ⟨(some 27),.load none (.tmp 26),some (23,true),0⟩,
 ⟨(some 28),.mov (.tmp 1),some (23,true),0⟩,
 ⟨(some 29),.mov (.tmp 5),some (23,true),0⟩,
 ⟨(some 30),.bin .sub (.tmp 29) (.cst (.c (.int .i64 1))),some (23,true),0⟩,
 ⟨(some 31),.iaddr 1 (.tmp 28) (.tmp 30),some (23,true),0⟩,
 ⟨(some 32),.load none (.tmp 31),some (23,true),0⟩,
 ⟨(some 33),.bin .leq (.tmp 27) (.tmp 32),some (23,true),0⟩,
 ⟨(some 34),.pick (.tmp 23) (.tmp 33) (.cst (.c (.bool false))),some (20,false),0⟩,
 ⟨(some 35),.pick (.tmp 20) (.cst (.c (.bool true))) (.tmp 34),none,0⟩])
 (.cond (.tmp 35)
 (.seq (.region 0 [] [
 ⟨(some 4),.mov (.cst (.c (.bool false))),none,0⟩])
 .ret)
 .skip)))
 (.region 0 [] [
 ⟨(some 10),.mov (.tmp 5),none,0⟩,
 ⟨(some 11),.bin .add (.tmp 10) (.cst (.c (.int .i64 1))),none,0⟩,
 ⟨(some 5),.mov (.tmp 11),none,0⟩]))))))
 (.seq (.region 0 [] [
 ⟨(some 36),.mov (.tmp 1),none,0⟩,
 ⟨(some 37),.len (.tmp 36),none,0⟩,
 ⟨(some 38),.faddr 3 (.tmp 2),none,0⟩,
 ⟨(some 39),.load none (.tmp 38),none,0⟩,
 ⟨(some 40),.len (.tmp 39),none,0⟩,
 ⟨(some 41),.bin .leq (.tmp 37) (.tmp 40),none,0⟩,
 ⟨(some 4),.mov (.tmp 41),none,0⟩])
 .ret)))⟩
/-- 24 isatis/isatislaw02.same -/
def f24 : AFunc := ⟨24,[.tmp 4],false,
 (.seq (.region 2 [] [
 ⟨(some 2),.box (.tmp 0),none,0⟩,
 ⟨(some 3),.box (.tmp 1),none,1⟩,
 ⟨(some 4),.mov (.cst (.c (.bool false))),none,2⟩])
 (.seq (.region 0 [] [
 ⟨(some 5),.faddr 0 (.tmp 2),none,0⟩,
 ⟨(some 6),.load none (.tmp 5),none,0⟩,
 ⟨(some 7),.faddr 0 (.tmp 3),none,0⟩,
 ⟨(some 8),.load none (.tmp 7),none,0⟩,
 ⟨(some 9),.bin .eql (.tmp 6) (.tmp 8),none,0⟩,
 ⟨(some 10),.mov (.tmp 9),none,0⟩,
 ⟨(some 11),.faddr 1 (.tmp 2),some (10,true),0⟩,
 ⟨(some 12),.load none (.tmp 11),some (10,true),0⟩,
 ⟨(some 13),.faddr 1 (.tmp 3),some (10,true),0⟩,
 ⟨(some 14),.load none (.tmp 13),some (10,true),0⟩,
 ⟨(some 15),.bin .eql (.tmp 12) (.tmp 14),some (10,true),0⟩,
 ⟨(some 16),.pick (.tmp 10) (.tmp 15) (.cst (.c (.bool false))),none,0⟩,
 ⟨(some 17),.mov (.tmp 16),none,0⟩,
 ⟨(some 18),.faddr 2 (.tmp 2),some (17,true),0⟩,
 ⟨(some 19),.load none (.tmp 18),some (17,true),0⟩,
 ⟨(some 20),.faddr 2 (.tmp 3),some (17,true),0⟩,
 ⟨(some 21),.load none (.tmp 20),some (17,true),0⟩,
 ⟨(some 22),.bin .eql (.tmp 19) (.tmp 21),some (17,true),0⟩,
 ⟨(some 23),.pick (.tmp 17) (.tmp 22) (.cst (.c (.bool false))),none,0⟩,
 ⟨(some 4),.mov (.tmp 23),none,0⟩])
 .ret))⟩
end Am.Cr
