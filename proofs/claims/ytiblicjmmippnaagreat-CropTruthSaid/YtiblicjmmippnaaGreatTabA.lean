/-
  A part of the proof: the texts CrTabA of this seat, joined.
-/
import Derived.Test.YtiblicjmmippnaaGreatAmA
namespace Am.Cr
open Go Am
set_option maxRecDepth 100000
/-- 2 gosem.cut.init -/
def f2 : AFunc := ⟨1,[],false,
 (.region 0 [] [
 ⟨(some 0),.call 1 true [],none,0⟩])⟩
/-- 3 isatis/isatislaw02.CropBounds | loop 0 vars [11] kill 27 makes true -/
def f3 : AFunc := ⟨123,[.tmp 4],false,
 (.seq (.region 1 [] [
 ⟨(some 2),.box (.tmp 0),none,0⟩,
 ⟨(some 4),.mov (.cst (.c (.bool false))),none,1⟩])
 (.seq (.seq (.region 0 [] [
 ⟨(some 13),.load (some 9) (.tmp 2),none,0⟩,
 ⟨(some 14),.call 11 true [(.tmp 13)],none,0⟩,
 ⟨(some 15),.not (.tmp 14),none,0⟩,
 ⟨(some 16),.mov (.tmp 15),none,0⟩,
 ⟨(some 17),.mov (.tmp 1),some (16,false),0⟩,
 ⟨(some 18),.len (.tmp 17),some (16,false),0⟩,
 ⟨(some 19),.bin .gtr (.tmp 18) (.cst (.c (.int .i64 14))),some (16,false),0⟩,
 ⟨(some 20),.pick (.tmp 16) (.cst (.c (.bool true))) (.tmp 19),none,0⟩])
 (.cond (.tmp 20)
 (.seq (.region 0 [] [
 ⟨(some 21),.call 12 true [],none,0⟩,
 ⟨(some 4),.mov (.tmp 21),none,0⟩])
 .ret)
 .skip))
 (.seq (.region 0 [] [
 ⟨(some 23),.load (some 9) (.tmp 2),none,0⟩,
 ⟨(some 24),.call 14 true [(.tmp 23)],none,0⟩,
 ⟨(some 25),.mov (.tmp 1),none,0⟩,
 ⟨(some 26),.call 15 true [(.tmp 25)],none,0⟩,
 ⟨(some 27),.call 13 true [(.tmp 24),(.tmp 26)],none,0⟩,
 ⟨(some 22),.mov (.tmp 27),none,0⟩,
 ⟨(some 28),.extract 0 (.tmp 22),none,0⟩,
 ⟨(some 29),.extract 1 (.tmp 22),none,0⟩,
 ⟨(some 5),.mov (.tmp 28),none,0⟩,
 ⟨(some 6),.mov (.tmp 29),none,0⟩])
 (.seq (.region 1 [] [
 ⟨(some 31),.load (some 9) (.tmp 2),none,0⟩,
 ⟨(some 32),.call 14 true [(.tmp 31)],none,0⟩,
 ⟨(some 33),.mov (.tmp 1),none,0⟩,
 ⟨(some 34),.call 15 true [(.tmp 33)],none,0⟩,
 ⟨(some 35),.call 16 true [(.tmp 32),(.tmp 34)],none,0⟩,
 ⟨(some 30),.mov (.tmp 35),none,0⟩,
 ⟨(some 36),.extract 0 (.tmp 30),none,0⟩,
 ⟨(some 37),.extract 1 (.tmp 30),none,0⟩,
 ⟨(some 7),.alloc [(.int .i64 0),(.int .i64 0)],none,0⟩,
 ⟨none,.store (some 2) (.tmp 7) (.tmp 36),none,1⟩,
 ⟨(some 8),.mov (.tmp 37),none,1⟩])
 (.seq (.region 0 [] [
 ⟨(some 39),.load (some 9) (.tmp 2),none,0⟩,
 ⟨(some 40),.call 17 true [(.tmp 39)],none,0⟩,
 ⟨(some 38),.mov (.tmp 40),none,0⟩,
 ⟨(some 41),.extract 0 (.tmp 38),none,0⟩,
 ⟨(some 42),.extract 1 (.tmp 38),none,0⟩,
 ⟨(some 9),.mov (.tmp 41),none,0⟩,
 ⟨(some 10),.mov (.tmp 42),none,0⟩])
 (.seq (.seq (.region 0 [] [
 ⟨(some 43),.load (some 9) (.tmp 2),none,0⟩,
 ⟨(some 44),.call 18 true [(.tmp 43)],none,0⟩,
 ⟨(some 45),.bin .eql (.tmp 44) (.cst (.c (.int .i64 0))),none,0⟩,
 ⟨(some 46),.mov (.tmp 45),none,0⟩,
 ⟨(some 47),.load (some 9) (.tmp 2),some (46,true),0⟩,
 ⟨(some 48),.mov (.tmp 1),some (46,true),0⟩,
 ⟨(some 49),.call 19 true [(.tmp 47),(.tmp 48)],some (46,true),0⟩,
 ⟨(some 50),.not (.tmp 49),some (46,true),0⟩,
 ⟨(some 51),.pick (.tmp 46) (.tmp 50) (.cst (.c (.bool false))),none,0⟩])
 (.cond (.tmp 51)
 (.region 0 [] [
 ⟨(some 10),.mov (.cst (.c (.int .i64 2))),none,0⟩])
 .skip))
 (.seq (.seq (.region 0 [] [
 ⟨(some 52),.mov (.tmp 10),none,0⟩,
 ⟨(some 53),.bin .neq (.tmp 52) (.cst (.c (.int .i64 0))),none,0⟩])
 (.cond (.tmp 53)
 (.seq (.region 0 [] [
 ⟨(some 54),.mov (.tmp 6),none,0⟩,
 ⟨(some 55),.mov (.tmp 10),none,0⟩,
 ⟨(some 56),.bin .eql (.tmp 54) (.tmp 55),none,0⟩,
 ⟨(some 57),.mov (.tmp 56),none,0⟩,
 ⟨(some 58),.mov (.tmp 8),some (57,true),0⟩,
 ⟨(some 59),.mov (.tmp 10),some (57,true),0⟩,
 ⟨(some 60),.bin .eql (.tmp 58) (.tmp 59),some (57,true),0⟩,
 ⟨(some 61),.pick (.tmp 57) (.tmp 60) (.cst (.c (.bool false))),none,0⟩,
 ⟨(some 62),.mov (.tmp 61),none,0⟩,
 ⟨(some 63),.mov (.tmp 5),some (62,true),0⟩,
 ⟨(some 64),.len (.tmp 63),some (62,true),0⟩,
 ⟨(some 65),.bin .eql (.tmp 64) (.cst (.c (.int .i64 0))),some (62,true),0⟩,
 ⟨(some 66),.pick (.tmp 62) (.tmp 65) (.cst (.c (.bool false))),none,0⟩,
 ⟨(some 67),.mov (.tmp 66),none,0⟩,
 ⟨(some 68),.load (some 2) (.tmp 7),some (67,true),0⟩,
 ⟨(some 69),.build [(.int .i64 0),(.int .i64 0)] [],some (67,true),0⟩,
 ⟨(some 70),.eqA false [(some .i64),(some .i64)] (.tmp 68) (.tmp 69),some (67,true),0⟩,
 ⟨(some 71),.pick (.tmp 67) (.tmp 70) (.cst (.c (.bool false))),none,0⟩,
 ⟨(some 72),.mov (.tmp 71),none,0⟩,
 ⟨(some 73),.call 12 true [],some (72,true),0⟩,
 ⟨(some 74),.pick (.tmp 72) (.tmp 73) (.cst (.c (.bool false))),none,0⟩,
 ⟨(some 4),.mov (.tmp 74),none,0⟩])
 .ret)
 .skip))
 (.seq (.seq (.region 0 [(7,9),(8,9),(7,10),(8,10),(14,15),(14,16),(15,16),(14,17),(15,17),(16,17),(14,18),(14,19)] [
 ⟨(some 75),.mov (.tmp 6),none,0⟩,
 ⟨(some 76),.bin .neq (.tmp 75) (.cst (.c (.int .i64 0))),none,0⟩,
 ⟨(some 77),.mov (.tmp 76),none,0⟩,
 ⟨(some 78),.mov (.tmp 8),some (77,false),0⟩,
 ⟨(some 79),.bin .neq (.tmp 78) (.cst (.c (.int .i64 0))),some (77,false),0⟩,
 ⟨(some 80),.pick (.tmp 77) (.cst (.c (.bool true))) (.tmp 79),none,0⟩,
 ⟨(some 81),.mov (.tmp 80),none,0⟩,
 ⟨(some 82),.mov (.tmp 5),some (81,false),0⟩,
 ⟨(some 83),.len (.tmp 82),some (81,false),0⟩,
 ⟨(some 84),.mov (.tmp 1),some (81,false),0⟩,
 ⟨(some 85),.len (.tmp 84),some (81,false),0⟩,
 ⟨(some 86),.bin .neq (.tmp 83) (.tmp 85),some (81,false),0⟩,
 ⟨(some 87),.pick (.tmp 81) (.cst (.c (.bool true))) (.tmp 86),none,0⟩,
 ⟨(some 88),.mov (.tmp 87),none,0⟩,
 ⟨(some 89),.load (some 2) (.tmp 7),some (88,false),0⟩,
 ⟨(some 90),.load (some 9) (.tmp 2),some (88,false),0⟩,
 ⟨(some 91),.mov (.tmp 9),some (88,false),0⟩,
 ⟨(some 92),.mov (.tmp 1),some (88,false),0⟩,
 ⟨(some 93),.call 21 true [(.tmp 90),(.tmp 91),(.tmp 92)],some (88,false),0⟩,
 ⟨(some 94),.call 20 true [(.tmp 93)],some (88,false),0⟩,
 ⟨(some 95),.eqA true [(some .i64),(some .i64)] (.tmp 89) (.tmp 94),some (88,false),0⟩,
 ⟨(some 96),.pick (.tmp 88) (.cst (.c (.bool true))) (.tmp 95),none,0⟩])
 (.cond (.tmp 96)
 (.seq (.region 0 [] [
 ⟨(some 4),.mov (.cst (.c (.bool false))),none,0⟩])
 .ret)
 .skip))
 (.seq (.seq (.region 0 [] [
 ⟨(some 11),.mov (.cst (.c (.int .i64 0))),none,0⟩])
 (.block 0 (.loop ⟨[4,12,97,98,99,100,101,102,103,104,105,106,107,108,109,110,111,112,113,114,115,116,117,118,119,120,121],true,[]⟩
 (.seq (.seq (.region 0 [] [
 ⟨(some 97),.mov (.tmp 11),none,0⟩,
 ⟨(some 98),.mov (.tmp 5),none,0⟩,
 ⟨(some 99),.len (.tmp 98),none,0⟩,
 ⟨(some 100),.bin .lss (.tmp 97) (.tmp 99),none,0⟩])
 (.cond (.tmp 100)
 .skip
 (.exit 0)))
 (.seq (.block 1 (.seq (.region 1 [] [
 ⟨(some 103),.load (some 9) (.tmp 2),none,0⟩,
 ⟨(some 104),.mov (.tmp 9),none,0⟩,
 ⟨(some 105),.mov (.tmp 1),none,0⟩,
 ⟨(some 106),.mov (.tmp 11),none,0⟩,
 ⟨(some 107),.call 22 true [(.tmp 103),(.tmp 104),(.tmp 105),(.tmp 106)],none,0⟩,
 ⟨(some 12),.alloc [(.int .i64 0),(.int .i64 0),(.int .i64 0),(.int .i64 0),(.int .i64 0)],none,0⟩,
 ⟨none,.store (some 5) (.tmp 12) (.tmp 107),none,1⟩])
 (.seq (.region 0 [(0,1),(0,4),(1,4),(2,4),(3,4),(0,5),(1,5),(2,5),(3,5),(0,6),(1,6),(2,6),(3,6),(0,7),(1,7),(2,7),(3,7),(4,7),(5,7),(6,7),(0,8),(1,8),(2,8),(3,8),(4,8),(5,8),(6,8),(0,9),(1,9),(2,9),(3,9),(4,9),(5,9),(6,9),(7,9),(8,9),(0,10),(1,10),(2,10),(3,10),(4,10),(5,10),(6,10),(7,10),(8,10),(0,11),(1,11),(2,11),(3,11),(7,11),(8,11),(0,12),(1,12),(2,12),(3,12)] [
 ⟨(some 108),.mov (.tmp 5),none,0⟩,
 ⟨(some 109),.mov (.tmp 11),none,0⟩,
 ⟨(some 110),.iaddr 5 (.tmp 108) (.tmp 109),none,0⟩,
 ⟨(some 111),.load (some 5) (.tmp 110),none,0⟩,
 ⟨(some 112),.faddr 0 (.tmp 12),none,0⟩,
 ⟨(some 113),.load (some 2) (.tmp 112),none,0⟩,
 ⟨(some 114),.call 20 true [(.tmp 113)],none,0⟩,
 ⟨(some 115),.faddr 2 (.tmp 12),none,0⟩,
 ⟨(some 116),.load none (.tmp 115),none,0⟩,
 ⟨(some 117),.faddr 3 (.tmp 12),none,0⟩,
 ⟨(some 118),.load (some 2) (.tmp 117),none,0⟩,
 ⟨(some 119),.call 20 true [(.tmp 118)],none,0⟩,
 ⟨(some 120),.build [(.int .i64 0),(.int .i64 0),(.int .i64 0),(.int .i64 0),(.int .i64 0)] [(0,2,(.tmp 114)),(2,1,(.tmp 116)),(3,2,(.tmp 119))],none,0⟩,
 ⟨(some 121),.eqA true [(some .i64),(some .i64),(some .i64),(some .i64),(some .i64)] (.tmp 111) (.tmp 120),none,0⟩])
 (.cond (.tmp 121)
 (.seq (.region 0 [] [
 ⟨(some 4),.mov (.cst (.c (.bool false))),none,0⟩])
 .ret)
 .skip))))
 (.region 0 [] [
 ⟨(some 101),.mov (.tmp 11),none,0⟩,
 ⟨(some 102),.bin .add (.tmp 101) (.cst (.c (.int .i64 1))),none,0⟩,
 ⟨(some 11),.mov (.tmp 102),none,0⟩]))))))
 (.seq (.region 0 [] [
 ⟨(some 122),.call 12 true [],none,0⟩,
 ⟨(some 4),.mov (.tmp 122),none,0⟩])
 .ret))))))))))⟩
/-- 4 isatis/isatislaw02.CropStands -/
def f4 : AFunc := ⟨62,[.tmp 4],false,
 (.seq (.region 1 [] [
 ⟨(some 2),.box (.tmp 0),none,0⟩,
 ⟨(some 4),.mov (.cst (.c (.bool false))),none,1⟩])
 (.seq (.seq (.region 0 [] [
 ⟨(some 9),.load (some 9) (.tmp 2),none,0⟩,
 ⟨(some 10),.call 11 true [(.tmp 9)],none,0⟩,
 ⟨(some 11),.not (.tmp 10),none,0⟩])
 (.cond (.tmp 11)
 (.seq (.region 0 [] [
 ⟨(some 12),.call 12 true [],none,0⟩,
 ⟨(some 4),.mov (.tmp 12),none,0⟩])
 .ret)
 .skip))
 (.seq (.region 1 [] [
 ⟨(some 14),.load (some 9) (.tmp 2),none,0⟩,
 ⟨(some 15),.call 14 true [(.tmp 14)],none,0⟩,
 ⟨(some 16),.mov (.tmp 1),none,0⟩,
 ⟨(some 17),.call 23 true [(.tmp 15),(.tmp 16)],none,0⟩,
 ⟨(some 13),.mov (.tmp 17),none,0⟩,
 ⟨(some 18),.extract 0 (.tmp 13),none,0⟩,
 ⟨(some 19),.extract 1 (.tmp 13),none,0⟩,
 ⟨(some 5),.alloc [(.int .i64 0),(.int .i64 0)],none,0⟩,
 ⟨none,.store (some 2) (.tmp 5) (.tmp 18),none,1⟩,
 ⟨(some 6),.mov (.tmp 19),none,1⟩])
 (.seq (.region 0 [] [
 ⟨(some 21),.load (some 9) (.tmp 2),none,0⟩,
 ⟨(some 22),.call 17 true [(.tmp 21)],none,0⟩,
 ⟨(some 20),.mov (.tmp 22),none,0⟩,
 ⟨(some 23),.extract 0 (.tmp 20),none,0⟩,
 ⟨(some 24),.extract 1 (.tmp 20),none,0⟩,
 ⟨(some 7),.mov (.tmp 23),none,0⟩,
 ⟨(some 8),.mov (.tmp 24),none,0⟩])
 (.seq (.seq (.region 0 [] [
 ⟨(some 25),.load (some 9) (.tmp 2),none,0⟩,
 ⟨(some 26),.call 18 true [(.tmp 25)],none,0⟩,
 ⟨(some 27),.bin .eql (.tmp 26) (.cst (.c (.int .i64 0))),none,0⟩,
 ⟨(some 28),.mov (.tmp 27),none,0⟩,
 ⟨(some 29),.mov (.tmp 1),some (28,true),0⟩,
 ⟨(some 30),.faddr 0 (.tmp 2),some (28,true),0⟩,
 ⟨(some 31),.load none (.tmp 30),some (28,true),0⟩,
 ⟨(some 32),.call 24 true [(.tmp 29),(.cst (.c (.int .i64 0))),(.tmp 31)],some (28,true),0⟩,
 ⟨(some 33),.not (.tmp 32),some (28,true),0⟩,
 ⟨(some 34),.pick (.tmp 28) (.tmp 33) (.cst (.c (.bool false))),none,0⟩])
 (.cond (.tmp 34)
 (.region 0 [] [
 ⟨(some 8),.mov (.cst (.c (.int .i64 2))),none,0⟩])
 .skip))
 (.seq (.seq (.region 0 [] [
 ⟨(some 35),.mov (.tmp 8),none,0⟩,
 ⟨(some 36),.bin .neq (.tmp 35) (.cst (.c (.int .i64 0))),none,0⟩])
 (.cond (.tmp 36)
 (.seq (.region 0 [] [
 ⟨(some 37),.mov (.tmp 6),none,0⟩,
 ⟨(some 38),.mov (.tmp 8),none,0⟩,
 ⟨(some 39),.bin .eql (.tmp 37) (.tmp 38),none,0⟩,
 ⟨(some 40),.mov (.tmp 39),none,0⟩,
 ⟨(some 41),.load (some 2) (.tmp 5),some (40,true),0⟩,
 ⟨(some 42),.build [(.int .i64 0),(.int .i64 0)] [],some (40,true),0⟩,
 ⟨(some 43),.eqA false [(some .i64),(some .i64)] (.tmp 41) (.tmp 42),some (40,true),0⟩,
 ⟨(some 44),.pick (.tmp 40) (.tmp 43) (.cst (.c (.bool false))),none,0⟩,
 ⟨(some 45),.mov (.tmp 44),none,0⟩,
 ⟨(some 46),.call 12 true [],some (45,true),0⟩,
 ⟨(some 47),.pick (.tmp 45) (.tmp 46) (.cst (.c (.bool false))),none,0⟩,
 ⟨(some 4),.mov (.tmp 47),none,0⟩])
 .ret)
 .skip))
 (.seq (.region 0 [(3,4),(3,5),(4,5),(3,6),(4,6),(5,6),(3,7),(3,8)] [
 ⟨(some 48),.mov (.tmp 6),none,0⟩,
 ⟨(some 49),.bin .eql (.tmp 48) (.cst (.c (.int .i64 0))),none,0⟩,
 ⟨(some 50),.mov (.tmp 49),none,0⟩,
 ⟨(some 51),.load (some 2) (.tmp 5),some (50,true),0⟩,
 ⟨(some 52),.load (some 9) (.tmp 2),some (50,true),0⟩,
 ⟨(some 53),.mov (.tmp 7),some (50,true),0⟩,
 ⟨(some 54),.mov (.tmp 1),some (50,true),0⟩,
 ⟨(some 55),.call 25 true [(.tmp 52),(.tmp 53),(.tmp 54)],some (50,true),0⟩,
 ⟨(some 56),.call 20 true [(.tmp 55)],some (50,true),0⟩,
 ⟨(some 57),.eqA false [(some .i64),(some .i64)] (.tmp 51) (.tmp 56),some (50,true),0⟩,
 ⟨(some 58),.pick (.tmp 50) (.tmp 57) (.cst (.c (.bool false))),none,0⟩,
 ⟨(some 59),.mov (.tmp 58),none,0⟩,
 ⟨(some 60),.call 12 true [],some (59,true),0⟩,
 ⟨(some 61),.pick (.tmp 59) (.tmp 60) (.cst (.c (.bool false))),none,0⟩,
 ⟨(some 4),.mov (.tmp 61),none,0⟩])
 .ret)))))))⟩
/-- 5 isatis/isatislaw02.CropBest -/
def f5 : AFunc := ⟨64,[.tmp 2],false,
 (.seq (.region 1 [] [
 ⟨(some 1),.box (.tmp 0),none,0⟩,
 ⟨(some 2),.mov (.cst (.c (.bool false))),none,1⟩])
 (.seq (.seq (.region 0 [] [
 ⟨(some 10),.load (some 9) (.tmp 1),none,0⟩,
 ⟨(some 11),.call 11 true [(.tmp 10)],none,0⟩,
 ⟨(some 12),.not (.tmp 11),none,0⟩])
 (.cond (.tmp 12)
 (.seq (.region 0 [] [
 ⟨(some 13),.call 12 true [],none,0⟩,
 ⟨(some 2),.mov (.tmp 13),none,0⟩])
 .ret)
 .skip))
 (.seq (.region 0 [] [
 ⟨(some 15),.load (some 9) (.tmp 1),none,0⟩,
 ⟨(some 16),.call 14 true [(.tmp 15)],none,0⟩,
 ⟨(some 17),.call 26 true [(.tmp 16)],none,0⟩,
 ⟨(some 14),.mov (.tmp 17),none,0⟩,
 ⟨(some 18),.extract 0 (.tmp 14),none,0⟩,
 ⟨(some 19),.extract 1 (.tmp 14),none,0⟩,
 ⟨(some 20),.extract 2 (.tmp 14),none,0⟩,
 ⟨(some 3),.mov (.tmp 18),none,0⟩,
 ⟨(some 4),.mov (.tmp 19),none,0⟩,
 ⟨(some 5),.mov (.tmp 20),none,0⟩])
 (.seq (.region 0 [] [
 ⟨(some 22),.load (some 9) (.tmp 1),none,0⟩,
 ⟨(some 23),.call 17 true [(.tmp 22)],none,0⟩,
 ⟨(some 21),.mov (.tmp 23),none,0⟩,
 ⟨(some 24),.extract 0 (.tmp 21),none,0⟩,
 ⟨(some 25),.extract 1 (.tmp 21),none,0⟩,
 ⟨(some 6),.mov (.tmp 24),none,0⟩,
 ⟨(some 7),.mov (.tmp 25),none,0⟩])
 (.seq (.seq (.region 0 [] [
 ⟨(some 26),.mov (.tmp 7),none,0⟩,
 ⟨(some 27),.bin .neq (.tmp 26) (.cst (.c (.int .i64 0))),none,0⟩])
 (.cond (.tmp 27)
 (.seq (.region 0 [] [
 ⟨(some 28),.mov (.tmp 5),none,0⟩,
 ⟨(some 29),.mov (.tmp 7),none,0⟩,
 ⟨(some 30),.bin .eql (.tmp 28) (.tmp 29),none,0⟩,
 ⟨(some 31),.mov (.tmp 30),none,0⟩,
 ⟨(some 32),.mov (.tmp 4),some (31,true),0⟩,
 ⟨(some 33),.bin .eql (.tmp 32) (.cst (.c (.int .i64 0))),some (31,true),0⟩,
 ⟨(some 34),.pick (.tmp 31) (.tmp 33) (.cst (.c (.bool false))),none,0⟩,
 ⟨(some 35),.mov (.tmp 34),none,0⟩,
 ⟨(some 36),.mov (.tmp 3),some (35,true),0⟩,
 ⟨(some 37),.len (.tmp 36),some (35,true),0⟩,
 ⟨(some 38),.bin .eql (.tmp 37) (.cst (.c (.int .i64 0))),some (35,true),0⟩,
 ⟨(some 39),.pick (.tmp 35) (.tmp 38) (.cst (.c (.bool false))),none,0⟩,
 ⟨(some 40),.mov (.tmp 39),none,0⟩,
 ⟨(some 41),.call 12 true [],some (40,true),0⟩,
 ⟨(some 42),.pick (.tmp 40) (.tmp 41) (.cst (.c (.bool false))),none,0⟩,
 ⟨(some 2),.mov (.tmp 42),none,0⟩])
 .ret)
 .skip))
 (.seq (.region 0 [] [
 ⟨(some 44),.load (some 9) (.tmp 1),none,0⟩,
 ⟨(some 45),.mov (.tmp 6),none,0⟩,
 ⟨(some 46),.call 27 true [(.tmp 44),(.tmp 45)],none,0⟩,
 ⟨(some 43),.mov (.tmp 46),none,0⟩,
 ⟨(some 47),.extract 0 (.tmp 43),none,0⟩,
 ⟨(some 48),.extract 1 (.tmp 43),none,0⟩,
 ⟨(some 8),.mov (.tmp 47),none,0⟩,
 ⟨(some 9),.mov (.tmp 48),none,0⟩])
 (.seq (.region 0 [] [
 ⟨(some 49),.mov (.tmp 5),none,0⟩,
 ⟨(some 50),.bin .eql (.tmp 49) (.cst (.c (.int .i64 0))),none,0⟩,
 ⟨(some 51),.mov (.tmp 50),none,0⟩,
 ⟨(some 52),.mov (.tmp 4),some (51,true),0⟩,
 ⟨(some 53),.mov (.tmp 9),some (51,true),0⟩,
 ⟨(some 54),.bin .eql (.tmp 52) (.tmp 53),some (51,true),0⟩,
 ⟨(some 55),.pick (.tmp 51) (.tmp 54) (.cst (.c (.bool false))),none,0⟩,
 ⟨(some 56),.mov (.tmp 55),none,0⟩,
 ⟨(some 57),.mov (.tmp 3),some (56,true),0⟩,
 ⟨(some 58),.mov (.tmp 8),some (56,true),0⟩,
 ⟨(some 59),.call 28 true [(.tmp 57),(.tmp 58)],some (56,true),0⟩,
 ⟨(some 60),.pick (.tmp 56) (.tmp 59) (.cst (.c (.bool false))),none,0⟩,
 ⟨(some 61),.mov (.tmp 60),none,0⟩,
 ⟨(some 62),.call 12 true [],some (61,true),0⟩,
 ⟨(some 63),.pick (.tmp 61) (.tmp 62) (.cst (.c (.bool false))),none,0⟩,
 ⟨(some 2),.mov (.tmp 63),none,0⟩])
 .ret)))))))⟩
/-- 6 isatis/isatislaw02.CropLeaves -/
def f6 : AFunc := ⟨86,[.tmp 2],false,
 (.seq (.region 1 [] [
 ⟨(some 1),.box (.tmp 0),none,0⟩,
 ⟨(some 2),.mov (.cst (.c (.bool false))),none,1⟩])
 (.seq (.seq (.region 0 [] [
 ⟨(some 10),.load (some 9) (.tmp 1),none,0⟩,
 ⟨(some 11),.call 11 true [(.tmp 10)],none,0⟩,
 ⟨(some 12),.not (.tmp 11),none,0⟩])
 (.cond (.tmp 12)
 (.seq (.region 0 [] [
 ⟨(some 13),.call 12 true [],none,0⟩,
 ⟨(some 2),.mov (.tmp 13),none,0⟩])
 .ret)
 .skip))
 (.seq (.region 0 [] [
 ⟨(some 15),.load (some 9) (.tmp 1),none,0⟩,
 ⟨(some 16),.call 14 true [(.tmp 15)],none,0⟩,
 ⟨(some 17),.call 29 true [(.tmp 16)],none,0⟩,
 ⟨(some 14),.mov (.tmp 17),none,0⟩,
 ⟨(some 18),.extract 0 (.tmp 14),none,0⟩,
 ⟨(some 19),.extract 1 (.tmp 14),none,0⟩,
 ⟨(some 3),.mov (.tmp 18),none,0⟩,
 ⟨(some 4),.mov (.tmp 19),none,0⟩])
 (.seq (.region 0 [] [
 ⟨(some 21),.load (some 9) (.tmp 1),none,0⟩,
 ⟨(some 22),.call 14 true [(.tmp 21)],none,0⟩,
 ⟨(some 23),.call 30 true [(.tmp 22)],none,0⟩,
 ⟨(some 20),.mov (.tmp 23),none,0⟩,
 ⟨(some 24),.extract 0 (.tmp 20),none,0⟩,
 ⟨(some 25),.extract 1 (.tmp 20),none,0⟩,
 ⟨(some 5),.mov (.tmp 24),none,0⟩,
 ⟨(some 6),.mov (.tmp 25),none,0⟩])
 (.seq (.seq (.region 0 [] [
 ⟨(some 26),.load (some 9) (.tmp 1),none,0⟩,
 ⟨(some 27),.call 18 true [(.tmp 26)],none,0⟩,
 ⟨(some 7),.mov (.tmp 27),none,0⟩])
 (.seq (.region 0 [] [
 ⟨(some 28),.mov (.tmp 7),none,0⟩,
 ⟨(some 29),.bin .neq (.tmp 28) (.cst (.c (.int .i64 0))),none,0⟩])
 (.cond (.tmp 29)
 (.seq (.region 0 [] [
 ⟨(some 30),.mov (.tmp 4),none,0⟩,
 ⟨(some 31),.mov (.tmp 7),none,0⟩,
 ⟨(some 32),.bin .eql (.tmp 30) (.tmp 31),none,0⟩,
 ⟨(some 33),.mov (.tmp 32),none,0⟩,
 ⟨(some 34),.mov (.tmp 6),some (33,true),0⟩,
 ⟨(some 35),.mov (.tmp 7),some (33,true),0⟩,
 ⟨(some 36),.bin .eql (.tmp 34) (.tmp 35),some (33,true),0⟩,
 ⟨(some 37),.pick (.tmp 33) (.tmp 36) (.cst (.c (.bool false))),none,0⟩,
 ⟨(some 38),.mov (.tmp 37),none,0⟩,
 ⟨(some 39),.mov (.tmp 3),some (38,true),0⟩,
 ⟨(some 40),.bin .eql (.tmp 39) (.cst (.c (.int .i64 0))),some (38,true),0⟩,
 ⟨(some 41),.pick (.tmp 38) (.tmp 40) (.cst (.c (.bool false))),none,0⟩,
 ⟨(some 42),.mov (.tmp 41),none,0⟩,
 ⟨(some 43),.mov (.tmp 5),some (42,true),0⟩,
 ⟨(some 44),.len (.tmp 43),some (42,true),0⟩,
 ⟨(some 45),.bin .eql (.tmp 44) (.cst (.c (.int .i64 0))),some (42,true),0⟩,
 ⟨(some 46),.pick (.tmp 42) (.tmp 45) (.cst (.c (.bool false))),none,0⟩,
 ⟨(some 47),.mov (.tmp 46),none,0⟩,
 ⟨(some 48),.call 12 true [],some (47,true),0⟩,
 ⟨(some 49),.pick (.tmp 47) (.tmp 48) (.cst (.c (.bool false))),none,0⟩,
 ⟨(some 2),.mov (.tmp 49),none,0⟩])
 .ret)
 .skip)))
 (.seq (.region 0 [] [
 ⟨(some 50),.load (some 9) (.tmp 1),none,0⟩,
 ⟨(some 51),.call 31 true [(.tmp 50)],none,0⟩,
 ⟨(some 8),.mov (.tmp 51),none,0⟩])
 (.seq (.seq (.region 0 [] [
 ⟨(some 52),.mov (.tmp 6),none,0⟩,
 ⟨(some 53),.bin .neq (.tmp 52) (.cst (.c (.int .i64 0))),none,0⟩,
 ⟨(some 54),.mov (.tmp 53),none,0⟩,
 ⟨(some 55),.mov (.tmp 5),some (54,false),0⟩,
 ⟨(some 56),.load (some 9) (.tmp 1),some (54,false),0⟩,
 ⟨(some 57),.mov (.tmp 8),some (54,false),0⟩,
 ⟨(some 58),.call 32 true [(.tmp 56),(.tmp 57)],some (54,false),0⟩,
 ⟨(some 59),.call 28 true [(.tmp 55),(.tmp 58)],some (54,false),0⟩,
 ⟨(some 60),.not (.tmp 59),some (54,false),0⟩,
 ⟨(some 61),.pick (.tmp 54) (.cst (.c (.bool true))) (.tmp 60),none,0⟩])
 (.cond (.tmp 61)
 (.seq (.region 0 [] [
 ⟨(some 2),.mov (.cst (.c (.bool false))),none,0⟩])
 .ret)
 .skip))
 (.seq (.seq (.region 0 [] [
 ⟨(some 62),.load (some 9) (.tmp 1),none,0⟩,
 ⟨(some 63),.mov (.tmp 8),none,0⟩,
 ⟨(some 64),.call 33 true [(.tmp 62),(.tmp 63)],none,0⟩,
 ⟨(some 9),.mov (.tmp 64),none,0⟩])
 (.seq (.region 0 [] [
 ⟨(some 65),.mov (.tmp 9),none,0⟩,
 ⟨(some 66),.bin .geq (.tmp 65) (.cst (.c (.int .i64 0))),none,0⟩])
 (.cond (.tmp 66)
 (.seq (.region 0 [] [
 ⟨(some 67),.mov (.tmp 4),none,0⟩,
 ⟨(some 68),.bin .eql (.tmp 67) (.cst (.c (.int .i64 0))),none,0⟩,
 ⟨(some 69),.mov (.tmp 68),none,0⟩,
 ⟨(some 70),.mov (.tmp 3),some (69,true),0⟩,
 ⟨(some 71),.mov (.tmp 9),some (69,true),0⟩,
 ⟨(some 72),.bin .eql (.tmp 70) (.tmp 71),some (69,true),0⟩,
 ⟨(some 73),.pick (.tmp 69) (.tmp 72) (.cst (.c (.bool false))),none,0⟩,
 ⟨(some 74),.mov (.tmp 73),none,0⟩,
 ⟨(some 75),.call 12 true [],some (74,true),0⟩,
 ⟨(some 76),.pick (.tmp 74) (.tmp 75) (.cst (.c (.bool false))),none,0⟩,
 ⟨(some 2),.mov (.tmp 76),none,0⟩])
 .ret)
 .skip)))
 (.seq (.region 0 [] [
 ⟨(some 77),.mov (.tmp 4),none,0⟩,
 ⟨(some 78),.bin .eql (.tmp 77) (.cst (.c (.int .i64 7))),none,0⟩,
 ⟨(some 79),.mov (.tmp 78),none,0⟩,
 ⟨(some 80),.mov (.tmp 3),some (79,true),0⟩,
 ⟨(some 81),.bin .eql (.tmp 80) (.cst (.c (.int .i64 0))),some (79,true),0⟩,
 ⟨(some 82),.pick (.tmp 79) (.tmp 81) (.cst (.c (.bool false))),none,0⟩,
 ⟨(some 83),.mov (.tmp 82),none,0⟩,
 ⟨(some 84),.call 12 true [],some (83,true),0⟩,
 ⟨(some 85),.pick (.tmp 83) (.tmp 84) (.cst (.c (.bool false))),none,0⟩,
 ⟨(some 2),.mov (.tmp 85),none,0⟩])
 .ret)))))))))⟩
/-- 7 isatis/isatislaw02.CropEnds | loop 0 vars [11,12] kill 71 makes true | loop 2 vars [11,17] kill 12 makes false -/
def f7 : AFunc := ⟨140,[.tmp 4],false,
 (.seq (.region 1 [] [
 ⟨(some 2),.box (.tmp 0),none,0⟩,
 ⟨(some 4),.mov (.cst (.c (.bool false))),none,1⟩])
 (.seq (.seq (.region 0 [] [
 ⟨(some 18),.load (some 9) (.tmp 2),none,0⟩,
 ⟨(some 19),.call 34 true [(.tmp 18)],none,0⟩,
 ⟨(some 20),.not (.tmp 19),none,0⟩])
 (.cond (.tmp 20)
 (.seq (.region 0 [] [
 ⟨(some 21),.call 12 true [],none,0⟩,
 ⟨(some 4),.mov (.tmp 21),none,0⟩])
 .ret)
 .skip))
 (.seq (.region 0 [] [
 ⟨(some 22),.load (some 9) (.tmp 2),none,0⟩,
 ⟨(some 23),.mov (.tmp 1),none,0⟩,
 ⟨(some 24),.call 35 true [(.tmp 22),(.tmp 23)],none,0⟩,
 ⟨(some 5),.mov (.tmp 24),none,0⟩])
 (.seq (.region 0 [] [
 ⟨(some 26),.load (some 9) (.tmp 2),none,0⟩,
 ⟨(some 27),.call 14 true [(.tmp 26)],none,0⟩,
 ⟨(some 28),.mov (.tmp 5),none,0⟩,
 ⟨(some 29),.call 15 true [(.tmp 28)],none,0⟩,
 ⟨(some 30),.call 13 true [(.tmp 27),(.tmp 29)],none,0⟩,
 ⟨(some 25),.mov (.tmp 30),none,0⟩,
 ⟨(some 31),.extract 0 (.tmp 25),none,0⟩,
 ⟨(some 32),.extract 1 (.tmp 25),none,0⟩,
 ⟨(some 6),.mov (.tmp 31),none,0⟩,
 ⟨(some 7),.mov (.tmp 32),none,0⟩])
 (.seq (.region 1 [] [
 ⟨(some 34),.load (some 9) (.tmp 2),none,0⟩,
 ⟨(some 35),.call 14 true [(.tmp 34)],none,0⟩,
 ⟨(some 36),.mov (.tmp 5),none,0⟩,
 ⟨(some 37),.call 15 true [(.tmp 36)],none,0⟩,
 ⟨(some 38),.call 16 true [(.tmp 35),(.tmp 37)],none,0⟩,
 ⟨(some 33),.mov (.tmp 38),none,0⟩,
 ⟨(some 39),.extract 0 (.tmp 33),none,0⟩,
 ⟨(some 40),.extract 1 (.tmp 33),none,0⟩,
 ⟨(some 8),.alloc [(.int .i64 0),(.int .i64 0)],none,0⟩,
 ⟨none,.store (some 2) (.tmp 8) (.tmp 39),none,1⟩,
 ⟨(some 9),.mov (.tmp 40),none,1⟩])
 (.seq (.region 0 [] [
 ⟨(some 41),.load (some 9) (.tmp 2),none,0⟩,
 ⟨(some 42),.call 36 true [(.tmp 41)],none,0⟩,
 ⟨(some 10),.mov (.tmp 42),none,0⟩])
 (.seq (.seq (.region 0 [] [
 ⟨(some 43),.mov (.tmp 7),none,0⟩,
 ⟨(some 44),.bin .neq (.tmp 43) (.cst (.c (.int .i64 0))),none,0⟩])
 (.cond (.tmp 44)
 (.seq (.region 0 [] [
 ⟨(some 45),.mov (.tmp 7),none,0⟩,
 ⟨(some 46),.bin .eql (.tmp 45) (.cst (.c (.int .i64 11))),none,0⟩,
 ⟨(some 47),.mov (.tmp 46),none,0⟩,
 ⟨(some 48),.mov (.tmp 9),some (47,true),0⟩,
 ⟨(some 49),.mov (.tmp 7),some (47,true),0⟩,
 ⟨(some 50),.bin .eql (.tmp 48) (.tmp 49),some (47,true),0⟩,
 ⟨(some 51),.pick (.tmp 47) (.tmp 50) (.cst (.c (.bool false))),none,0⟩,
 ⟨(some 52),.mov (.tmp 51),none,0⟩,
 ⟨(some 53),.mov (.tmp 10),some (52,true),0⟩,
 ⟨(some 54),.len (.tmp 53),some (52,true),0⟩,
 ⟨(some 55),.bin .eql (.tmp 54) (.cst (.c (.int .i64 0))),some (52,true),0⟩,
 ⟨(some 56),.pick (.tmp 52) (.tmp 55) (.cst (.c (.bool false))),none,0⟩,
 ⟨(some 57),.mov (.tmp 56),none,0⟩,
 ⟨(some 58),.call 12 true [],some (57,true),0⟩,
 ⟨(some 59),.pick (.tmp 57) (.tmp 58) (.cst (.c (.bool false))),none,0⟩,
 ⟨(some 4),.mov (.tmp 59),none,0⟩])
 .ret)
 .skip))
 (.seq (.seq (.region 0 [] [
 ⟨(some 60),.mov (.tmp 9),none,0⟩,
 ⟨(some 61),.bin .neq (.tmp 60) (.cst (.c (.int .i64 0))),none,0⟩,
 ⟨(some 62),.mov (.tmp 61),none,0⟩,
 ⟨(some 63),.mov (.tmp 6),some (62,false),0⟩,
 ⟨(some 64),.len (.tmp 63),some (62,false),0⟩,
 ⟨(some 65),.mov (.tmp 5),some (62,false),0⟩,
 ⟨(some 66),.len (.tmp 65),some (62,false),0⟩,
 ⟨(some 67),.bin .neq (.tmp 64) (.tmp 66),some (62,false),0⟩,
 ⟨(some 68),.pick (.tmp 62) (.cst (.c (.bool true))) (.tmp 67),none,0⟩])
 (.cond (.tmp 68)
 (.seq (.region 0 [] [
 ⟨(some 4),.mov (.cst (.c (.bool false))),none,0⟩])
 .ret)
 .skip))
 (.seq (.region 0 [] [
 ⟨(some 11),.mov (.cst (.c (.int .i64 0))),none,0⟩])
 (.seq (.seq (.region 0 [] [
 ⟨(some 12),.mov (.cst (.c (.int .i64 0))),none,0⟩])
 (.block 0 (.loop ⟨[13,14,15,16,17,69,70,71,72,73,74,75,76,77,78,79,80,81,82,83,84,85,86,87,88,89,90,91,92,93,94,95,96,97,98,99,100,101,102,103,104,105,106,107,108,109,110,111,112,113,114,115,116,117,118,119,120,121,122,123,124,125,126,127,128,129,130,131,132,133,134],true,[]⟩
 (.seq (.seq (.region 0 [] [
 ⟨(some 69),.mov (.tmp 12),none,0⟩,
 ⟨(some 70),.mov (.tmp 10),none,0⟩,
 ⟨(some 71),.len (.tmp 70),none,0⟩,
 ⟨(some 72),.bin .lss (.tmp 69) (.tmp 71),none,0⟩])
 (.cond (.tmp 72)
 .skip
 (.exit 0)))
 (.seq (.block 1 (.seq (.region 0 [(0,1),(0,2),(1,2),(0,3),(0,4),(0,5),(1,5),(2,5),(3,5),(4,5)] [
 ⟨(some 75),.load (some 9) (.tmp 2),none,0⟩,
 ⟨(some 76),.mov (.tmp 10),none,0⟩,
 ⟨(some 77),.mov (.tmp 12),none,0⟩,
 ⟨(some 78),.iaddr 2 (.tmp 76) (.tmp 77),none,0⟩,
 ⟨(some 79),.load (some 2) (.tmp 78),none,0⟩,
 ⟨(some 80),.mov (.tmp 5),none,0⟩,
 ⟨(some 81),.call 37 true [(.tmp 75),(.tmp 79),(.tmp 80)],none,0⟩,
 ⟨(some 13),.mov (.tmp 81),none,0⟩])
 (.seq (.region 1 [] [
 ⟨(some 82),.mov (.tmp 13),none,0⟩,
 ⟨(some 83),.faddr 0 (.tmp 8),none,0⟩,
 ⟨(some 84),.load none (.tmp 83),none,0⟩,
 ⟨(some 85),.bin .eql (.tmp 82) (.tmp 84),none,0⟩,
 ⟨(some 86),.mov (.tmp 13),none,0⟩,
 ⟨(some 87),.faddr 1 (.tmp 8),none,0⟩,
 ⟨(some 88),.load none (.tmp 87),none,0⟩,
 ⟨(some 89),.bin .eql (.tmp 86) (.tmp 88),none,0⟩,
 ⟨(some 90),.build [(.bool false),(.bool false),(.bool false),(.bool false)] [(0,1,(.tmp 85)),(1,1,(.tmp 89)),(2,1,(.cst (.c (.bool true)))),(3,1,(.cst (.c (.bool true))))],none,0⟩,
 ⟨(some 14),.alloc [(.bool false),(.bool false),(.bool false),(.bool false)],none,0⟩,
 ⟨none,.store (some 4) (.tmp 14) (.tmp 90),none,1⟩])
 (.seq (.seq (.region 0 [] [
 ⟨(some 91),.mov (.tmp 5),none,0⟩,
 ⟨(some 92),.len (.tmp 91),none,0⟩,
 ⟨(some 93),.bin .sub (.tmp 92) (.cst (.c (.int .i64 1))),none,0⟩,
 ⟨(some 15),.mov (.tmp 93),none,0⟩])
 (.seq (.region 0 [] [
 ⟨(some 94),.mov (.tmp 15),none,0⟩,
 ⟨(some 95),.bin .geq (.tmp 94) (.cst (.c (.int .i64 0))),none,0⟩])
 (.cond (.tmp 95)
 (.seq (.region 0 [(0,1),(0,2),(1,2),(0,3),(0,4),(0,5),(1,5),(2,5),(3,5),(4,5),(0,6),(1,6),(2,6),(3,6),(4,6),(5,6)] [
 ⟨(some 96),.load (some 9) (.tmp 2),none,0⟩,
 ⟨(some 97),.mov (.tmp 10),none,0⟩,
 ⟨(some 98),.mov (.tmp 12),none,0⟩,
 ⟨(some 99),.iaddr 2 (.tmp 97) (.tmp 98),none,0⟩,
 ⟨(some 100),.load (some 2) (.tmp 99),none,0⟩,
 ⟨(some 101),.mov (.tmp 5),none,0⟩,
 ⟨(some 102),.mov (.tmp 15),none,0⟩,
 ⟨(some 103),.call 38 true [(.tmp 96),(.tmp 100),(.tmp 101),(.tmp 102)],none,0⟩,
 ⟨(some 104),.fld 0 none (.tmp 103),none,0⟩,
 ⟨(some 16),.mov (.tmp 104),none,0⟩])
 (.region 0 [(0,1),(0,2),(1,2),(0,3),(0,4),(0,5),(0,6),(0,8),(1,8),(2,8),(3,8),(4,8),(5,8),(6,8),(7,8),(0,9),(1,9),(2,9),(3,9),(4,9),(5,9),(6,9),(7,9),(8,9),(0,10),(1,10),(2,10),(3,10),(4,10),(5,10),(6,10),(7,10),(8,10),(9,10),(0,11),(1,11),(2,11),(3,11),(4,11),(5,11),(6,11),(7,11),(8,11),(0,12),(1,12),(2,12),(3,12),(4,12),(5,12),(6,12),(7,12),(8,12),(0,13),(1,13),(2,13),(3,13),(4,13),(5,13),(6,13),(7,13),(8,13),(0,14),(1,14),(2,14),(3,14),(4,14),(5,14),(6,14),(7,14),(8,14),(0,15),(1,15),(2,15),(3,15),(4,15),(5,15),(6,15),(7,15),(8,16),(9,16),(10,16),(11,16),(12,16),(13,16),(14,16),(15,16),(8,17),(9,17),(10,17),(11,17),(12,17),(13,17),(14,17),(15,17)] [
 ⟨(some 105),.mov (.tmp 16),none,0⟩,
 ⟨(some 106),.mov (.tmp 6),none,0⟩,
 ⟨(some 107),.mov (.tmp 15),none,0⟩,
 ⟨(some 108),.iaddr 5 (.tmp 106) (.tmp 107),none,0⟩,
 ⟨(some 109),.faddr 0 (.tmp 108),none,0⟩,
 ⟨(some 110),.faddr 0 (.tmp 109),none,0⟩,
 ⟨(some 111),.load none (.tmp 110),none,0⟩,
 ⟨(some 112),.bin .eql (.tmp 105) (.tmp 111),none,0⟩,
 ⟨(some 113),.mov (.tmp 16),none,0⟩,
 ⟨(some 114),.mov (.tmp 6),none,0⟩,
 ⟨(some 115),.mov (.tmp 15),none,0⟩,
 ⟨(some 116),.iaddr 5 (.tmp 114) (.tmp 115),none,0⟩,
 ⟨(some 117),.faddr 0 (.tmp 116),none,0⟩,
 ⟨(some 118),.faddr 1 (.tmp 117),none,0⟩,
 ⟨(some 119),.load none (.tmp 118),none,0⟩,
 ⟨(some 120),.bin .eql (.tmp 113) (.tmp 119),none,0⟩,
 ⟨(some 121),.iaddrA 4 1 (.tmp 14) (.cst (.c (.int .i64 2))),none,0⟩,
 ⟨none,.store none (.tmp 121) (.tmp 112),none,0⟩,
 ⟨(some 122),.iaddrA 4 1 (.tmp 14) (.cst (.c (.int .i64 3))),none,0⟩,
 ⟨none,.store none (.tmp 122) (.tmp 120),none,0⟩]))
 .skip)))
 (.seq (.region 0 [] [
 ⟨(some 17),.mov (.cst (.c (.int .i64 0))),none,0⟩])
 (.block 2 (.loop ⟨[123,124,125,126,127,128,129,130,131,132,133,134],false,[]⟩
 (.seq (.seq (.region 0 [] [
 ⟨(some 123),.mov (.tmp 17),none,0⟩,
 ⟨(some 124),.bin .lss (.tmp 123) (.cst (.c (.int .i64 4))),none,0⟩])
 (.cond (.tmp 124)
 .skip
 (.exit 2)))
 (.seq (.block 3 (.seq (.region 0 [] [
 ⟨(some 127),.mov (.tmp 17),none,0⟩,
 ⟨(some 128),.iaddrA 4 1 (.tmp 14) (.tmp 127),none,0⟩,
 ⟨(some 129),.load none (.tmp 128),none,0⟩])
 (.cond (.tmp 129)
 (.region 0 [] [
 ⟨(some 130),.mov (.tmp 11),none,0⟩,
 ⟨(some 131),.mov (.tmp 17),none,0⟩,
 ⟨(some 132),.conv .u64 (.tmp 131),none,0⟩,
 ⟨(some 133),.bin .shl (.cst (.c (.int .i64 1))) (.tmp 132),none,0⟩,
 ⟨(some 134),.bin .or (.tmp 130) (.tmp 133),none,0⟩,
 ⟨(some 11),.mov (.tmp 134),none,0⟩])
 .skip)))
 (.region 0 [] [
 ⟨(some 125),.mov (.tmp 17),none,0⟩,
 ⟨(some 126),.bin .add (.tmp 125) (.cst (.c (.int .i64 1))),none,0⟩,
 ⟨(some 17),.mov (.tmp 126),none,0⟩]))))))))))
 (.region 0 [] [
 ⟨(some 73),.mov (.tmp 12),none,0⟩,
 ⟨(some 74),.bin .add (.tmp 73) (.cst (.c (.int .i64 1))),none,0⟩,
 ⟨(some 12),.mov (.tmp 74),none,0⟩]))))))
 (.seq (.region 0 [] [
 ⟨(some 135),.mov (.tmp 11),none,0⟩,
 ⟨(some 136),.bin .eql (.tmp 135) (.cst (.c (.int .i64 15))),none,0⟩,
 ⟨(some 137),.mov (.tmp 136),none,0⟩,
 ⟨(some 138),.call 12 true [],some (137,true),0⟩,
 ⟨(some 139),.pick (.tmp 137) (.tmp 138) (.cst (.c (.bool false))),none,0⟩,
 ⟨(some 4),.mov (.tmp 139),none,0⟩])
 .ret)))))))))))⟩
/-- 8 isatis/isatislaw02.CropWorst -/
def f8 : AFunc := ⟨108,[.tmp 6],false,
 (.seq (.region 1 [] [
 ⟨(some 3),.box (.tmp 0),none,0⟩,
 ⟨(some 6),.mov (.cst (.c (.bool false))),none,1⟩])
 (.seq (.seq (.region 0 [] [
 ⟨(some 14),.load (some 9) (.tmp 3),none,0⟩,
 ⟨(some 15),.call 11 true [(.tmp 14)],none,0⟩,
 ⟨(some 16),.not (.tmp 15),none,0⟩,
 ⟨(some 17),.mov (.tmp 16),none,0⟩,
 ⟨(some 18),.mov (.tmp 1),some (17,false),0⟩,
 ⟨(some 19),.len (.tmp 18),some (17,false),0⟩,
 ⟨(some 20),.bin .gtr (.tmp 19) (.cst (.c (.int .i64 14))),some (17,false),0⟩,
 ⟨(some 21),.pick (.tmp 17) (.cst (.c (.bool true))) (.tmp 20),none,0⟩])
 (.cond (.tmp 21)
 (.seq (.region 0 [] [
 ⟨(some 22),.call 12 true [],none,0⟩,
 ⟨(some 6),.mov (.tmp 22),none,0⟩])
 .ret)
 .skip))
 (.seq (.region 1 [] [
 ⟨(some 24),.load (some 9) (.tmp 3),none,0⟩,
 ⟨(some 25),.call 14 true [(.tmp 24)],none,0⟩,
 ⟨(some 26),.mov (.tmp 1),none,0⟩,
 ⟨(some 27),.call 15 true [(.tmp 26)],none,0⟩,
 ⟨(some 28),.call 39 true [(.tmp 25),(.tmp 27)],none,0⟩,
 ⟨(some 23),.mov (.tmp 28),none,0⟩,
 ⟨(some 29),.extract 0 (.tmp 23),none,0⟩,
 ⟨(some 30),.extract 1 (.tmp 23),none,0⟩,
 ⟨(some 7),.alloc [.nils,.nils],none,0⟩,
 ⟨none,.store (some 2) (.tmp 7) (.tmp 29),none,1⟩,
 ⟨(some 8),.mov (.tmp 30),none,1⟩])
 (.seq (.region 0 [] [
 ⟨(some 31),.load (some 9) (.tmp 3),none,0⟩,
 ⟨(some 32),.call 14 true [(.tmp 31)],none,0⟩,
 ⟨(some 33),.mov (.tmp 1),none,0⟩,
 ⟨(some 34),.call 15 true [(.tmp 33)],none,0⟩,
 ⟨(some 35),.mov (.tmp 2),none,0⟩,
 ⟨(some 36),.call 40 true [(.tmp 32),(.tmp 34),(.tmp 35)],none,0⟩,
 ⟨(some 9),.mov (.tmp 36),none,0⟩])
 (.seq (.region 0 [] [
 ⟨(some 38),.load (some 9) (.tmp 3),none,0⟩,
 ⟨(some 39),.call 17 true [(.tmp 38)],none,0⟩,
 ⟨(some 37),.mov (.tmp 39),none,0⟩,
 ⟨(some 40),.extract 0 (.tmp 37),none,0⟩,
 ⟨(some 41),.extract 1 (.tmp 37),none,0⟩,
 ⟨(some 10),.mov (.tmp 40),none,0⟩,
 ⟨(some 11),.mov (.tmp 41),none,0⟩])
 (.seq (.seq (.region 0 [] [
 ⟨(some 42),.load (some 9) (.tmp 3),none,0⟩,
 ⟨(some 43),.call 18 true [(.tmp 42)],none,0⟩,
 ⟨(some 44),.bin .eql (.tmp 43) (.cst (.c (.int .i64 0))),none,0⟩,
 ⟨(some 45),.mov (.tmp 44),none,0⟩,
 ⟨(some 46),.load (some 9) (.tmp 3),some (45,true),0⟩,
 ⟨(some 47),.mov (.tmp 1),some (45,true),0⟩,
 ⟨(some 48),.call 19 true [(.tmp 46),(.tmp 47)],some (45,true),0⟩,
 ⟨(some 49),.not (.tmp 48),some (45,true),0⟩,
 ⟨(some 50),.pick (.tmp 45) (.tmp 49) (.cst (.c (.bool false))),none,0⟩])
 (.cond (.tmp 50)
 (.region 0 [] [
 ⟨(some 11),.mov (.cst (.c (.int .i64 2))),none,0⟩])
 .skip))
 (.seq (.seq (.region 0 [] [
 ⟨(some 51),.mov (.tmp 11),none,0⟩,
 ⟨(some 52),.bin .neq (.tmp 51) (.cst (.c (.int .i64 0))),none,0⟩])
 (.cond (.tmp 52)
 (.seq (.region 0 [] [
 ⟨(some 53),.mov (.tmp 8),none,0⟩,
 ⟨(some 54),.mov (.tmp 11),none,0⟩,
 ⟨(some 55),.bin .eql (.tmp 53) (.tmp 54),none,0⟩,
 ⟨(some 56),.mov (.tmp 55),none,0⟩,
 ⟨(some 57),.mov (.tmp 9),some (56,true),0⟩,
 ⟨(some 58),.not (.tmp 57),some (56,true),0⟩,
 ⟨(some 59),.pick (.tmp 56) (.tmp 58) (.cst (.c (.bool false))),none,0⟩,
 ⟨(some 60),.mov (.tmp 59),none,0⟩,
 ⟨(some 61),.faddr 0 (.tmp 7),some (60,true),0⟩,
 ⟨(some 62),.load none (.tmp 61),some (60,true),0⟩,
 ⟨(some 63),.len (.tmp 62),some (60,true),0⟩,
 ⟨(some 64),.faddr 1 (.tmp 7),some (60,true),0⟩,
 ⟨(some 65),.load none (.tmp 64),some (60,true),0⟩,
 ⟨(some 66),.len (.tmp 65),some (60,true),0⟩,
 ⟨(some 67),.bin .add (.tmp 63) (.tmp 66),some (60,true),0⟩,
 ⟨(some 68),.bin .eql (.tmp 67) (.cst (.c (.int .i64 0))),some (60,true),0⟩,
 ⟨(some 69),.pick (.tmp 60) (.tmp 68) (.cst (.c (.bool false))),none,0⟩,
 ⟨(some 70),.mov (.tmp 69),none,0⟩,
 ⟨(some 71),.call 12 true [],some (70,true),0⟩,
 ⟨(some 72),.pick (.tmp 70) (.tmp 71) (.cst (.c (.bool false))),none,0⟩,
 ⟨(some 6),.mov (.tmp 72),none,0⟩])
 .ret)
 .skip))
 (.seq (.region 1 [] [
 ⟨(some 73),.faddr 0 (.tmp 7),none,0⟩,
 ⟨(some 74),.load none (.tmp 73),none,0⟩,
 ⟨(some 75),.faddr 1 (.tmp 7),none,0⟩,
 ⟨(some 76),.load none (.tmp 75),none,0⟩,
 ⟨(some 77),.build [.nils,.nils] [(0,1,(.tmp 74)),(1,1,(.tmp 76))],none,0⟩,
 ⟨(some 12),.alloc [.nils,.nils],none,0⟩,
 ⟨none,.store (some 2) (.tmp 12) (.tmp 77),none,1⟩])
 (.seq (.region 0 [] [
 ⟨(some 78),.load (some 9) (.tmp 3),none,0⟩,
 ⟨(some 79),.mov (.tmp 10),none,0⟩,
 ⟨(some 80),.mov (.tmp 1),none,0⟩,
 ⟨(some 81),.call 21 true [(.tmp 78),(.tmp 79),(.tmp 80)],none,0⟩,
 ⟨(some 82),.fld 0 none (.tmp 81),none,0⟩,
 ⟨(some 13),.mov (.tmp 82),none,0⟩])
 (.seq (.region 0 [] [
 ⟨(some 83),.mov (.tmp 8),none,0⟩,
 ⟨(some 84),.bin .eql (.tmp 83) (.cst (.c (.int .i64 0))),none,0⟩,
 ⟨(some 85),.mov (.tmp 84),none,0⟩,
 ⟨(some 86),.mov (.tmp 9),some (85,true),0⟩,
 ⟨(some 87),.mov (.tmp 13),some (85,true),0⟩,
 ⟨(some 88),.mov (.tmp 2),some (85,true),0⟩,
 ⟨(some 89),.bin .geq (.tmp 87) (.tmp 88),some (85,true),0⟩,
 ⟨(some 90),.eqB false (.tmp 86) (.tmp 89),some (85,true),0⟩,
 ⟨(some 91),.pick (.tmp 85) (.tmp 90) (.cst (.c (.bool false))),none,0⟩,
 ⟨(some 92),.mov (.tmp 91),none,0⟩,
 ⟨(some 93),.load (some 9) (.tmp 3),some (92,true),0⟩,
 ⟨(some 94),.load (some 2) (.tmp 12),some (92,true),0⟩,
 ⟨(some 95),.call 41 true [(.tmp 93),(.tmp 94)],some (92,true),0⟩,
 ⟨(some 96),.pick (.tmp 92) (.tmp 95) (.cst (.c (.bool false))),none,0⟩,
 ⟨(some 97),.mov (.tmp 96),none,0⟩,
 ⟨(some 98),.load (some 9) (.tmp 3),some (97,true),0⟩,
 ⟨(some 99),.load (some 2) (.tmp 12),some (97,true),0⟩,
 ⟨(some 100),.mov (.tmp 1),some (97,true),0⟩,
 ⟨(some 101),.call 37 true [(.tmp 98),(.tmp 99),(.tmp 100)],some (97,true),0⟩,
 ⟨(some 102),.mov (.tmp 13),some (97,true),0⟩,
 ⟨(some 103),.bin .eql (.tmp 101) (.tmp 102),some (97,true),0⟩,
 ⟨(some 104),.pick (.tmp 97) (.tmp 103) (.cst (.c (.bool false))),none,0⟩,
 ⟨(some 105),.mov (.tmp 104),none,0⟩,
 ⟨(some 106),.call 12 true [],some (105,true),0⟩,
 ⟨(some 107),.pick (.tmp 105) (.tmp 106) (.cst (.c (.bool false))),none,0⟩,
 ⟨(some 6),.mov (.tmp 107),none,0⟩])
 .ret))))))))))⟩
/-- 9 isatis/isatislaw02.CropTruth | loop 0 vars [22,23] kill 72 makes false | loop 2 vars [24] kill 28 makes true -/
def f9 : AFunc := ⟨236,[.tmp 8],false,
 (.seq (.region 1 [] [
 ⟨(some 4),.box (.tmp 0),none,0⟩,
 ⟨(some 8),.mov (.cst (.c (.bool false))),none,1⟩])
 (.seq (.seq (.region 0 [] [
 ⟨(some 27),.load (some 9) (.tmp 4),none,0⟩,
 ⟨(some 28),.call 34 true [(.tmp 27)],none,0⟩,
 ⟨(some 29),.not (.tmp 28),none,0⟩])
 (.cond (.tmp 29)
 (.seq (.region 0 [] [
 ⟨(some 30),.call 12 true [],none,0⟩,
 ⟨(some 8),.mov (.tmp 30),none,0⟩])
 .ret)
 .skip))
 (.seq (.region 2 [] [
 ⟨(some 32),.load (some 9) (.tmp 4),none,0⟩,
 ⟨(some 33),.mov (.tmp 1),none,0⟩,
 ⟨(some 34),.mov (.tmp 2),none,0⟩,
 ⟨(some 35),.call 42 true [(.tmp 32),(.tmp 33),(.tmp 34)],none,0⟩,
 ⟨(some 31),.mov (.tmp 35),none,0⟩,
 ⟨(some 36),.extract 0 (.tmp 31),none,0⟩,
 ⟨(some 37),.extract 1 (.tmp 31),none,0⟩,
 ⟨(some 9),.alloc [(.int .i64 0),.nils,.nils,.nils,.nils,(.int .i64 0),(.int .i64 0),(.int .i64 0),.nils],none,0⟩,
 ⟨(some 10),.alloc [.nils,.nils],none,1⟩,
 ⟨none,.store (some 9) (.tmp 9) (.tmp 36),none,2⟩,
 ⟨none,.store (some 2) (.tmp 10) (.tmp 37),none,2⟩])
 (.seq (.region 0 [] [
 ⟨(some 38),.load (some 9) (.tmp 4),none,0⟩,
 ⟨(some 39),.mov (.tmp 3),none,0⟩,
 ⟨(some 40),.call 35 true [(.tmp 38),(.tmp 39)],none,0⟩,
 ⟨(some 11),.mov (.tmp 40),none,0⟩])
 (.seq (.region 0 [(0,2),(1,2),(0,4),(1,4),(2,4),(3,4),(8,9),(9,10)] [
 ⟨(some 42),.load (some 9) (.tmp 9),none,0⟩,
 ⟨(some 43),.call 14 true [(.tmp 42)],none,0⟩,
 ⟨(some 44),.load (some 2) (.tmp 10),none,0⟩,
 ⟨(some 45),.call 44 true [(.tmp 44)],none,0⟩,
 ⟨(some 46),.mov (.tmp 11),none,0⟩,
 ⟨(some 47),.call 15 true [(.tmp 46)],none,0⟩,
 ⟨(some 48),.call 43 true [(.tmp 43),(.tmp 45),(.tmp 47)],none,0⟩,
 ⟨(some 41),.mov (.tmp 48),none,0⟩,
 ⟨(some 49),.extract 0 (.tmp 41),none,0⟩,
 ⟨(some 50),.extract 1 (.tmp 41),none,0⟩,
 ⟨(some 12),.mov (.tmp 49),none,0⟩,
 ⟨(some 13),.mov (.tmp 50),none,0⟩])
 (.seq (.region 0 [] [
 ⟨(some 52),.load (some 9) (.tmp 9),none,0⟩,
 ⟨(some 53),.call 14 true [(.tmp 52)],none,0⟩,
 ⟨(some 54),.mov (.tmp 11),none,0⟩,
 ⟨(some 55),.call 15 true [(.tmp 54)],none,0⟩,
 ⟨(some 56),.call 13 true [(.tmp 53),(.tmp 55)],none,0⟩,
 ⟨(some 51),.mov (.tmp 56),none,0⟩,
 ⟨(some 57),.extract 0 (.tmp 51),none,0⟩,
 ⟨(some 58),.extract 1 (.tmp 51),none,0⟩,
 ⟨(some 14),.mov (.tmp 57),none,0⟩,
 ⟨(some 15),.mov (.tmp 58),none,0⟩])
 (.seq (.region 1 [] [
 ⟨(some 60),.load (some 9) (.tmp 9),none,0⟩,
 ⟨(some 61),.call 14 true [(.tmp 60)],none,0⟩,
 ⟨(some 62),.mov (.tmp 11),none,0⟩,
 ⟨(some 63),.call 15 true [(.tmp 62)],none,0⟩,
 ⟨(some 64),.call 16 true [(.tmp 61),(.tmp 63)],none,0⟩,
 ⟨(some 59),.mov (.tmp 64),none,0⟩,
 ⟨(some 65),.extract 0 (.tmp 59),none,0⟩,
 ⟨(some 66),.extract 1 (.tmp 59),none,0⟩,
 ⟨(some 16),.alloc [(.int .i64 0),(.int .i64 0)],none,0⟩,
 ⟨none,.store (some 2) (.tmp 16) (.tmp 65),none,1⟩,
 ⟨(some 17),.mov (.tmp 66),none,1⟩])
 (.seq (.region 0 [] [
 ⟨(some 68),.load (some 9) (.tmp 9),none,0⟩,
 ⟨(some 69),.call 14 true [(.tmp 68)],none,0⟩,
 ⟨(some 70),.call 30 true [(.tmp 69)],none,0⟩,
 ⟨(some 67),.mov (.tmp 70),none,0⟩,
 ⟨(some 71),.extract 0 (.tmp 67),none,0⟩,
 ⟨(some 72),.extract 1 (.tmp 67),none,0⟩,
 ⟨(some 18),.mov (.tmp 71),none,0⟩,
 ⟨(some 19),.mov (.tmp 72),none,0⟩])
 (.seq (.region 0 [] [
 ⟨(some 74),.load (some 9) (.tmp 9),none,0⟩,
 ⟨(some 75),.call 14 true [(.tmp 74)],none,0⟩,
 ⟨(some 76),.call 29 true [(.tmp 75)],none,0⟩,
 ⟨(some 73),.mov (.tmp 76),none,0⟩,
 ⟨(some 77),.extract 0 (.tmp 73),none,0⟩,
 ⟨(some 78),.extract 1 (.tmp 73),none,0⟩,
 ⟨(some 20),.mov (.tmp 77),none,0⟩,
 ⟨(some 21),.mov (.tmp 78),none,0⟩])
 (.seq (.seq (.region 0 [(24,26),(25,26),(24,27),(25,27),(31,33),(32,33),(31,34),(32,34),(38,40),(39,40),(46,48),(47,48),(46,50),(47,50),(48,50),(49,50),(46,51),(47,51),(48,51),(49,51)] [
 ⟨(some 79),.mov (.tmp 13),none,0⟩,
 ⟨(some 80),.bin .neq (.tmp 79) (.cst (.c (.int .i64 0))),none,0⟩,
 ⟨(some 81),.mov (.tmp 80),none,0⟩,
 ⟨(some 82),.mov (.tmp 15),some (81,false),0⟩,
 ⟨(some 83),.bin .neq (.tmp 82) (.cst (.c (.int .i64 0))),some (81,false),0⟩,
 ⟨(some 84),.pick (.tmp 81) (.cst (.c (.bool true))) (.tmp 83),none,0⟩,
 ⟨(some 85),.mov (.tmp 84),none,0⟩,
 ⟨(some 86),.mov (.tmp 17),some (85,false),0⟩,
 ⟨(some 87),.bin .neq (.tmp 86) (.cst (.c (.int .i64 0))),some (85,false),0⟩,
 ⟨(some 88),.pick (.tmp 85) (.cst (.c (.bool true))) (.tmp 87),none,0⟩,
 ⟨(some 89),.mov (.tmp 88),none,0⟩,
 ⟨(some 90),.mov (.tmp 19),some (89,false),0⟩,
 ⟨(some 91),.bin .neq (.tmp 90) (.cst (.c (.int .i64 0))),some (89,false),0⟩,
 ⟨(some 92),.pick (.tmp 89) (.cst (.c (.bool true))) (.tmp 91),none,0⟩,
 ⟨(some 93),.mov (.tmp 92),none,0⟩,
 ⟨(some 94),.mov (.tmp 18),some (93,false),0⟩,
 ⟨(some 95),.len (.tmp 94),some (93,false),0⟩,
 ⟨(some 96),.bin .neq (.tmp 95) (.cst (.c (.int .i64 0))),some (93,false),0⟩,
 ⟨(some 97),.pick (.tmp 93) (.cst (.c (.bool true))) (.tmp 96),none,0⟩,
 ⟨(some 98),.mov (.tmp 97),none,0⟩,
 ⟨(some 99),.mov (.tmp 21),some (98,false),0⟩,
 ⟨(some 100),.bin .neq (.tmp 99) (.cst (.c (.int .i64 7))),some (98,false),0⟩,
 ⟨(some 101),.pick (.tmp 98) (.cst (.c (.bool true))) (.tmp 100),none,0⟩,
 ⟨(some 102),.mov (.tmp 101),none,0⟩,
 ⟨(some 103),.mov (.tmp 12),some (102,false),0⟩,
 ⟨(some 104),.len (.tmp 103),some (102,false),0⟩,
 ⟨(some 105),.mov (.tmp 11),some (102,false),0⟩,
 ⟨(some 106),.len (.tmp 105),some (102,false),0⟩,
 ⟨(some 107),.bin .neq (.tmp 104) (.tmp 106),some (102,false),0⟩,
 ⟨(some 108),.pick (.tmp 102) (.cst (.c (.bool true))) (.tmp 107),none,0⟩,
 ⟨(some 109),.mov (.tmp 108),none,0⟩,
 ⟨(some 110),.mov (.tmp 14),some (109,false),0⟩,
 ⟨(some 111),.len (.tmp 110),some (109,false),0⟩,
 ⟨(some 112),.mov (.tmp 11),some (109,false),0⟩,
 ⟨(some 113),.len (.tmp 112),some (109,false),0⟩,
 ⟨(some 114),.bin .neq (.tmp 111) (.tmp 113),some (109,false),0⟩,
 ⟨(some 115),.pick (.tmp 109) (.cst (.c (.bool true))) (.tmp 114),none,0⟩,
 ⟨(some 116),.mov (.tmp 115),none,0⟩,
 ⟨(some 117),.load (some 9) (.tmp 9),some (116,false),0⟩,
 ⟨(some 118),.call 14 true [(.tmp 117)],some (116,false),0⟩,
 ⟨(some 119),.load (some 2) (.tmp 10),some (116,false),0⟩,
 ⟨(some 120),.call 44 true [(.tmp 119)],some (116,false),0⟩,
 ⟨(some 121),.call 45 true [(.tmp 118),(.tmp 120)],some (116,false),0⟩,
 ⟨(some 122),.not (.tmp 121),some (116,false),0⟩,
 ⟨(some 123),.pick (.tmp 116) (.cst (.c (.bool true))) (.tmp 122),none,0⟩,
 ⟨(some 124),.mov (.tmp 123),none,0⟩,
 ⟨(some 125),.load (some 9) (.tmp 9),some (124,false),0⟩,
 ⟨(some 126),.call 14 true [(.tmp 125)],some (124,false),0⟩,
 ⟨(some 127),.mov (.tmp 11),some (124,false),0⟩,
 ⟨(some 128),.call 15 true [(.tmp 127)],some (124,false),0⟩,
 ⟨(some 129),.faddr 0 (.tmp 16),some (124,false),0⟩,
 ⟨(some 130),.load none (.tmp 129),some (124,false),0⟩,
 ⟨(some 131),.call 40 true [(.tmp 126),(.tmp 128),(.tmp 130)],some (124,false),0⟩,
 ⟨(some 132),.not (.tmp 131),some (124,false),0⟩,
 ⟨(some 133),.pick (.tmp 124) (.cst (.c (.bool true))) (.tmp 132),none,0⟩])
 (.cond (.tmp 133)
 (.seq (.region 0 [] [
 ⟨(some 8),.mov (.cst (.c (.bool false))),none,0⟩])
 .ret)
 .skip))
 (.seq (.region 0 [] [
 ⟨(some 22),.mov (.cst (.c (.int .i64 0))),none,0⟩])
 (.seq (.seq (.region 0 [] [
 ⟨(some 23),.mov (.cst (.c (.int .i64 0))),none,0⟩])
 (.block 0 (.loop ⟨[8,134,135,136,137,138,139,140,141,142,143,144,145,146,147,148,149,150,151,152,153,154,155,156,157,158,159,160,161,162,163,164,165,166,167,168,169,170,171,172,173,174,175,176,177,178,179,180,181,182,183,184,185,186,187,188,189,190,191,192,193,194,195,196,197,198,199,200,201,202,203,204],false,[]⟩
 (.seq (.seq (.region 0 [] [
 ⟨(some 134),.mov (.tmp 23),none,0⟩,
 ⟨(some 135),.mov (.tmp 12),none,0⟩,
 ⟨(some 136),.len (.tmp 135),none,0⟩,
 ⟨(some 137),.bin .lss (.tmp 134) (.tmp 136),none,0⟩])
 (.cond (.tmp 137)
 .skip
 (.exit 0)))
 (.seq (.block 1 (.seq (.seq (.region 0 [(0,1),(0,5),(1,5),(2,5),(3,5),(4,5),(0,6),(1,6),(2,6),(3,6),(4,6),(5,6),(0,7),(1,7),(2,7),(3,7),(4,7),(0,8),(1,8),(2,8),(3,8),(4,8),(0,9),(1,9),(2,9),(3,9),(4,9),(13,14),(13,18),(14,18),(15,18),(16,18),(17,18),(13,19),(14,19),(15,19),(16,19),(17,19),(18,19),(13,20),(14,20),(15,20),(16,20),(17,20),(13,21),(14,21),(15,21),(16,21),(17,21),(13,22),(14,22),(15,22),(16,22),(17,22),(27,28),(27,32),(28,32),(29,32),(30,32),(31,32),(27,33),(28,33),(29,33),(30,33),(31,33),(32,33),(27,34),(28,34),(29,34),(30,34),(31,34),(27,35),(28,35),(29,35),(30,35),(31,35),(27,36),(28,36),(29,36),(30,36),(31,36),(40,41),(40,45),(41,45),(42,45),(43,45),(44,45),(40,46),(41,46),(42,46),(43,46),(44,46),(45,46),(40,47),(41,47),(42,47),(43,47),(44,47),(40,48),(41,48),(42,48),(43,48),(44,48),(40,49),(41,49),(42,49),(43,49),(44,49),(40,50),(41,50),(42,50),(43,50),(44,50),(45,50),(46,50),(47,50),(48,50),(49,50),(40,51),(41,51),(42,51),(43,51),(44,51),(45,51),(46,51),(47,51),(48,51),(49,51),(50,51),(40,52),(41,52),(42,52),(43,52),(44,52),(45,52),(46,52),(47,52),(48,52),(49,52),(40,53),(41,53),(42,53),(43,53),(44,53),(45,53),(46,53),(47,53),(48,53),(49,53),(40,54),(41,54),(42,54),(43,54),(44,54),(45,54),(46,54),(47,54),(48,54),(49,54),(40,55),(41,55),(42,55),(43,55),(44,55)] [
 ⟨(some 140),.mov (.tmp 12),none,0⟩,
 ⟨(some 141),.mov (.tmp 23),none,0⟩,
 ⟨(some 142),.iaddr 3 (.tmp 140) (.tmp 141),none,0⟩,
 ⟨(some 143),.faddr 0 (.tmp 142),none,0⟩,
 ⟨(some 144),.load none (.tmp 143),none,0⟩,
 ⟨(some 145),.mov (.tmp 14),none,0⟩,
 ⟨(some 146),.mov (.tmp 23),none,0⟩,
 ⟨(some 147),.iaddr 5 (.tmp 145) (.tmp 146),none,0⟩,
 ⟨(some 148),.faddr 0 (.tmp 147),none,0⟩,
 ⟨(some 149),.load (some 2) (.tmp 148),none,0⟩,
 ⟨(some 150),.call 46 true [(.tmp 144),(.tmp 149)],none,0⟩,
 ⟨(some 151),.not (.tmp 150),none,0⟩,
 ⟨(some 152),.mov (.tmp 151),none,0⟩,
 ⟨(some 153),.mov (.tmp 12),some (152,false),0⟩,
 ⟨(some 154),.mov (.tmp 23),some (152,false),0⟩,
 ⟨(some 155),.iaddr 3 (.tmp 153) (.tmp 154),some (152,false),0⟩,
 ⟨(some 156),.faddr 2 (.tmp 155),some (152,false),0⟩,
 ⟨(some 157),.load none (.tmp 156),some (152,false),0⟩,
 ⟨(some 158),.mov (.tmp 14),some (152,false),0⟩,
 ⟨(some 159),.mov (.tmp 23),some (152,false),0⟩,
 ⟨(some 160),.iaddr 5 (.tmp 158) (.tmp 159),some (152,false),0⟩,
 ⟨(some 161),.faddr 3 (.tmp 160),some (152,false),0⟩,
 ⟨(some 162),.load (some 2) (.tmp 161),some (152,false),0⟩,
 ⟨(some 163),.call 46 true [(.tmp 157),(.tmp 162)],some (152,false),0⟩,
 ⟨(some 164),.not (.tmp 163),some (152,false),0⟩,
 ⟨(some 165),.pick (.tmp 152) (.cst (.c (.bool true))) (.tmp 164),none,0⟩,
 ⟨(some 166),.mov (.tmp 165),none,0⟩,
 ⟨(some 167),.mov (.tmp 12),some (166,false),0⟩,
 ⟨(some 168),.mov (.tmp 23),some (166,false),0⟩,
 ⟨(some 169),.iaddr 3 (.tmp 167) (.tmp 168),some (166,false),0⟩,
 ⟨(some 170),.faddr 1 (.tmp 169),some (166,false),0⟩,
 ⟨(some 171),.load none (.tmp 170),some (166,false),0⟩,
 ⟨(some 172),.mov (.tmp 14),some (166,false),0⟩,
 ⟨(some 173),.mov (.tmp 23),some (166,false),0⟩,
 ⟨(some 174),.iaddr 5 (.tmp 172) (.tmp 173),some (166,false),0⟩,
 ⟨(some 175),.faddr 2 (.tmp 174),some (166,false),0⟩,
 ⟨(some 176),.load none (.tmp 175),some (166,false),0⟩,
 ⟨(some 177),.bin .neq (.tmp 171) (.tmp 176),some (166,false),0⟩,
 ⟨(some 178),.pick (.tmp 166) (.cst (.c (.bool true))) (.tmp 177),none,0⟩,
 ⟨(some 179),.mov (.tmp 178),none,0⟩,
 ⟨(some 180),.mov (.tmp 12),some (179,false),0⟩,
 ⟨(some 181),.mov (.tmp 23),some (179,false),0⟩,
 ⟨(some 182),.iaddr 3 (.tmp 180) (.tmp 181),some (179,false),0⟩,
 ⟨(some 183),.faddr 2 (.tmp 182),some (179,false),0⟩,
 ⟨(some 184),.load none (.tmp 183),some (179,false),0⟩,
 ⟨(some 185),.mov (.tmp 12),some (179,false),0⟩,
 ⟨(some 186),.mov (.tmp 23),some (179,false),0⟩,
 ⟨(some 187),.iaddr 3 (.tmp 185) (.tmp 186),some (179,false),0⟩,
 ⟨(some 188),.faddr 0 (.tmp 187),some (179,false),0⟩,
 ⟨(some 189),.load none (.tmp 188),some (179,false),0⟩,
 ⟨(some 190),.mov (.tmp 12),some (179,false),0⟩,
 ⟨(some 191),.mov (.tmp 23),some (179,false),0⟩,
 ⟨(some 192),.iaddr 3 (.tmp 190) (.tmp 191),some (179,false),0⟩,
 ⟨(some 193),.faddr 1 (.tmp 192),some (179,false),0⟩,
 ⟨(some 194),.load none (.tmp 193),some (179,false),0⟩,
 ⟨(some 195),.bin .mul (.tmp 189) (.tmp 194),some (179,false),0⟩,
 ⟨(some 196),.bin .neq (.tmp 184) (.tmp 195),some (179,false),0⟩,
 ⟨(some 197),.pick (.tmp 179) (.cst (.c (.bool true))) (.tmp 196),none,0⟩])
 (.cond (.tmp 197)
 (.seq (.region 0 [] [
 ⟨(some 8),.mov (.cst (.c (.bool false))),none,0⟩])
 .ret)
 .skip))
 (.region 0 [] [
 ⟨(some 198),.mov (.tmp 22),none,0⟩,
 ⟨(some 199),.mov (.tmp 12),none,0⟩,
 ⟨(some 200),.mov (.tmp 23),none,0⟩,
 ⟨(some 201),.iaddr 3 (.tmp 199) (.tmp 200),none,0⟩,
 ⟨(some 202),.faddr 2 (.tmp 201),none,0⟩,
 ⟨(some 203),.load none (.tmp 202),none,0⟩,
 ⟨(some 204),.bin .add (.tmp 198) (.tmp 203),none,0⟩,
 ⟨(some 22),.mov (.tmp 204),none,0⟩])))
 (.region 0 [] [
 ⟨(some 138),.mov (.tmp 23),none,0⟩,
 ⟨(some 139),.bin .add (.tmp 138) (.cst (.c (.int .i64 1))),none,0⟩,
 ⟨(some 23),.mov (.tmp 139),none,0⟩]))))))
 (.seq (.seq (.region 0 [] [
 ⟨(some 24),.mov (.cst (.c (.int .i64 0))),none,0⟩])
 (.block 2 (.loop ⟨[8,25,26,205,206,207,208,209,210,211,212,213,214,215,216,217,218,219,220,221,222,223,224,225,226,227,228,229],true,[]⟩
 (.seq (.seq (.region 0 [] [
 ⟨(some 205),.mov (.tmp 24),none,0⟩,
 ⟨(some 206),.faddr 0 (.tmp 4),none,0⟩,
 ⟨(some 207),.load none (.tmp 206),none,0⟩,
 ⟨(some 208),.bin .leq (.tmp 205) (.tmp 207),none,0⟩])
 (.cond (.tmp 208)
 .skip
 (.exit 2)))
 (.seq (.block 3 (.seq (.region 1 [] [
 ⟨(some 212),.load (some 9) (.tmp 9),none,0⟩,
 ⟨(some 213),.call 14 true [(.tmp 212)],none,0⟩,
 ⟨(some 214),.mov (.tmp 24),none,0⟩,
 ⟨(some 215),.call 23 true [(.tmp 213),(.tmp 214)],none,0⟩,
 ⟨(some 211),.mov (.tmp 215),none,0⟩,
 ⟨(some 216),.extract 0 (.tmp 211),none,0⟩,
 ⟨(some 217),.extract 1 (.tmp 211),none,0⟩,
 ⟨(some 25),.alloc [(.int .i64 0),(.int .i64 0)],none,0⟩,
 ⟨none,.store (some 2) (.tmp 25) (.tmp 216),none,1⟩,
 ⟨(some 26),.mov (.tmp 217),none,1⟩])
 (.seq (.region 0 [(3,4),(3,5),(3,6),(4,6),(5,6),(3,8),(4,8),(5,8),(6,8),(7,8)] [
 ⟨(some 218),.mov (.tmp 26),none,0⟩,
 ⟨(some 219),.bin .neq (.tmp 218) (.cst (.c (.int .i64 0))),none,0⟩,
 ⟨(some 220),.mov (.tmp 219),none,0⟩,
 ⟨(some 221),.load (some 2) (.tmp 10),some (220,false),0⟩,
 ⟨(some 222),.faddr 4 (.tmp 4),some (220,false),0⟩,
 ⟨(some 223),.load none (.tmp 222),some (220,false),0⟩,
 ⟨(some 224),.mov (.tmp 24),some (220,false),0⟩,
 ⟨(some 225),.call 47 true [(.tmp 221),(.tmp 223),(.tmp 224)],some (220,false),0⟩,
 ⟨(some 226),.load (some 2) (.tmp 25),some (220,false),0⟩,
 ⟨(some 227),.call 46 true [(.tmp 225),(.tmp 226)],some (220,false),0⟩,
 ⟨(some 228),.not (.tmp 227),some (220,false),0⟩,
 ⟨(some 229),.pick (.tmp 220) (.cst (.c (.bool true))) (.tmp 228),none,0⟩])
 (.cond (.tmp 229)
 (.seq (.region 0 [] [
 ⟨(some 8),.mov (.cst (.c (.bool false))),none,0⟩])
 .ret)
 .skip))))
 (.region 0 [] [
 ⟨(some 209),.mov (.tmp 24),none,0⟩,
 ⟨(some 210),.bin .add (.tmp 209) (.cst (.c (.int .i64 1))),none,0⟩,
 ⟨(some 24),.mov (.tmp 210),none,0⟩]))))))
 (.seq (.region 0 [] [
 ⟨(some 230),.mov (.tmp 22),none,0⟩,
 ⟨(some 231),.load (some 2) (.tmp 16),none,0⟩,
 ⟨(some 232),.call 46 true [(.tmp 230),(.tmp 231)],none,0⟩,
 ⟨(some 233),.mov (.tmp 232),none,0⟩,
 ⟨(some 234),.call 12 true [],some (233,true),0⟩,
 ⟨(some 235),.pick (.tmp 233) (.tmp 234) (.cst (.c (.bool false))),none,0⟩,
 ⟨(some 8),.mov (.tmp 235),none,0⟩])
 .ret))))))))))))))⟩
/-- 10 isatis/isatislaw02.CropGreatest | loop 0 vars [18,19] kill 13 makes false -/
def f10 : AFunc := ⟨169,[.tmp 6],false,
 (.seq (.region 1 [] [
 ⟨(some 3),.box (.tmp 0),none,0⟩,
 ⟨(some 6),.mov (.cst (.c (.bool false))),none,1⟩])
 (.seq (.seq (.region 0 [] [
 ⟨(some 20),.load (some 9) (.tmp 3),none,0⟩,
 ⟨(some 21),.call 34 true [(.tmp 20)],none,0⟩,
 ⟨(some 22),.not (.tmp 21),none,0⟩])
 (.cond (.tmp 22)
 (.seq (.region 0 [] [
 ⟨(some 23),.call 12 true [],none,0⟩,
 ⟨(some 6),.mov (.tmp 23),none,0⟩])
 .ret)
 .skip))
 (.seq (.region 0 [] [
 ⟨(some 25),.load (some 9) (.tmp 3),none,0⟩,
 ⟨(some 26),.call 14 true [(.tmp 25)],none,0⟩,
 ⟨(some 27),.call 26 true [(.tmp 26)],none,0⟩,
 ⟨(some 24),.mov (.tmp 27),none,0⟩,
 ⟨(some 28),.extract 0 (.tmp 24),none,0⟩,
 ⟨(some 29),.extract 1 (.tmp 24),none,0⟩,
 ⟨(some 30),.extract 2 (.tmp 24),none,0⟩,
 ⟨(some 7),.mov (.tmp 28),none,0⟩,
 ⟨(some 8),.mov (.tmp 29),none,0⟩,
 ⟨(some 9),.mov (.tmp 30),none,0⟩])
 (.seq (.region 0 [] [
 ⟨(some 31),.load (some 9) (.tmp 3),none,0⟩,
 ⟨(some 32),.call 36 true [(.tmp 31)],none,0⟩,
 ⟨(some 10),.mov (.tmp 32),none,0⟩])
 (.seq (.seq (.region 0 [] [
 ⟨(some 33),.mov (.tmp 10),none,0⟩,
 ⟨(some 34),.len (.tmp 33),none,0⟩,
 ⟨(some 35),.bin .eql (.tmp 34) (.cst (.c (.int .i64 0))),none,0⟩])
 (.cond (.tmp 35)
 (.seq (.region 0 [] [
 ⟨(some 36),.mov (.tmp 9),none,0⟩,
 ⟨(some 37),.bin .eql (.tmp 36) (.cst (.c (.int .i64 11))),none,0⟩,
 ⟨(some 38),.mov (.tmp 37),none,0⟩,
 ⟨(some 39),.call 12 true [],some (38,true),0⟩,
 ⟨(some 40),.pick (.tmp 38) (.tmp 39) (.cst (.c (.bool false))),none,0⟩,
 ⟨(some 6),.mov (.tmp 40),none,0⟩])
 .ret)
 .skip))
 (.seq (.seq (.region 0 [(3,4),(9,10),(9,11),(10,11),(9,12),(10,12),(9,13),(10,13),(11,13),(12,13),(9,14),(10,14),(11,14),(12,14),(9,15),(10,15),(9,16),(9,17),(9,18),(10,18),(11,18),(12,18),(13,18),(14,18),(15,18),(16,18),(17,18),(9,20),(10,20),(11,20),(12,20),(13,20),(14,20),(15,20),(16,20),(17,20),(18,20),(19,20),(24,26),(25,26),(24,28),(25,28),(26,28),(27,28),(33,35),(34,35),(33,37),(34,37),(35,37),(36,37),(33,38),(34,38),(35,38),(36,38)] [
 ⟨(some 41),.mov (.tmp 9),none,0⟩,
 ⟨(some 42),.bin .neq (.tmp 41) (.cst (.c (.int .i64 0))),none,0⟩,
 ⟨(some 43),.mov (.tmp 42),none,0⟩,
 ⟨(some 44),.load (some 9) (.tmp 3),some (43,false),0⟩,
 ⟨(some 45),.mov (.tmp 7),some (43,false),0⟩,
 ⟨(some 46),.call 19 true [(.tmp 44),(.tmp 45)],some (43,false),0⟩,
 ⟨(some 47),.not (.tmp 46),some (43,false),0⟩,
 ⟨(some 48),.pick (.tmp 43) (.cst (.c (.bool true))) (.tmp 47),none,0⟩,
 ⟨(some 49),.mov (.tmp 48),none,0⟩,
 ⟨(some 50),.load (some 9) (.tmp 3),some (49,false),0⟩,
 ⟨(some 51),.mov (.tmp 10),some (49,false),0⟩,
 ⟨(some 52),.mov (.tmp 1),some (49,false),0⟩,
 ⟨(some 53),.conv .i64 (.tmp 52),some (49,false),0⟩,
 ⟨(some 54),.mov (.tmp 10),some (49,false),0⟩,
 ⟨(some 55),.len (.tmp 54),some (49,false),0⟩,
 ⟨(some 56),.bin .rem (.tmp 53) (.tmp 55),some (49,false),0⟩,
 ⟨(some 57),.iaddr 2 (.tmp 51) (.tmp 56),some (49,false),0⟩,
 ⟨(some 58),.load (some 2) (.tmp 57),some (49,false),0⟩,
 ⟨(some 59),.mov (.tmp 7),some (49,false),0⟩,
 ⟨(some 60),.call 37 true [(.tmp 50),(.tmp 58),(.tmp 59)],some (49,false),0⟩,
 ⟨(some 61),.mov (.tmp 8),some (49,false),0⟩,
 ⟨(some 62),.bin .lss (.tmp 60) (.tmp 61),some (49,false),0⟩,
 ⟨(some 63),.pick (.tmp 49) (.cst (.c (.bool true))) (.tmp 62),none,0⟩,
 ⟨(some 64),.mov (.tmp 63),none,0⟩,
 ⟨(some 65),.load (some 9) (.tmp 3),some (64,false),0⟩,
 ⟨(some 66),.call 14 true [(.tmp 65)],some (64,false),0⟩,
 ⟨(some 67),.mov (.tmp 7),some (64,false),0⟩,
 ⟨(some 68),.call 15 true [(.tmp 67)],some (64,false),0⟩,
 ⟨(some 69),.mov (.tmp 8),some (64,false),0⟩,
 ⟨(some 70),.call 40 true [(.tmp 66),(.tmp 68),(.tmp 69)],some (64,false),0⟩,
 ⟨(some 71),.not (.tmp 70),some (64,false),0⟩,
 ⟨(some 72),.pick (.tmp 64) (.cst (.c (.bool true))) (.tmp 71),none,0⟩,
 ⟨(some 73),.mov (.tmp 72),none,0⟩,
 ⟨(some 74),.load (some 9) (.tmp 3),some (73,false),0⟩,
 ⟨(some 75),.call 14 true [(.tmp 74)],some (73,false),0⟩,
 ⟨(some 76),.mov (.tmp 7),some (73,false),0⟩,
 ⟨(some 77),.call 15 true [(.tmp 76)],some (73,false),0⟩,
 ⟨(some 78),.mov (.tmp 8),some (73,false),0⟩,
 ⟨(some 79),.bin .add (.tmp 78) (.cst (.c (.int .i64 1))),some (73,false),0⟩,
 ⟨(some 80),.call 40 true [(.tmp 75),(.tmp 77),(.tmp 79)],some (73,false),0⟩,
 ⟨(some 81),.pick (.tmp 73) (.cst (.c (.bool true))) (.tmp 80),none,0⟩])
 (.cond (.tmp 81)
 (.seq (.region 0 [] [
 ⟨(some 6),.mov (.cst (.c (.bool false))),none,0⟩])
 .ret)
 .skip))
 (.seq (.region 0 [] [
 ⟨(some 82),.load (some 9) (.tmp 3),none,0⟩,
 ⟨(some 83),.mov (.tmp 2),none,0⟩,
 ⟨(some 84),.call 35 true [(.tmp 82),(.tmp 83)],none,0⟩,
 ⟨(some 11),.mov (.tmp 84),none,0⟩])
 (.seq (.region 1 [] [
 ⟨(some 86),.load (some 9) (.tmp 3),none,0⟩,
 ⟨(some 87),.call 14 true [(.tmp 86)],none,0⟩,
 ⟨(some 88),.mov (.tmp 11),none,0⟩,
 ⟨(some 89),.call 15 true [(.tmp 88)],none,0⟩,
 ⟨(some 90),.call 16 true [(.tmp 87),(.tmp 89)],none,0⟩,
 ⟨(some 85),.mov (.tmp 90),none,0⟩,
 ⟨(some 91),.extract 0 (.tmp 85),none,0⟩,
 ⟨(some 92),.extract 1 (.tmp 85),none,0⟩,
 ⟨(some 12),.alloc [(.int .i64 0),(.int .i64 0)],none,0⟩,
 ⟨none,.store (some 2) (.tmp 12) (.tmp 91),none,1⟩,
 ⟨(some 13),.mov (.tmp 92),none,1⟩])
 (.seq (.region 1 [] [
 ⟨(some 94),.load (some 9) (.tmp 3),none,0⟩,
 ⟨(some 95),.call 14 true [(.tmp 94)],none,0⟩,
 ⟨(some 96),.mov (.tmp 11),none,0⟩,
 ⟨(some 97),.call 15 true [(.tmp 96)],none,0⟩,
 ⟨(some 98),.call 39 true [(.tmp 95),(.tmp 97)],none,0⟩,
 ⟨(some 93),.mov (.tmp 98),none,0⟩,
 ⟨(some 99),.extract 0 (.tmp 93),none,0⟩,
 ⟨(some 100),.extract 1 (.tmp 93),none,0⟩,
 ⟨(some 14),.alloc [.nils,.nils],none,0⟩,
 ⟨none,.store (some 2) (.tmp 14) (.tmp 99),none,1⟩,
 ⟨(some 15),.mov (.tmp 100),none,1⟩])
 (.seq (.seq (.region 0 [(7,9),(8,9),(13,15),(14,15),(18,19),(24,26),(25,26)] [
 ⟨(some 101),.mov (.tmp 13),none,0⟩,
 ⟨(some 102),.bin .neq (.tmp 101) (.cst (.c (.int .i64 0))),none,0⟩,
 ⟨(some 103),.mov (.tmp 102),none,0⟩,
 ⟨(some 104),.mov (.tmp 15),some (103,false),0⟩,
 ⟨(some 105),.bin .neq (.tmp 104) (.cst (.c (.int .i64 0))),some (103,false),0⟩,
 ⟨(some 106),.pick (.tmp 103) (.cst (.c (.bool true))) (.tmp 105),none,0⟩,
 ⟨(some 107),.mov (.tmp 106),none,0⟩,
 ⟨(some 108),.faddr 0 (.tmp 12),some (107,false),0⟩,
 ⟨(some 109),.load none (.tmp 108),some (107,false),0⟩,
 ⟨(some 110),.mov (.tmp 8),some (107,false),0⟩,
 ⟨(some 111),.bin .gtr (.tmp 109) (.tmp 110),some (107,false),0⟩,
 ⟨(some 112),.pick (.tmp 107) (.cst (.c (.bool true))) (.tmp 111),none,0⟩,
 ⟨(some 113),.mov (.tmp 112),none,0⟩,
 ⟨(some 114),.faddr 0 (.tmp 12),some (113,false),0⟩,
 ⟨(some 115),.load none (.tmp 114),some (113,false),0⟩,
 ⟨(some 116),.mov (.tmp 8),some (113,false),0⟩,
 ⟨(some 117),.bin .eql (.tmp 115) (.tmp 116),some (113,false),0⟩,
 ⟨(some 118),.mov (.tmp 117),some (113,false),0⟩,
 ⟨(some 119),.mov (.tmp 11),some (118,true),0⟩,
 ⟨(some 120),.mov (.tmp 7),some (118,true),0⟩,
 ⟨(some 121),.call 48 true [(.tmp 119),(.tmp 120)],some (118,true),0⟩,
 ⟨(some 122),.pick (.tmp 118) (.tmp 121) (.cst (.c (.bool false))),some (113,false),0⟩,
 ⟨(some 123),.pick (.tmp 113) (.cst (.c (.bool true))) (.tmp 122),none,0⟩,
 ⟨(some 124),.mov (.tmp 123),none,0⟩,
 ⟨(some 125),.load (some 9) (.tmp 3),some (124,false),0⟩,
 ⟨(some 126),.call 14 true [(.tmp 125)],some (124,false),0⟩,
 ⟨(some 127),.load (some 2) (.tmp 14),some (124,false),0⟩,
 ⟨(some 128),.call 45 true [(.tmp 126),(.tmp 127)],some (124,false),0⟩,
 ⟨(some 129),.not (.tmp 128),some (124,false),0⟩,
 ⟨(some 130),.pick (.tmp 124) (.cst (.c (.bool true))) (.tmp 129),none,0⟩])
 (.cond (.tmp 130)
 (.seq (.region 0 [] [
 ⟨(some 6),.mov (.cst (.c (.bool false))),none,0⟩])
 .ret)
 .skip))
 (.seq (.region 0 [(0,2),(1,2),(0,3),(1,3),(2,3),(2,4),(7,8),(8,9)] [
 ⟨(some 132),.load (some 9) (.tmp 3),none,0⟩,
 ⟨(some 133),.call 14 true [(.tmp 132)],none,0⟩,
 ⟨(some 134),.load (some 2) (.tmp 14),none,0⟩,
 ⟨(some 135),.mov (.tmp 11),none,0⟩,
 ⟨(some 136),.call 15 true [(.tmp 135)],none,0⟩,
 ⟨(some 137),.call 43 true [(.tmp 133),(.tmp 134),(.tmp 136)],none,0⟩,
 ⟨(some 131),.mov (.tmp 137),none,0⟩,
 ⟨(some 138),.extract 0 (.tmp 131),none,0⟩,
 ⟨(some 139),.extract 1 (.tmp 131),none,0⟩,
 ⟨(some 16),.mov (.tmp 138),none,0⟩,
 ⟨(some 17),.mov (.tmp 139),none,0⟩])
 (.seq (.seq (.region 0 [] [
 ⟨(some 140),.mov (.tmp 17),none,0⟩,
 ⟨(some 141),.bin .neq (.tmp 140) (.cst (.c (.int .i64 0))),none,0⟩,
 ⟨(some 142),.mov (.tmp 141),none,0⟩,
 ⟨(some 143),.mov (.tmp 16),some (142,false),0⟩,
 ⟨(some 144),.len (.tmp 143),some (142,false),0⟩,
 ⟨(some 145),.mov (.tmp 11),some (142,false),0⟩,
 ⟨(some 146),.len (.tmp 145),some (142,false),0⟩,
 ⟨(some 147),.bin .neq (.tmp 144) (.tmp 146),some (142,false),0⟩,
 ⟨(some 148),.pick (.tmp 142) (.cst (.c (.bool true))) (.tmp 147),none,0⟩])
 (.cond (.tmp 148)
 (.seq (.region 0 [] [
 ⟨(some 6),.mov (.cst (.c (.bool false))),none,0⟩])
 .ret)
 .skip))
 (.seq (.region 0 [] [
 ⟨(some 18),.mov (.cst (.c (.int .i64 0))),none,0⟩])
 (.seq (.seq (.region 0 [] [
 ⟨(some 19),.mov (.cst (.c (.int .i64 0))),none,0⟩])
 (.block 0 (.loop ⟨[149,150,151,152,153,154,155,156,157,158,159,160,161],false,[]⟩
 (.seq (.seq (.region 0 [] [
 ⟨(some 149),.mov (.tmp 19),none,0⟩,
 ⟨(some 150),.mov (.tmp 16),none,0⟩,
 ⟨(some 151),.len (.tmp 150),none,0⟩,
 ⟨(some 152),.bin .lss (.tmp 149) (.tmp 151),none,0⟩])
 (.cond (.tmp 152)
 .skip
 (.exit 0)))
 (.seq (.block 1 (.region 0 [] [
 ⟨(some 155),.mov (.tmp 18),none,0⟩,
 ⟨(some 156),.mov (.tmp 16),none,0⟩,
 ⟨(some 157),.mov (.tmp 19),none,0⟩,
 ⟨(some 158),.iaddr 3 (.tmp 156) (.tmp 157),none,0⟩,
 ⟨(some 159),.faddr 2 (.tmp 158),none,0⟩,
 ⟨(some 160),.load none (.tmp 159),none,0⟩,
 ⟨(some 161),.bin .add (.tmp 155) (.tmp 160),none,0⟩,
 ⟨(some 18),.mov (.tmp 161),none,0⟩]))
 (.region 0 [] [
 ⟨(some 153),.mov (.tmp 19),none,0⟩,
 ⟨(some 154),.bin .add (.tmp 153) (.cst (.c (.int .i64 1))),none,0⟩,
 ⟨(some 19),.mov (.tmp 154),none,0⟩]))))))
 (.seq (.region 0 [] [
 ⟨(some 162),.mov (.tmp 18),none,0⟩,
 ⟨(some 163),.faddr 0 (.tmp 12),none,0⟩,
 ⟨(some 164),.load none (.tmp 163),none,0⟩,
 ⟨(some 165),.bin .eql (.tmp 162) (.tmp 164),none,0⟩,
 ⟨(some 166),.mov (.tmp 165),none,0⟩,
 ⟨(some 167),.call 12 true [],some (166,true),0⟩,
 ⟨(some 168),.pick (.tmp 166) (.tmp 167) (.cst (.c (.bool false))),none,0⟩,
 ⟨(some 6),.mov (.tmp 168),none,0⟩])
 .ret)))))))))))))))⟩
/-- 11 isatis/isatislaw02.Thin -/
def f11 : AFunc := ⟨41,[.tmp 2],false,
 (.seq (.region 1 [] [
 ⟨(some 1),.box (.tmp 0),none,0⟩,
 ⟨(some 2),.mov (.cst (.c (.bool false))),none,1⟩])
 (.seq (.region 0 [] [
 ⟨(some 3),.faddr 1 (.tmp 1),none,0⟩,
 ⟨(some 4),.load none (.tmp 3),none,0⟩,
 ⟨(some 5),.len (.tmp 4),none,0⟩,
 ⟨(some 6),.bin .leq (.tmp 5) (.cst (.c (.int .i64 12))),none,0⟩,
 ⟨(some 7),.mov (.tmp 6),none,0⟩,
 ⟨(some 8),.faddr 2 (.tmp 1),some (7,true),0⟩,
 ⟨(some 9),.load none (.tmp 8),some (7,true),0⟩,
 ⟨(some 10),.len (.tmp 9),some (7,true),0⟩,
 ⟨(some 11),.bin .leq (.tmp 10) (.cst (.c (.int .i64 12))),some (7,true),0⟩,
 ⟨(some 12),.pick (.tmp 7) (.tmp 11) (.cst (.c (.bool false))),none,0⟩,
 ⟨(some 13),.mov (.tmp 12),none,0⟩,
 ⟨(some 14),.faddr 3 (.tmp 1),some (13,true),0⟩,
 ⟨(some 15),.load none (.tmp 14),some (13,true),0⟩,
 ⟨(some 16),.len (.tmp 15),some (13,true),0⟩,
 ⟨(some 17),.bin .leq (.tmp 16) (.cst (.c (.int .i64 5))),some (13,true),0⟩,
 ⟨(some 18),.pick (.tmp 13) (.tmp 17) (.cst (.c (.bool false))),none,0⟩,
 ⟨(some 19),.mov (.tmp 18),none,0⟩,
 ⟨(some 20),.faddr 4 (.tmp 1),some (19,true),0⟩,
 ⟨(some 21),.load none (.tmp 20),some (19,true),0⟩,
 ⟨(some 22),.len (.tmp 21),some (19,true),0⟩,
 ⟨(some 23),.bin .leq (.tmp 22) (.cst (.c (.int .i64 12))),some (19,true),0⟩,
 ⟨(some 24),.pick (.tmp 19) (.tmp 23) (.cst (.c (.bool false))),none,0⟩,
 ⟨(some 25),.mov (.tmp 24),none,0⟩,
 ⟨(some 26),.faddr 8 (.tmp 1),some (25,true),0⟩,
 ⟨(some 27),.load none (.tmp 26),some (25,true),0⟩,
 ⟨(some 28),.len (.tmp 27),some (25,true),0⟩,
 ⟨(some 29),.bin .leq (.tmp 28) (.cst (.c (.int .i64 7))),some (25,true),0⟩,
 ⟨(some 30),.pick (.tmp 25) (.tmp 29) (.cst (.c (.bool false))),none,0⟩,
 ⟨(some 31),.mov (.tmp 30),none,0⟩,
 ⟨(some 32),.load (some 9) (.tmp 1),some (31,true),0⟩,
 ⟨(some 33),.call 49 true [(.tmp 32)],some (31,true),0⟩,
 ⟨(some 34),.bin .neq (.tmp 33) (.cst (.c (.int .i64 0))),some (31,true),0⟩,
 ⟨(some 35),.mov (.tmp 34),some (31,true),0⟩,
 ⟨(some 36),.load (some 9) (.tmp 1),some (35,false),0⟩,
 ⟨(some 37),.call 50 true [(.tmp 36)],some (35,false),0⟩,
 ⟨(some 38),.bin .leq (.tmp 37) (.cst (.c (.int .i64 100))),some (35,false),0⟩,
 ⟨(some 39),.pick (.tmp 35) (.cst (.c (.bool true))) (.tmp 38),some (31,true),0⟩,
 ⟨(some 40),.pick (.tmp 31) (.tmp 39) (.cst (.c (.bool false))),none,0⟩,
 ⟨(some 2),.mov (.tmp 40),none,0⟩])
 .ret))⟩
/-- 12 isatis/isatislaw02.awake -/
def f12 : AFunc := ⟨160,[.tmp 0],false,
 (.seq (.region 0 [] [
 ⟨(some 0),.mov (.cst (.c (.bool false))),none,0⟩])
 (.seq (.region 1 [] [
 ⟨(some 19),.call 51 true [(.cst (.c (.int .i64 0)))],none,0⟩,
 ⟨(some 20),.call 52 true [],none,0⟩,
 ⟨(some 21),.bslice 1 2 [(.int .i64 0)] [(0,(.cst (.c (.int .i64 1)))),(1,(.cst (.c (.int .i64 3))))],none,0⟩,
 ⟨(some 22),.call 43 true [(.tmp 19),(.tmp 20),(.tmp 21)],none,1⟩,
 ⟨(some 18),.mov (.tmp 22),none,1⟩,
 ⟨(some 23),.extract 0 (.tmp 18),none,1⟩,
 ⟨(some 24),.extract 1 (.tmp 18),none,1⟩,
 ⟨(some 1),.mov (.tmp 23),none,1⟩,
 ⟨(some 2),.mov (.tmp 24),none,1⟩])
 (.seq (.region 1 [] [
 ⟨(some 26),.call 51 true [(.cst (.c (.int .i64 0)))],none,0⟩,
 ⟨(some 27),.bslice 1 2 [(.int .i64 0)] [(0,(.cst (.c (.int .i64 2)))),(1,(.cst (.c (.int .i64 4))))],none,0⟩,
 ⟨(some 28),.call 13 true [(.tmp 26),(.tmp 27)],none,1⟩,
 ⟨(some 25),.mov (.tmp 28),none,1⟩,
 ⟨(some 29),.extract 0 (.tmp 25),none,1⟩,
 ⟨(some 30),.extract 1 (.tmp 25),none,1⟩,
 ⟨(some 3),.mov (.tmp 29),none,1⟩,
 ⟨(some 4),.mov (.tmp 30),none,1⟩])
 (.seq (.region 2 [] [
 ⟨(some 32),.call 51 true [(.cst (.c (.int .i64 0)))],none,0⟩,
 ⟨(some 33),.bslice 1 2 [(.int .i64 0)] [(0,(.cst (.c (.int .i64 1)))),(1,(.cst (.c (.int .i64 3))))],none,0⟩,
 ⟨(some 34),.call 16 true [(.tmp 32),(.tmp 33)],none,1⟩,
 ⟨(some 31),.mov (.tmp 34),none,1⟩,
 ⟨(some 35),.extract 0 (.tmp 31),none,1⟩,
 ⟨(some 36),.extract 1 (.tmp 31),none,1⟩,
 ⟨(some 5),.alloc [(.int .i64 0),(.int .i64 0)],none,1⟩,
 ⟨none,.store (some 2) (.tmp 5) (.tmp 35),none,2⟩,
 ⟨(some 6),.mov (.tmp 36),none,2⟩])
 (.seq (.region 0 [] [
 ⟨(some 38),.call 51 true [(.cst (.c (.int .i64 0)))],none,0⟩,
 ⟨(some 39),.call 26 true [(.tmp 38)],none,0⟩,
 ⟨(some 37),.mov (.tmp 39),none,0⟩,
 ⟨(some 40),.extract 0 (.tmp 37),none,0⟩,
 ⟨(some 41),.extract 1 (.tmp 37),none,0⟩,
 ⟨(some 42),.extract 2 (.tmp 37),none,0⟩,
 ⟨(some 7),.mov (.tmp 40),none,0⟩,
 ⟨(some 8),.mov (.tmp 41),none,0⟩,
 ⟨(some 9),.mov (.tmp 42),none,0⟩])
 (.seq (.region 1 [] [
 ⟨(some 44),.call 51 true [(.cst (.c (.int .i64 0)))],none,0⟩,
 ⟨(some 45),.call 23 true [(.tmp 44),(.cst (.c (.int .i64 4)))],none,0⟩,
 ⟨(some 43),.mov (.tmp 45),none,0⟩,
 ⟨(some 46),.extract 0 (.tmp 43),none,0⟩,
 ⟨(some 47),.extract 1 (.tmp 43),none,0⟩,
 ⟨(some 10),.alloc [(.int .i64 0),(.int .i64 0)],none,0⟩,
 ⟨none,.store (some 2) (.tmp 10) (.tmp 46),none,1⟩,
 ⟨(some 11),.mov (.tmp 47),none,1⟩])
 (.seq (.region 2 [] [
 ⟨(some 49),.call 51 true [(.cst (.c (.int .i64 0)))],none,0⟩,
 ⟨(some 50),.bslice 1 2 [(.int .i64 0)] [(0,(.cst (.c (.int .i64 1)))),(1,(.cst (.c (.int .i64 3))))],none,0⟩,
 ⟨(some 51),.call 39 true [(.tmp 49),(.tmp 50)],none,1⟩,
 ⟨(some 48),.mov (.tmp 51),none,1⟩,
 ⟨(some 52),.extract 0 (.tmp 48),none,1⟩,
 ⟨(some 53),.extract 1 (.tmp 48),none,1⟩,
 ⟨(some 12),.alloc [.nils,.nils],none,1⟩,
 ⟨none,.store (some 2) (.tmp 12) (.tmp 52),none,2⟩,
 ⟨(some 13),.mov (.tmp 53),none,2⟩])
 (.seq (.region 0 [] [
 ⟨(some 55),.call 51 true [(.cst (.c (.int .i64 2)))],none,0⟩,
 ⟨(some 56),.call 29 true [(.tmp 55)],none,0⟩,
 ⟨(some 54),.mov (.tmp 56),none,0⟩,
 ⟨(some 57),.extract 0 (.tmp 54),none,0⟩,
 ⟨(some 58),.extract 1 (.tmp 54),none,0⟩,
 ⟨(some 14),.mov (.tmp 57),none,0⟩,
 ⟨(some 15),.mov (.tmp 58),none,0⟩])
 (.seq (.region 0 [] [
 ⟨(some 60),.call 51 true [(.cst (.c (.int .i64 2)))],none,0⟩,
 ⟨(some 61),.call 30 true [(.tmp 60)],none,0⟩,
 ⟨(some 59),.mov (.tmp 61),none,0⟩,
 ⟨(some 62),.extract 0 (.tmp 59),none,0⟩,
 ⟨(some 63),.extract 1 (.tmp 59),none,0⟩,
 ⟨(some 16),.mov (.tmp 62),none,0⟩,
 ⟨(some 17),.mov (.tmp 63),none,0⟩])
 (.seq (.region 2 [(8,11),(9,11),(10,11),(15,18),(16,18),(17,18),(31,34),(32,34),(33,34),(31,35),(32,35),(33,35),(31,36),(32,36),(33,36),(44,45),(53,54),(66,67),(75,76),(92,93)] [
 ⟨(some 64),.mov (.tmp 2),none,0⟩,
 ⟨(some 65),.bin .eql (.tmp 64) (.cst (.c (.int .i64 0))),none,0⟩,
 ⟨(some 66),.mov (.tmp 65),none,0⟩,
 ⟨(some 67),.mov (.tmp 1),some (66,true),0⟩,
 ⟨(some 68),.len (.tmp 67),some (66,true),0⟩,
 ⟨(some 69),.bin .eql (.tmp 68) (.cst (.c (.int .i64 2))),some (66,true),0⟩,
 ⟨(some 70),.pick (.tmp 66) (.tmp 69) (.cst (.c (.bool false))),none,0⟩,
 ⟨(some 71),.mov (.tmp 70),none,0⟩,
 ⟨(some 72),.mov (.tmp 1),some (71,true),0⟩,
 ⟨(some 73),.iaddr 3 (.tmp 72) (.cst (.c (.int .i64 0))),some (71,true),0⟩,
 ⟨(some 74),.load (some 3) (.tmp 73),some (71,true),0⟩,
 ⟨(some 75),.build [(.int .i64 0),(.int .i64 0),(.int .i64 0)] [(0,1,(.cst (.c (.int .i64 18)))),(1,1,(.cst (.c (.int .i64 20)))),(2,1,(.cst (.c (.int .i64 360))))],some (71,true),0⟩,
 ⟨(some 76),.eqA false [(some .i64),(some .i64),(some .i64)] (.tmp 74) (.tmp 75),some (71,true),0⟩,
 ⟨(some 77),.pick (.tmp 71) (.tmp 76) (.cst (.c (.bool false))),none,0⟩,
 ⟨(some 78),.mov (.tmp 77),none,0⟩,
 ⟨(some 79),.mov (.tmp 1),some (78,true),0⟩,
 ⟨(some 80),.iaddr 3 (.tmp 79) (.cst (.c (.int .i64 1))),some (78,true),0⟩,
 ⟨(some 81),.load (some 3) (.tmp 80),some (78,true),0⟩,
 ⟨(some 82),.build [(.int .i64 0),(.int .i64 0),(.int .i64 0)] [(0,1,(.cst (.c (.int .i64 5)))),(1,1,(.cst (.c (.int .i64 15)))),(2,1,(.cst (.c (.int .i64 75))))],some (78,true),0⟩,
 ⟨(some 83),.eqA false [(some .i64),(some .i64),(some .i64)] (.tmp 81) (.tmp 82),some (78,true),0⟩,
 ⟨(some 84),.pick (.tmp 78) (.tmp 83) (.cst (.c (.bool false))),none,0⟩,
 ⟨(some 85),.mov (.tmp 84),none,0⟩,
 ⟨(some 86),.mov (.tmp 4),some (85,true),0⟩,
 ⟨(some 87),.bin .eql (.tmp 86) (.cst (.c (.int .i64 0))),some (85,true),0⟩,
 ⟨(some 88),.pick (.tmp 85) (.tmp 87) (.cst (.c (.bool false))),none,0⟩,
 ⟨(some 89),.mov (.tmp 88),none,0⟩,
 ⟨(some 90),.mov (.tmp 3),some (89,true),0⟩,
 ⟨(some 91),.len (.tmp 90),some (89,true),0⟩,
 ⟨(some 92),.bin .eql (.tmp 91) (.cst (.c (.int .i64 2))),some (89,true),0⟩,
 ⟨(some 93),.pick (.tmp 89) (.tmp 92) (.cst (.c (.bool false))),none,0⟩,
 ⟨(some 94),.mov (.tmp 93),none,0⟩,
 ⟨(some 95),.mov (.tmp 3),some (94,true),0⟩,
 ⟨(some 96),.iaddr 5 (.tmp 95) (.cst (.c (.int .i64 0))),some (94,true),0⟩,
 ⟨(some 97),.load (some 5) (.tmp 96),some (94,true),0⟩,
 ⟨(some 98),.call 53 true [(.cst (.c (.int .i64 24))),(.cst (.c (.int .i64 26)))],some (94,true),0⟩,
 ⟨(some 99),.call 53 true [(.cst (.c (.int .i64 384))),(.cst (.c (.int .i64 416)))],some (94,true),0⟩,
 ⟨(some 100),.build [(.int .i64 0),(.int .i64 0),(.int .i64 0),(.int .i64 0),(.int .i64 0)] [(0,2,(.tmp 98)),(2,1,(.cst (.c (.int .i64 16)))),(3,2,(.tmp 99))],some (94,true),0⟩,
 ⟨(some 101),.eqA false [(some .i64),(some .i64),(some .i64),(some .i64),(some .i64)] (.tmp 97) (.tmp 100),some (94,true),0⟩,
 ⟨(some 102),.pick (.tmp 94) (.tmp 101) (.cst (.c (.bool false))),none,0⟩,
 ⟨(some 103),.mov (.tmp 102),none,0⟩,
 ⟨(some 104),.mov (.tmp 6),some (103,true),0⟩,
 ⟨(some 105),.bin .eql (.tmp 104) (.cst (.c (.int .i64 0))),some (103,true),0⟩,
 ⟨(some 106),.pick (.tmp 103) (.tmp 105) (.cst (.c (.bool false))),none,0⟩,
 ⟨(some 107),.mov (.tmp 106),none,0⟩,
 ⟨(some 108),.load (some 2) (.tmp 5),some (107,true),0⟩,
 ⟨(some 109),.call 53 true [(.cst (.c (.int .i64 255))),(.cst (.c (.int .i64 490)))],some (107,true),0⟩,
 ⟨(some 110),.eqA false [(some .i64),(some .i64)] (.tmp 108) (.tmp 109),some (107,true),0⟩,
 ⟨(some 111),.pick (.tmp 107) (.tmp 110) (.cst (.c (.bool false))),none,0⟩,
 ⟨(some 112),.mov (.tmp 111),none,0⟩,
 ⟨(some 113),.mov (.tmp 9),some (112,true),0⟩,
 ⟨(some 114),.bin .eql (.tmp 113) (.cst (.c (.int .i64 0))),some (112,true),0⟩,
 ⟨(some 115),.pick (.tmp 112) (.tmp 114) (.cst (.c (.bool false))),none,0⟩,
 ⟨(some 116),.mov (.tmp 115),none,0⟩,
 ⟨(some 117),.mov (.tmp 7),some (116,true),0⟩,
 ⟨(some 118),.bslice 1 2 [(.int .i64 0)] [(0,(.cst (.c (.int .i64 2)))),(1,(.cst (.c (.int .i64 4))))],some (116,true),0⟩,
 ⟨(some 119),.call 28 true [(.tmp 117),(.tmp 118)],some (116,true),1⟩,
 ⟨(some 120),.pick (.tmp 116) (.tmp 119) (.cst (.c (.bool false))),none,1⟩,
 ⟨(some 121),.mov (.tmp 120),none,1⟩,
 ⟨(some 122),.mov (.tmp 8),some (121,true),1⟩,
 ⟨(some 123),.bin .eql (.tmp 122) (.cst (.c (.int .i64 474))),some (121,true),1⟩,
 ⟨(some 124),.pick (.tmp 121) (.tmp 123) (.cst (.c (.bool false))),none,1⟩,
 ⟨(some 125),.mov (.tmp 124),none,1⟩,
 ⟨(some 126),.mov (.tmp 11),some (125,true),1⟩,
 ⟨(some 127),.bin .eql (.tmp 126) (.cst (.c (.int .i64 0))),some (125,true),1⟩,
 ⟨(some 128),.pick (.tmp 125) (.tmp 127) (.cst (.c (.bool false))),none,1⟩,
 ⟨(some 129),.mov (.tmp 128),none,1⟩,
 ⟨(some 130),.load (some 2) (.tmp 10),some (129,true),1⟩,
 ⟨(some 131),.call 53 true [(.cst (.c (.int .i64 30))),(.cst (.c (.int .i64 33)))],some (129,true),1⟩,
 ⟨(some 132),.eqA false [(some .i64),(some .i64)] (.tmp 130) (.tmp 131),some (129,true),1⟩,
 ⟨(some 133),.pick (.tmp 129) (.tmp 132) (.cst (.c (.bool false))),none,1⟩,
 ⟨(some 134),.mov (.tmp 133),none,1⟩,
 ⟨(some 135),.mov (.tmp 13),some (134,true),1⟩,
 ⟨(some 136),.bin .eql (.tmp 135) (.cst (.c (.int .i64 0))),some (134,true),1⟩,
 ⟨(some 137),.pick (.tmp 134) (.tmp 136) (.cst (.c (.bool false))),none,1⟩,
 ⟨(some 138),.mov (.tmp 137),none,1⟩,
 ⟨(some 139),.call 51 true [(.cst (.c (.int .i64 0)))],some (138,true),1⟩,
 ⟨(some 140),.load (some 2) (.tmp 12),some (138,true),1⟩,
 ⟨(some 141),.call 45 true [(.tmp 139),(.tmp 140)],some (138,true),1⟩,
 ⟨(some 142),.pick (.tmp 138) (.tmp 141) (.cst (.c (.bool false))),none,1⟩,
 ⟨(some 143),.mov (.tmp 142),none,1⟩,
 ⟨(some 144),.mov (.tmp 15),some (143,true),1⟩,
 ⟨(some 145),.bin .eql (.tmp 144) (.cst (.c (.int .i64 0))),some (143,true),1⟩,
 ⟨(some 146),.pick (.tmp 143) (.tmp 145) (.cst (.c (.bool false))),none,1⟩,
 ⟨(some 147),.mov (.tmp 146),none,1⟩,
 ⟨(some 148),.mov (.tmp 14),some (147,true),1⟩,
 ⟨(some 149),.bin .eql (.tmp 148) (.cst (.c (.int .i64 1))),some (147,true),1⟩,
 ⟨(some 150),.pick (.tmp 147) (.tmp 149) (.cst (.c (.bool false))),none,1⟩,
 ⟨(some 151),.mov (.tmp 150),none,1⟩,
 ⟨(some 152),.mov (.tmp 17),some (151,true),1⟩,
 ⟨(some 153),.bin .eql (.tmp 152) (.cst (.c (.int .i64 0))),some (151,true),1⟩,
 ⟨(some 154),.pick (.tmp 151) (.tmp 153) (.cst (.c (.bool false))),none,1⟩,
 ⟨(some 155),.mov (.tmp 154),none,1⟩,
 ⟨(some 156),.mov (.tmp 16),some (155,true),1⟩,
 ⟨(some 157),.bslice 1 1 [(.int .i64 0)] [(0,(.cst (.c (.int .i64 0))))],some (155,true),1⟩,
 ⟨(some 158),.call 28 true [(.tmp 156),(.tmp 157)],some (155,true),2⟩,
 ⟨(some 159),.pick (.tmp 155) (.tmp 158) (.cst (.c (.bool false))),none,2⟩,
 ⟨(some 0),.mov (.tmp 159),none,2⟩])
 .ret))))))))))⟩
/-- 13 isatis/crop.Bounds | loop 0 vars [8,21] kill 25 makes true reify [(8,(none,5))] -/
def f13 : AFunc := ⟨47,[.tmp 4,.tmp 5],false,
 (.seq (.region 1 [] [
 ⟨(some 2),.box (.tmp 0),none,0⟩,
 ⟨(some 4),.mov (.cst (.c .nils)),none,1⟩,
 ⟨(some 5),.mov (.cst (.c (.int .i64 0))),none,1⟩])
 (.seq (.region 0 [] [
 ⟨(some 11),.load (some 9) (.tmp 2),none,0⟩,
 ⟨(some 12),.mov (.tmp 1),none,0⟩,
 ⟨(some 13),.call 54 false [(.tmp 11),(.tmp 12)],none,0⟩,
 ⟨(some 10),.mov (.tmp 13),none,0⟩,
 ⟨(some 14),.extract 0 (.tmp 10),none,0⟩,
 ⟨(some 15),.extract 1 (.tmp 10),none,0⟩,
 ⟨(some 6),.mov (.tmp 14),none,0⟩,
 ⟨(some 7),.mov (.tmp 15),none,0⟩])
 (.seq (.seq (.region 0 [] [
 ⟨(some 16),.mov (.tmp 7),none,0⟩,
 ⟨(some 17),.bin .neq (.tmp 16) (.cst (.c (.int .i64 0))),none,0⟩])
 (.cond (.tmp 17)
 (.seq (.region 0 [] [
 ⟨(some 18),.mov (.tmp 7),none,0⟩,
 ⟨(some 4),.mov (.cst (.c .nils)),none,0⟩,
 ⟨(some 5),.mov (.tmp 18),none,0⟩])
 .ret)
 .skip))
 (.seq (.region 0 [] [
 ⟨(some 8),.mov (.cst (.c .nils)),none,0⟩])
 (.seq (.seq (.region 0 [] [
 ⟨(some 19),.mov (.tmp 1),none,0⟩,
 ⟨(some 20),.len (.tmp 19),none,0⟩,
 ⟨(some 21),.mov (.cst (.c (.int .i64 0))),none,0⟩])
 (.block 0 (.loop ⟨[9,22,23,24,25,26,27,28,29,30,31,32,33,34,35,36,37,38,39,40,41,42,43,44,45],false,[(8,none,5)]⟩
 (.seq (.region 0 [] [
 ⟨(some 22),.bin .lss (.tmp 21) (.tmp 20),none,0⟩])
 (.seq (.cond (.tmp 22)
 .skip
 (.exit 0))
 (.seq (.block 1 (.seq (.region 0 [] [
 ⟨(some 23),.mov (.tmp 21),none,0⟩,
 ⟨(some 9),.mov (.tmp 23),none,0⟩])
 (.region 2 [(0,1),(0,2),(1,2),(0,3),(1,3),(2,3),(0,4),(1,4),(2,4),(3,4),(0,5),(0,6),(1,6),(2,6),(3,6),(4,6),(5,6),(0,7),(1,7),(2,7),(3,7),(4,7),(5,7),(0,8),(1,8),(2,8),(3,8),(4,8),(5,8),(0,9),(1,9),(2,9),(3,9),(4,9),(5,9),(0,10),(1,10),(2,10),(3,10),(4,10),(5,10),(6,10),(7,10),(8,10),(9,10),(0,11),(1,11),(2,11),(3,11),(4,11),(5,11),(6,11),(7,11),(8,11),(9,11),(10,11),(0,12),(0,13),(1,13),(2,13),(3,13),(4,13),(5,13),(6,13),(7,13),(8,13),(9,13),(10,13),(11,13),(12,13),(0,14),(1,14),(2,14),(3,14),(4,14),(5,14),(6,14),(7,14),(8,14),(9,14),(10,14),(11,14),(12,14),(13,14),(0,15),(1,15),(2,15),(3,15),(4,15),(5,15),(6,15),(7,15),(8,15),(9,15),(10,15),(11,15),(12,15),(13,15),(14,15),(0,16),(1,16),(2,16),(3,16),(4,16),(5,16),(6,16),(7,16),(8,16),(9,16),(10,16),(11,16),(12,16),(13,16),(14,16),(15,16),(0,17),(0,18),(0,19)] [
 ⟨(some 24),.mov (.tmp 8),none,0⟩,
 ⟨(some 25),.build [.nilfn] [(0,1,(.cst (.c (.fn 55 false [] []))))],none,0⟩,
 ⟨(some 26),.mov (.tmp 6),none,0⟩,
 ⟨(some 27),.mov (.tmp 1),none,0⟩,
 ⟨(some 28),.mov (.tmp 9),none,0⟩,
 ⟨(some 29),.call 56 false [(.tmp 25),(.tmp 26),(.tmp 27),(.tmp 28)],none,0⟩,
 ⟨(some 30),.mov (.tmp 6),none,0⟩,
 ⟨(some 31),.nilchk (.tmp 30),none,0⟩,
 ⟨(some 32),.faddr 0 (.tmp 31),none,0⟩,
 ⟨(some 33),.load (some 9) (.tmp 32),none,0⟩,
 ⟨(some 34),.mov (.tmp 1),none,0⟩,
 ⟨(some 35),.mov (.tmp 9),none,0⟩,
 ⟨(some 36),.call 57 true [(.tmp 33),(.tmp 34),(.tmp 35)],none,0⟩,
 ⟨(some 37),.build [.nilfn] [(0,1,(.cst (.c (.fn 58 false [] []))))],none,0⟩,
 ⟨(some 38),.mov (.tmp 6),none,0⟩,
 ⟨(some 39),.mov (.tmp 1),none,0⟩,
 ⟨(some 40),.mov (.tmp 9),none,0⟩,
 ⟨(some 41),.call 56 false [(.tmp 37),(.tmp 38),(.tmp 39),(.tmp 40)],none,0⟩,
 ⟨(some 42),.build [(.int .i64 0),(.int .i64 0),(.int .i64 0),(.int .i64 0),(.int .i64 0)] [(0,2,(.tmp 29)),(2,1,(.tmp 36)),(3,2,(.tmp 41))],none,0⟩,
 ⟨(some 43),.bslice 5 1 [(.int .i64 0),(.int .i64 0),(.int .i64 0),(.int .i64 0),(.int .i64 0)] [(0,(.tmp 42))],none,0⟩,
 ⟨(some 44),.append 5 40 (.tmp 24) (.tmp 43),none,1⟩,
 ⟨(some 8),.mov (.tmp 44),none,2⟩])))
 (.region 0 [] [
 ⟨(some 45),.bin .add (.tmp 21) (.cst (.c (.int .i64 1))),none,0⟩,
 ⟨(some 21),.mov (.tmp 45),none,0⟩])))))))
 (.seq (.region 0 [] [
 ⟨(some 46),.mov (.tmp 8),none,0⟩,
 ⟨(some 4),.mov (.tmp 46),none,0⟩,
 ⟨(some 5),.mov (.cst (.c (.int .i64 0))),none,0⟩])
 .ret))))))⟩
/-- 14 isatis/isatislaw02.Field | loop 0 vars [4] kill 18 makes true reify [(3,((some 1),2))] | loop 2 vars [5] kill 26 makes true reify [(3,((some 8),3))] -/
def f14 : AFunc := ⟨69,[.cell 2 (some 9)],false,
 (.seq (.region 2 [] [
 ⟨(some 1),.box (.tmp 0),none,0⟩,
 ⟨(some 2),.alloc [(.int .i64 0),.nils,.nils,.nils,.nils,(.int .i64 0),(.int .i64 0),(.int .i64 0),.nils],none,1⟩])
 (.seq (.region 1 [(0,2),(1,2),(0,3),(1,3),(0,4),(1,4),(0,5),(1,5),(2,5),(3,5),(4,5),(0,6),(1,6),(2,6),(3,6),(4,6),(0,7),(1,7),(0,8),(1,8),(2,8),(3,8),(4,8),(5,8),(6,8),(7,8),(0,9),(1,9),(2,9),(3,9),(4,9),(5,9),(6,9),(7,9),(0,10),(1,10),(0,11),(1,11),(2,11),(3,11),(4,11),(5,11),(6,11),(7,11),(8,11),(9,11),(10,11),(0,12),(1,12),(2,12),(3,12),(4,12),(5,12),(6,12),(7,12),(8,12),(9,12),(10,12),(0,13),(1,13),(2,13),(3,13),(4,13),(5,13),(6,13),(7,13),(8,13),(9,13),(10,13),(11,13),(12,13),(0,14),(1,14),(2,14),(3,14),(4,14),(5,14),(6,14),(7,14),(8,14),(9,14),(10,14),(11,14),(12,14),(0,15),(1,15),(2,15),(3,15),(4,15),(5,15),(6,15),(7,15),(8,15),(9,15),(10,15),(11,15),(12,15),(13,15),(14,15),(0,16),(1,16),(2,16),(3,16),(4,16),(5,16),(6,16),(7,16),(8,16),(9,16),(10,16),(11,16),(12,16),(13,16),(14,16),(0,18),(1,18),(2,18),(3,18),(4,18),(5,18),(6,18),(7,18),(8,18),(9,18),(10,18),(11,18),(12,18),(13,18),(14,18),(15,18),(16,18),(17,18)] [
 ⟨(some 6),.faddr 0 (.tmp 1),none,0⟩,
 ⟨(some 7),.load none (.tmp 6),none,0⟩,
 ⟨(some 8),.faddr 2 (.tmp 1),none,0⟩,
 ⟨(some 9),.load none (.tmp 8),none,0⟩,
 ⟨(some 10),.call 15 true [(.tmp 9)],none,0⟩,
 ⟨(some 11),.faddr 3 (.tmp 1),none,0⟩,
 ⟨(some 12),.load none (.tmp 11),none,0⟩,
 ⟨(some 13),.call 15 true [(.tmp 12)],none,0⟩,
 ⟨(some 14),.faddr 4 (.tmp 1),none,0⟩,
 ⟨(some 15),.load none (.tmp 14),none,0⟩,
 ⟨(some 16),.call 15 true [(.tmp 15)],none,0⟩,
 ⟨(some 17),.faddr 5 (.tmp 1),none,0⟩,
 ⟨(some 18),.load none (.tmp 17),none,0⟩,
 ⟨(some 19),.faddr 6 (.tmp 1),none,0⟩,
 ⟨(some 20),.load none (.tmp 19),none,0⟩,
 ⟨(some 21),.faddr 7 (.tmp 1),none,0⟩,
 ⟨(some 22),.load none (.tmp 21),none,0⟩,
 ⟨(some 23),.build [(.int .i64 0),.nils,.nils,.nils,.nils,(.int .i64 0),(.int .i64 0),(.int .i64 0),.nils] [(0,1,(.tmp 7)),(2,1,(.tmp 10)),(3,1,(.tmp 13)),(4,1,(.tmp 16)),(5,1,(.tmp 18)),(6,1,(.tmp 20)),(7,1,(.tmp 22))],none,0⟩,
 ⟨(some 3),.alloc [(.int .i64 0),.nils,.nils,.nils,.nils,(.int .i64 0),(.int .i64 0),(.int .i64 0),.nils],none,0⟩,
 ⟨none,.store (some 9) (.tmp 3) (.tmp 23),none,1⟩])
 (.seq (.seq (.region 0 [] [
 ⟨(some 4),.mov (.cst (.c (.int .i64 0))),none,0⟩])
 (.block 0 (.loop ⟨[24,25,26,27,28,29,30,31,32,33,34,35,36,37,38,39,40,41],true,[(3,(some 1),2)]⟩
 (.seq (.seq (.region 0 [] [
 ⟨(some 24),.mov (.tmp 4),none,0⟩,
 ⟨(some 25),.faddr 1 (.tmp 1),none,0⟩,
 ⟨(some 26),.load none (.tmp 25),none,0⟩,
 ⟨(some 27),.len (.tmp 26),none,0⟩,
 ⟨(some 28),.bin .lss (.tmp 24) (.tmp 27),none,0⟩])
 (.cond (.tmp 28)
 .skip
 (.exit 0)))
 (.seq (.block 1 (.region 2 [(0,2),(1,2),(0,3),(1,3),(0,4),(1,4),(2,4),(3,4),(0,5),(1,5),(0,6),(1,6),(0,7),(1,7),(0,8),(1,8)] [
 ⟨(some 31),.faddr 1 (.tmp 3),none,0⟩,
 ⟨(some 32),.load none (.tmp 31),none,0⟩,
 ⟨(some 33),.faddr 1 (.tmp 1),none,0⟩,
 ⟨(some 34),.load none (.tmp 33),none,0⟩,
 ⟨(some 35),.mov (.tmp 4),none,0⟩,
 ⟨(some 36),.iaddr 2 (.tmp 34) (.tmp 35),none,0⟩,
 ⟨(some 37),.load (some 2) (.tmp 36),none,0⟩,
 ⟨(some 38),.call 20 true [(.tmp 37)],none,0⟩,
 ⟨(some 39),.bslice 2 1 [(.int .i64 0),(.int .i64 0)] [(0,(.tmp 38))],none,0⟩,
 ⟨(some 40),.append 2 16 (.tmp 32) (.tmp 39),none,1⟩,
 ⟨(some 41),.faddr 1 (.tmp 3),none,2⟩,
 ⟨none,.store none (.tmp 41) (.tmp 40),none,2⟩]))
 (.region 0 [] [
 ⟨(some 29),.mov (.tmp 4),none,0⟩,
 ⟨(some 30),.bin .add (.tmp 29) (.cst (.c (.int .i64 1))),none,0⟩,
 ⟨(some 4),.mov (.tmp 30),none,0⟩]))))))
 (.seq (.seq (.region 0 [] [
 ⟨(some 5),.mov (.cst (.c (.int .i64 0))),none,0⟩])
 (.block 2 (.loop ⟨[42,43,44,45,46,47,48,49,50,51,52,53,54,55,56,57,58,59,60,61,62,63,64,65,66,67],true,[(3,(some 8),3)]⟩
 (.seq (.seq (.region 0 [] [
 ⟨(some 42),.mov (.tmp 5),none,0⟩,
 ⟨(some 43),.faddr 8 (.tmp 1),none,0⟩,
 ⟨(some 44),.load none (.tmp 43),none,0⟩,
 ⟨(some 45),.len (.tmp 44),none,0⟩,
 ⟨(some 46),.bin .lss (.tmp 42) (.tmp 45),none,0⟩])
 (.cond (.tmp 46)
 .skip
 (.exit 2)))
 (.seq (.block 3 (.region 2 [(0,2),(1,2),(0,3),(1,3),(0,4),(1,4),(2,4),(3,4),(0,5),(1,5),(0,6),(1,6),(0,7),(1,7),(0,8),(1,8),(2,8),(3,8),(4,8),(5,8),(6,8),(7,8),(0,9),(1,9),(2,9),(3,9),(4,9),(5,9),(6,9),(7,9),(0,10),(1,10),(2,10),(3,10),(4,10),(5,10),(6,10),(7,10),(8,10),(9,10),(0,11),(1,11),(2,11),(3,11),(4,11),(5,11),(6,11),(7,11),(0,12),(1,12),(2,12),(3,12),(4,12),(5,12),(6,12),(7,12),(0,13),(1,13),(2,13),(3,13),(4,13),(5,13),(6,13),(7,13),(0,14),(1,14),(2,14),(3,14),(4,14),(5,14),(6,14),(7,14),(0,15),(1,15),(0,16),(1,16)] [
 ⟨(some 49),.faddr 8 (.tmp 3),none,0⟩,
 ⟨(some 50),.load none (.tmp 49),none,0⟩,
 ⟨(some 51),.faddr 8 (.tmp 1),none,0⟩,
 ⟨(some 52),.load none (.tmp 51),none,0⟩,
 ⟨(some 53),.mov (.tmp 5),none,0⟩,
 ⟨(some 54),.iaddr 3 (.tmp 52) (.tmp 53),none,0⟩,
 ⟨(some 55),.faddr 0 (.tmp 54),none,0⟩,
 ⟨(some 56),.load none (.tmp 55),none,0⟩,
 ⟨(some 57),.faddr 8 (.tmp 1),none,0⟩,
 ⟨(some 58),.load none (.tmp 57),none,0⟩,
 ⟨(some 59),.mov (.tmp 5),none,0⟩,
 ⟨(some 60),.iaddr 3 (.tmp 58) (.tmp 59),none,0⟩,
 ⟨(some 61),.faddr 1 (.tmp 60),none,0⟩,
 ⟨(some 62),.load (some 2) (.tmp 61),none,0⟩,
 ⟨(some 63),.call 20 true [(.tmp 62)],none,0⟩,
 ⟨(some 64),.build [(.int .i64 0),(.int .i64 0),(.int .i64 0)] [(0,1,(.tmp 56)),(1,2,(.tmp 63))],none,0⟩,
 ⟨(some 65),.bslice 3 1 [(.int .i64 0),(.int .i64 0),(.int .i64 0)] [(0,(.tmp 64))],none,0⟩,
 ⟨(some 66),.append 3 24 (.tmp 50) (.tmp 65),none,1⟩,
 ⟨(some 67),.faddr 8 (.tmp 3),none,2⟩,
 ⟨none,.store none (.tmp 67) (.tmp 66),none,2⟩]))
 (.region 0 [] [
 ⟨(some 47),.mov (.tmp 5),none,0⟩,
 ⟨(some 48),.bin .add (.tmp 47) (.cst (.c (.int .i64 1))),none,0⟩,
 ⟨(some 5),.mov (.tmp 48),none,0⟩]))))))
 (.seq (.region 0 [] [
 ⟨(some 68),.load (some 9) (.tmp 3),none,0⟩,
 ⟨none,.store (some 9) (.tmp 2) (.tmp 68),none,0⟩])
 .ret)))))⟩
/-- 15 isatis/isatislaw02.list -/
def f15 : AFunc := ⟨5,[.tmp 2],false,
 (.seq (.region 0 [] [
 ⟨(some 2),.mov (.cst (.c .nils)),none,0⟩])
 (.seq (.region 1 [] [
 ⟨(some 3),.mov (.tmp 0),none,0⟩,
 ⟨(some 4),.append 1 8 (.cst (.c .nils)) (.tmp 3),none,0⟩,
 ⟨(some 2),.mov (.tmp 4),none,1⟩])
 .ret))⟩
/-- 16 isatis/crop.Worth -/
def f16 : AFunc := ⟨21,[.cell 4 (some 2),.tmp 5],false,
 (.seq (.region 3 [] [
 ⟨(some 2),.box (.tmp 0),none,0⟩,
 ⟨(some 3),.box (.tmp 1),none,1⟩,
 ⟨(some 4),.alloc [(.int .i64 0),(.int .i64 0)],none,2⟩,
 ⟨(some 5),.mov (.cst (.c (.int .i64 0))),none,3⟩])
 (.seq (.region 1 [] [
 ⟨(some 9),.load (some 9) (.tmp 2),none,0⟩,
 ⟨(some 10),.load none (.tmp 3),none,0⟩,
 ⟨(some 11),.call 54 false [(.tmp 9),(.tmp 10)],none,0⟩,
 ⟨(some 8),.mov (.tmp 11),none,0⟩,
 ⟨(some 12),.extract 0 (.tmp 8),none,0⟩,
 ⟨(some 13),.extract 1 (.tmp 8),none,0⟩,
 ⟨(some 6),.alloc [.nilp],none,0⟩,
 ⟨none,.store none (.tmp 6) (.tmp 12),none,1⟩,
 ⟨(some 7),.mov (.tmp 13),none,1⟩])
 (.seq (.seq (.region 0 [] [
 ⟨(some 14),.mov (.tmp 7),none,0⟩,
 ⟨(some 15),.bin .neq (.tmp 14) (.cst (.c (.int .i64 0))),none,0⟩])
 (.cond (.tmp 15)
 (.seq (.region 0 [] [
 ⟨(some 16),.build [(.int .i64 0),(.int .i64 0)] [],none,0⟩,
 ⟨(some 17),.mov (.tmp 7),none,0⟩,
 ⟨none,.store (some 2) (.tmp 4) (.tmp 16),none,0⟩,
 ⟨(some 5),.mov (.tmp 17),none,0⟩])
 .ret)
 .skip))
 (.seq (.region 0 [] [
 ⟨(some 18),.load none (.tmp 6),none,0⟩,
 ⟨(some 19),.mkfn 60 none [(.tmp 6),(.tmp 3)],none,0⟩,
 ⟨(some 20),.call 59 false [(.tmp 18),(.tmp 19)],none,0⟩,
 ⟨none,.store (some 2) (.tmp 4) (.tmp 20),none,0⟩,
 ⟨(some 5),.mov (.cst (.c (.int .i64 0))),none,0⟩])
 .ret))))⟩
/-- 17 isatis/isatislaw02.sure -/
def f17 : AFunc := ⟨17,[.tmp 2,.tmp 3],false,
 (.seq (.region 1 [] [
 ⟨(some 1),.box (.tmp 0),none,0⟩,
 ⟨(some 2),.mov (.cst (.c .nils)),none,1⟩,
 ⟨(some 3),.mov (.cst (.c (.int .i64 0))),none,1⟩])
 (.seq (.seq (.region 0 [] [
 ⟨(some 6),.load (some 9) (.tmp 1),none,0⟩,
 ⟨(some 7),.call 18 true [(.tmp 6)],none,0⟩,
 ⟨(some 4),.mov (.tmp 7),none,0⟩])
 (.seq (.region 0 [] [
 ⟨(some 8),.mov (.tmp 4),none,0⟩,
 ⟨(some 9),.bin .neq (.tmp 8) (.cst (.c (.int .i64 0))),none,0⟩])
 (.cond (.tmp 9)
 (.seq (.region 0 [] [
 ⟨(some 10),.mov (.tmp 4),none,0⟩,
 ⟨(some 2),.mov (.cst (.c .nils)),none,0⟩,
 ⟨(some 3),.mov (.tmp 10),none,0⟩])
 .ret)
 .skip)))
 (.seq (.region 0 [] [
 ⟨(some 11),.load (some 9) (.tmp 1),none,0⟩,
 ⟨(some 12),.call 36 true [(.tmp 11)],none,0⟩,
 ⟨(some 5),.mov (.tmp 12),none,0⟩])
 (.seq (.seq (.region 0 [] [
 ⟨(some 13),.mov (.tmp 5),none,0⟩,
 ⟨(some 14),.len (.tmp 13),none,0⟩,
 ⟨(some 15),.bin .eql (.tmp 14) (.cst (.c (.int .i64 0))),none,0⟩])
 (.cond (.tmp 15)
 (.seq (.region 0 [] [
 ⟨(some 2),.mov (.cst (.c .nils)),none,0⟩,
 ⟨(some 3),.mov (.cst (.c (.int .i64 11))),none,0⟩])
 .ret)
 .skip))
 (.seq (.region 0 [] [
 ⟨(some 16),.mov (.tmp 5),none,0⟩,
 ⟨(some 2),.mov (.tmp 16),none,0⟩,
 ⟨(some 3),.mov (.cst (.c (.int .i64 0))),none,0⟩])
 .ret)))))⟩
/-- 18 isatis/isatislaw02.fault -/
def f18 : AFunc := ⟨5,[.tmp 2],false,
 (.seq (.region 1 [] [
 ⟨(some 1),.box (.tmp 0),none,0⟩,
 ⟨(some 2),.mov (.cst (.c (.int .i64 0))),none,1⟩])
 (.seq (.region 0 [] [
 ⟨(some 3),.load (some 9) (.tmp 1),none,0⟩,
 ⟨(some 4),.call 49 true [(.tmp 3)],none,0⟩,
 ⟨(some 2),.mov (.tmp 4),none,0⟩])
 .ret))⟩
/-- 19 isatis/isatisref02.IsPlan | loop 0 vars [5] kill 31 makes false -/
def f19 : AFunc := ⟨42,[.tmp 4],false,
 (.seq (.region 1 [] [
 ⟨(some 2),.box (.tmp 0),none,0⟩,
 ⟨(some 4),.mov (.cst (.c (.bool false))),none,1⟩])
 (.seq (.seq (.region 0 [] [
 ⟨(some 5),.mov (.cst (.c (.int .i64 0))),none,0⟩])
 (.block 0 (.loop ⟨[4,6,7,8,9,10,11,12,13,14,15,16,17,18,19,20,21,22,23,24,25,26,27,28,29,30,31,32,33,34,35],false,[]⟩
 (.seq (.seq (.region 0 [] [
 ⟨(some 6),.mov (.tmp 5),none,0⟩,
 ⟨(some 7),.mov (.tmp 1),none,0⟩,
 ⟨(some 8),.len (.tmp 7),none,0⟩,
 ⟨(some 9),.bin .lss (.tmp 6) (.tmp 8),none,0⟩])
 (.cond (.tmp 9)
 .skip
 (.exit 0)))
 (.seq (.block 1 (.seq (.region 0 [(0,1),(0,4),(1,4),(2,4),(3,4),(0,5),(1,5),(2,5),(3,5),(12,13),(12,16),(13,16),(14,16),(15,16),(12,17),(13,17),(14,17),(15,17),(16,17),(12,18),(13,18),(14,18),(15,18),(16,18),(12,19),(13,19),(14,19),(15,19),(12,20),(13,20),(14,20),(15,20)] [
 ⟨(some 12),.mov (.tmp 1),none,0⟩,
 ⟨(some 13),.mov (.tmp 5),none,0⟩,
 ⟨(some 14),.iaddr 1 (.tmp 12) (.tmp 13),none,0⟩,
 ⟨(some 15),.load none (.tmp 14),none,0⟩,
 ⟨(some 16),.faddr 0 (.tmp 2),none,0⟩,
 ⟨(some 17),.load none (.tmp 16),none,0⟩,
 ⟨(some 18),.call 24 true [(.tmp 15),(.cst (.c (.int .i64 0))),(.tmp 17)],none,0⟩,
 ⟨(some 19),.not (.tmp 18),none,0⟩,
 ⟨(some 20),.mov (.tmp 19),none,0⟩,
 ⟨(some 21),.mov (.tmp 5),some (20,false),0⟩,
 ⟨(some 22),.bin .gtr (.tmp 21) (.cst (.c (.int .i64 0))),some (20,false),0⟩,
 ⟨(some 23),.mov (.tmp 22),some (20,false),0⟩,
 ⟨(some 24),.mov (.tmp 1),some (23,true),0⟩,
 ⟨(some 25),.mov (.tmp 5),some (23,true),0⟩,
 ⟨(some 26),.iaddr 1 (.tmp 24) (.tmp 25),some (23,true),0⟩,
 ⟨(some 27),.load none (.tmp 26),some (23,true),0⟩,
 ⟨(some 28),.mov (.tmp 1),some (23,true),0⟩,
 ⟨(some 29),.mov (.tmp 5),some (23,true),0⟩,
 ⟨(some 30),.bin .sub (.tmp 29) (.cst (.c (.int .i64 1))),some (23,true),0⟩,
 ⟨(some 31),.iaddr 1 (.tmp 28) (.tmp 30),some (23,true),0⟩,
 ⟨(some 32),.load none (.tmp 31),some (23,true),0⟩,
 ⟨(some 33),.bin .leq (.tmp 27) (.tmp 32),some (23,true),0⟩,
 ⟨(some 34),.pick (.tmp 23) (.tmp 33) (.cst (.c (.bool false))),some (20,false),0⟩,
 ⟨(some 35),.pick (.tmp 20) (.cst (.c (.bool true))) (.tmp 34),none,0⟩])
 (.cond (.tmp 35)
 (.seq (.region 0 [] [
 ⟨(some 4),.mov (.cst (.c (.bool false))),none,0⟩])
 .ret)
 .skip)))
 (.region 0 [] [
 ⟨(some 10),.mov (.tmp 5),none,0⟩,
 ⟨(some 11),.bin .add (.tmp 10) (.cst (.c (.int .i64 1))),none,0⟩,
 ⟨(some 5),.mov (.tmp 11),none,0⟩]))))))
 (.seq (.region 0 [] [
 ⟨(some 36),.mov (.tmp 1),none,0⟩,
 ⟨(some 37),.len (.tmp 36),none,0⟩,
 ⟨(some 38),.faddr 3 (.tmp 2),none,0⟩,
 ⟨(some 39),.load none (.tmp 38),none,0⟩,
 ⟨(some 40),.len (.tmp 39),none,0⟩,
 ⟨(some 41),.bin .leq (.tmp 37) (.tmp 40),none,0⟩,
 ⟨(some 4),.mov (.tmp 41),none,0⟩])
 .ret)))⟩
/-- 20 isatis/isatislaw02.to -/
def f20 : AFunc := ⟨8,[.cell 2 (some 2)],false,
 (.seq (.region 2 [] [
 ⟨(some 1),.box (.tmp 0),none,0⟩,
 ⟨(some 2),.alloc [(.int .i64 0),(.int .i64 0)],none,1⟩])
 (.seq (.region 0 [] [
 ⟨(some 3),.faddr 0 (.tmp 1),none,0⟩,
 ⟨(some 4),.load none (.tmp 3),none,0⟩,
 ⟨(some 5),.faddr 1 (.tmp 1),none,0⟩,
 ⟨(some 6),.load none (.tmp 5),none,0⟩,
 ⟨(some 7),.build [(.int .i64 0),(.int .i64 0)] [(0,1,(.tmp 4)),(1,1,(.tmp 6))],none,0⟩,
 ⟨none,.store (some 2) (.tmp 2) (.tmp 7),none,0⟩])
 .ret))⟩
/-- 21 isatis/isatisref02.Worth | loop 0 vars [8] kill 15 makes false -/
def f21 : AFunc := ⟨26,[.cell 6 (some 2)],false,
 (.seq (.region 2 [] [
 ⟨(some 3),.box (.tmp 0),none,0⟩,
 ⟨(some 6),.alloc [(.int .i64 0),(.int .i64 0)],none,1⟩])
 (.seq (.region 1 [] [
 ⟨(some 9),.call 62 true [],none,0⟩,
 ⟨(some 7),.alloc [(.int .i64 0),(.int .i64 0)],none,0⟩,
 ⟨none,.store (some 2) (.tmp 7) (.tmp 9),none,1⟩])
 (.seq (.seq (.region 0 [] [
 ⟨(some 8),.mov (.cst (.c (.int .i64 0))),none,0⟩])
 (.block 0 (.loop ⟨[10,11,12,13,14,15,16,17,18,19,20,21,22,23,24],false,[]⟩
 (.seq (.seq (.region 0 [] [
 ⟨(some 10),.mov (.tmp 8),none,0⟩,
 ⟨(some 11),.mov (.tmp 1),none,0⟩,
 ⟨(some 12),.len (.tmp 11),none,0⟩,
 ⟨(some 13),.bin .lss (.tmp 10) (.tmp 12),none,0⟩])
 (.cond (.tmp 13)
 .skip
 (.exit 0)))
 (.seq (.block 1 (.region 0 [(0,1),(0,2),(1,2),(0,3),(1,3),(2,3),(0,4),(1,4),(0,5),(1,5),(0,6),(1,6),(2,6),(3,6),(4,6),(5,6),(0,7)] [
 ⟨(some 16),.load (some 2) (.tmp 7),none,0⟩,
 ⟨(some 17),.load (some 9) (.tmp 3),none,0⟩,
 ⟨(some 18),.mov (.tmp 1),none,0⟩,
 ⟨(some 19),.mov (.tmp 8),none,0⟩,
 ⟨(some 20),.iaddr 2 (.tmp 18) (.tmp 19),none,0⟩,
 ⟨(some 21),.load (some 2) (.tmp 20),none,0⟩,
 ⟨(some 22),.mov (.tmp 2),none,0⟩,
 ⟨(some 23),.call 37 true [(.tmp 17),(.tmp 21),(.tmp 22)],none,0⟩,
 ⟨(some 24),.call 63 true [(.tmp 16),(.tmp 23)],none,0⟩,
 ⟨none,.store (some 2) (.tmp 7) (.tmp 24),none,0⟩]))
 (.region 0 [] [
 ⟨(some 14),.mov (.tmp 8),none,0⟩,
 ⟨(some 15),.bin .add (.tmp 14) (.cst (.c (.int .i64 1))),none,0⟩,
 ⟨(some 8),.mov (.tmp 15),none,0⟩]))))))
 (.seq (.region 0 [] [
 ⟨(some 25),.load (some 2) (.tmp 7),none,0⟩,
 ⟨none,.store (some 2) (.tmp 6) (.tmp 25),none,0⟩])
 .ret))))⟩
/-- 22 isatis/isatisref02.Bounds | loop 0 vars [10] kill 27 makes true -/
def f22 : AFunc := ⟨46,[.cell 8 (some 5)],false,
 (.seq (.region 2 [] [
 ⟨(some 4),.box (.tmp 0),none,0⟩,
 ⟨(some 8),.alloc [(.int .i64 0),(.int .i64 0),(.int .i64 0),(.int .i64 0),(.int .i64 0)],none,1⟩])
 (.seq (.region 1 [(0,1),(0,2),(1,2),(0,3),(1,3),(2,3),(0,7),(1,7),(2,7),(3,7),(4,7),(5,7),(6,7)] [
 ⟨(some 12),.call 62 true [],none,0⟩,
 ⟨(some 13),.load (some 9) (.tmp 4),none,0⟩,
 ⟨(some 14),.mov (.tmp 2),none,0⟩,
 ⟨(some 15),.mov (.tmp 3),none,0⟩,
 ⟨(some 16),.call 64 true [(.tmp 13),(.tmp 14),(.tmp 15)],none,0⟩,
 ⟨(some 17),.call 62 true [],none,0⟩,
 ⟨(some 18),.build [(.int .i64 0),(.int .i64 0),(.int .i64 0),(.int .i64 0),(.int .i64 0)] [(0,2,(.tmp 12)),(2,1,(.tmp 16)),(3,2,(.tmp 17))],none,0⟩,
 ⟨(some 9),.alloc [(.int .i64 0),(.int .i64 0),(.int .i64 0),(.int .i64 0),(.int .i64 0)],none,0⟩,
 ⟨none,.store (some 5) (.tmp 9) (.tmp 18),none,1⟩])
 (.seq (.seq (.region 0 [] [
 ⟨(some 10),.mov (.cst (.c (.int .i64 0))),none,0⟩])
 (.block 0 (.loop ⟨[11,19,20,21,22,23,24,25,26,27,28,29,30,31,32,33,34,35,36,37,38,39,40,41,42,43,44],true,[]⟩
 (.seq (.seq (.region 0 [] [
 ⟨(some 19),.mov (.tmp 10),none,0⟩,
 ⟨(some 20),.mov (.tmp 1),none,0⟩,
 ⟨(some 21),.len (.tmp 20),none,0⟩,
 ⟨(some 22),.bin .lss (.tmp 19) (.tmp 21),none,0⟩])
 (.cond (.tmp 22)
 .skip
 (.exit 0)))
 (.seq (.block 1 (.seq (.region 1 [(0,1),(0,2),(1,2),(0,3),(0,4),(0,5),(1,5),(2,5),(3,5),(4,5),(0,6),(1,6),(2,6),(3,6),(4,6),(5,6),(0,8),(1,8),(2,8),(3,8),(4,8),(5,8),(6,8),(7,8)] [
 ⟨(some 25),.load (some 9) (.tmp 4),none,0⟩,
 ⟨(some 26),.mov (.tmp 1),none,0⟩,
 ⟨(some 27),.mov (.tmp 10),none,0⟩,
 ⟨(some 28),.iaddr 2 (.tmp 26) (.tmp 27),none,0⟩,
 ⟨(some 29),.load (some 2) (.tmp 28),none,0⟩,
 ⟨(some 30),.mov (.tmp 2),none,0⟩,
 ⟨(some 31),.mov (.tmp 3),none,0⟩,
 ⟨(some 32),.call 38 true [(.tmp 25),(.tmp 29),(.tmp 30),(.tmp 31)],none,0⟩,
 ⟨(some 11),.alloc [(.int .i64 0),(.int .i64 0),(.int .i64 0)],none,0⟩,
 ⟨none,.store (some 3) (.tmp 11) (.tmp 32),none,1⟩])
 (.region 0 [(0,2),(1,2),(0,3),(1,3),(0,5),(1,5),(2,5),(3,5),(4,5),(0,6),(1,6),(2,6),(3,6),(4,6),(0,7),(1,7),(2,7),(3,7),(4,7),(5,7),(6,7),(0,8),(1,8),(2,8),(3,8),(4,8),(5,8),(6,8),(7,10),(8,10),(9,10)] [
 ⟨(some 33),.faddr 0 (.tmp 9),none,0⟩,
 ⟨(some 34),.load (some 2) (.tmp 33),none,0⟩,
 ⟨(some 35),.faddr 0 (.tmp 11),none,0⟩,
 ⟨(some 36),.load none (.tmp 35),none,0⟩,
 ⟨(some 37),.call 63 true [(.tmp 34),(.tmp 36)],none,0⟩,
 ⟨(some 38),.faddr 3 (.tmp 9),none,0⟩,
 ⟨(some 39),.load (some 2) (.tmp 38),none,0⟩,
 ⟨(some 40),.faddr 2 (.tmp 11),none,0⟩,
 ⟨(some 41),.load none (.tmp 40),none,0⟩,
 ⟨(some 42),.call 63 true [(.tmp 39),(.tmp 41)],none,0⟩,
 ⟨(some 43),.faddr 0 (.tmp 9),none,0⟩,
 ⟨none,.store (some 2) (.tmp 43) (.tmp 37),none,0⟩,
 ⟨(some 44),.faddr 3 (.tmp 9),none,0⟩,
 ⟨none,.store (some 2) (.tmp 44) (.tmp 42),none,0⟩])))
 (.region 0 [] [
 ⟨(some 23),.mov (.tmp 10),none,0⟩,
 ⟨(some 24),.bin .add (.tmp 23) (.cst (.c (.int .i64 1))),none,0⟩,
 ⟨(some 10),.mov (.tmp 24),none,0⟩]))))))
 (.seq (.region 0 [] [
 ⟨(some 45),.load (some 5) (.tmp 9),none,0⟩,
 ⟨none,.store (some 5) (.tmp 8) (.tmp 45),none,0⟩])
 .ret))))⟩
/-- 23 isatis/crop.Standing -/
def f23 : AFunc := ⟨21,[.cell 4 (some 2),.tmp 5],false,
 (.seq (.region 3 [] [
 ⟨(some 2),.box (.tmp 0),none,0⟩,
 ⟨(some 3),.box (.tmp 1),none,1⟩,
 ⟨(some 4),.alloc [(.int .i64 0),(.int .i64 0)],none,2⟩,
 ⟨(some 5),.mov (.cst (.c (.int .i64 0))),none,3⟩])
 (.seq (.region 1 [] [
 ⟨(some 9),.load (some 9) (.tmp 2),none,0⟩,
 ⟨(some 10),.mkfn 66 none [(.tmp 3)],none,0⟩,
 ⟨(some 11),.call 65 false [(.tmp 9),(.tmp 10)],none,0⟩,
 ⟨(some 8),.mov (.tmp 11),none,0⟩,
 ⟨(some 12),.extract 0 (.tmp 8),none,0⟩,
 ⟨(some 13),.extract 1 (.tmp 8),none,0⟩,
 ⟨(some 6),.alloc [.nilp],none,0⟩,
 ⟨none,.store none (.tmp 6) (.tmp 12),none,1⟩,
 ⟨(some 7),.mov (.tmp 13),none,1⟩])
 (.seq (.seq (.region 0 [] [
 ⟨(some 14),.mov (.tmp 7),none,0⟩,
 ⟨(some 15),.bin .neq (.tmp 14) (.cst (.c (.int .i64 0))),none,0⟩])
 (.cond (.tmp 15)
 (.seq (.region 0 [] [
 ⟨(some 16),.build [(.int .i64 0),(.int .i64 0)] [],none,0⟩,
 ⟨(some 17),.mov (.tmp 7),none,0⟩,
 ⟨none,.store (some 2) (.tmp 4) (.tmp 16),none,0⟩,
 ⟨(some 5),.mov (.tmp 17),none,0⟩])
 .ret)
 .skip))
 (.seq (.region 0 [] [
 ⟨(some 18),.load none (.tmp 6),none,0⟩,
 ⟨(some 19),.mkfn 68 none [(.tmp 6),(.tmp 3)],none,0⟩,
 ⟨(some 20),.call 59 false [(.tmp 18),(.tmp 19)],none,0⟩,
 ⟨none,.store (some 2) (.tmp 4) (.tmp 20),none,0⟩,
 ⟨(some 5),.mov (.cst (.c (.int .i64 0))),none,0⟩])
 .ret))))⟩
/-- 24 isatis/isatisref02.In -/
def f24 : AFunc := ⟨15,[.tmp 6],false,
 (.seq (.region 0 [] [
 ⟨(some 6),.mov (.cst (.c (.bool false))),none,0⟩])
 (.seq (.region 0 [] [
 ⟨(some 7),.mov (.tmp 0),none,0⟩,
 ⟨(some 8),.mov (.tmp 1),none,0⟩,
 ⟨(some 9),.bin .geq (.tmp 7) (.tmp 8),none,0⟩,
 ⟨(some 10),.mov (.tmp 9),none,0⟩,
 ⟨(some 11),.mov (.tmp 0),some (10,true),0⟩,
 ⟨(some 12),.mov (.tmp 2),some (10,true),0⟩,
 ⟨(some 13),.bin .leq (.tmp 11) (.tmp 12),some (10,true),0⟩,
 ⟨(some 14),.pick (.tmp 10) (.tmp 13) (.cst (.c (.bool false))),none,0⟩,
 ⟨(some 6),.mov (.tmp 14),none,0⟩])
 .ret))⟩
/-- 25 isatis/isatisref02.On | loop 0 vars [8] kill 16 makes false -/
def f25 : AFunc := ⟨27,[.cell 6 (some 2)],false,
 (.seq (.region 2 [] [
 ⟨(some 3),.box (.tmp 0),none,0⟩,
 ⟨(some 6),.alloc [(.int .i64 0),(.int .i64 0)],none,1⟩])
 (.seq (.region 1 [] [
 ⟨(some 9),.call 62 true [],none,0⟩,
 ⟨(some 7),.alloc [(.int .i64 0),(.int .i64 0)],none,0⟩,
 ⟨none,.store (some 2) (.tmp 7) (.tmp 9),none,1⟩])
 (.seq (.seq (.region 0 [] [
 ⟨(some 8),.mov (.cst (.c (.int .i64 0))),none,0⟩])
 (.block 0 (.loop ⟨[10,11,12,13,14,15,16,17,18,19,20,21,22,23,24,25],false,[]⟩
 (.seq (.seq (.region 0 [] [
 ⟨(some 10),.mov (.tmp 8),none,0⟩,
 ⟨(some 11),.mov (.tmp 1),none,0⟩,
 ⟨(some 12),.len (.tmp 11),none,0⟩,
 ⟨(some 13),.bin .lss (.tmp 10) (.tmp 12),none,0⟩])
 (.cond (.tmp 13)
 .skip
 (.exit 0)))
 (.seq (.block 1 (.region 0 [(0,1),(0,2),(1,2),(0,3),(0,4),(0,5),(1,5),(2,5),(3,5),(4,5),(0,6),(1,6),(2,6),(3,6),(4,6),(0,7),(1,7),(2,7),(3,7),(4,7),(5,7),(6,7),(0,8)] [
 ⟨(some 16),.load (some 2) (.tmp 7),none,0⟩,
 ⟨(some 17),.mov (.tmp 1),none,0⟩,
 ⟨(some 18),.mov (.tmp 8),none,0⟩,
 ⟨(some 19),.iaddr 2 (.tmp 17) (.tmp 18),none,0⟩,
 ⟨(some 20),.load (some 2) (.tmp 19),none,0⟩,
 ⟨(some 21),.faddr 4 (.tmp 3),none,0⟩,
 ⟨(some 22),.load none (.tmp 21),none,0⟩,
 ⟨(some 23),.mov (.tmp 2),none,0⟩,
 ⟨(some 24),.call 47 true [(.tmp 20),(.tmp 22),(.tmp 23)],none,0⟩,
 ⟨(some 25),.call 63 true [(.tmp 16),(.tmp 24)],none,0⟩,
 ⟨none,.store (some 2) (.tmp 7) (.tmp 25),none,0⟩]))
 (.region 0 [] [
 ⟨(some 14),.mov (.tmp 8),none,0⟩,
 ⟨(some 15),.bin .add (.tmp 14) (.cst (.c (.int .i64 1))),none,0⟩,
 ⟨(some 8),.mov (.tmp 15),none,0⟩]))))))
 (.seq (.region 0 [] [
 ⟨(some 26),.load (some 2) (.tmp 7),none,0⟩,
 ⟨none,.store (some 2) (.tmp 6) (.tmp 26),none,0⟩])
 .ret))))⟩
/-- 26 isatis/crop.Best -/
def f26 : AFunc := ⟨35,[.cell 2 none,.cell 3 none,.tmp 4],false,
 (.seq (.region 3 [] [
 ⟨(some 1),.box (.tmp 0),none,0⟩,
 ⟨(some 2),.alloc [.nils],none,1⟩,
 ⟨(some 3),.alloc [(.int .i64 0)],none,2⟩,
 ⟨(some 4),.mov (.cst (.c (.int .i64 0))),none,3⟩])
 (.seq (.region 1 [] [
 ⟨(some 10),.load (some 9) (.tmp 1),none,0⟩,
 ⟨(some 11),.call 54 false [(.tmp 10),(.cst (.c .nils))],none,0⟩,
 ⟨(some 9),.mov (.tmp 11),none,0⟩,
 ⟨(some 12),.extract 0 (.tmp 9),none,0⟩,
 ⟨(some 13),.extract 1 (.tmp 9),none,0⟩,
 ⟨(some 5),.alloc [.nilp],none,0⟩,
 ⟨none,.store none (.tmp 5) (.tmp 12),none,1⟩,
 ⟨(some 4),.mov (.tmp 13),none,1⟩])
 (.seq (.seq (.region 0 [] [
 ⟨(some 14),.mov (.tmp 4),none,0⟩,
 ⟨(some 15),.bin .neq (.tmp 14) (.cst (.c (.int .i64 0))),none,0⟩])
 (.cond (.tmp 15)
 (.seq (.region 0 [] [
 ⟨(some 16),.mov (.tmp 4),none,0⟩,
 ⟨none,.store none (.tmp 2) (.cst (.c .nils)),none,0⟩,
 ⟨none,.store none (.tmp 3) (.cst (.c (.int .i64 0))),none,0⟩,
 ⟨(some 4),.mov (.tmp 16),none,0⟩])
 .ret)
 .skip))
 (.seq (.region 1 [] [
 ⟨(some 6),.alloc [.nils],none,0⟩])
 (.seq (.seq (.region 0 [] [
 ⟨(some 17),.load none (.tmp 5),none,0⟩,
 ⟨(some 18),.call 70 false [(.tmp 17),(.cst (.c .nils))],none,0⟩])
 (.block 0 (.range (.tmp 18) [19]
 (.region 1 [] [
 ⟨(some 7),.alloc [.nils,.nils],none,0⟩,
 ⟨none,.store (some 2) (.tmp 7) (.tmp 19),none,1⟩])
 (.block 1 (.region 4 [(0,1),(0,2),(0,3),(0,4),(1,4),(2,4),(3,4),(0,5),(1,5),(2,5),(3,5),(0,6),(0,7),(0,8)] [
 ⟨(some 20),.load none (.tmp 6),none,0⟩,
 ⟨(some 21),.faddr 0 (.tmp 7),none,0⟩,
 ⟨(some 22),.load none (.tmp 21),none,0⟩,
 ⟨(some 23),.clone 71 1 8 (.tmp 22),none,0⟩,
 ⟨(some 24),.faddr 1 (.tmp 7),none,1⟩,
 ⟨(some 25),.load none (.tmp 24),none,1⟩,
 ⟨(some 26),.clone 71 1 8 (.tmp 25),none,1⟩,
 ⟨(some 27),.build [.nils,.nils] [(0,1,(.tmp 23)),(1,1,(.tmp 26))],none,2⟩,
 ⟨(some 28),.bslice 2 1 [.nils,.nils] [(0,(.tmp 27))],none,2⟩,
 ⟨(some 29),.append 2 48 (.tmp 20) (.tmp 28),none,3⟩,
 ⟨none,.store none (.tmp 6) (.tmp 29),none,4⟩])))))
 (.seq (.region 1 [] [
 ⟨(some 8),.alloc [.nilfn],none,0⟩])
 (.seq (.region 0 [] [
 ⟨(some 30),.mkfn 72 none [(.tmp 5),(.tmp 6),(.tmp 3),(.tmp 2),(.tmp 1),(.tmp 8)],none,0⟩,
 ⟨none,.store none (.tmp 8) (.tmp 30),none,0⟩])
 (.seq (.region 0 [] [
 ⟨(some 31),.load none (.tmp 8),none,0⟩,
 ⟨(some 32),.callv (.tmp 31) [(.cst (.c .nils)),(.cst (.c (.int .i64 0)))],none,0⟩])
 (.seq (.region 0 [(0,1),(1,2)] [
 ⟨(some 33),.load none (.tmp 2),none,0⟩,
 ⟨(some 34),.load none (.tmp 3),none,0⟩,
 ⟨none,.store none (.tmp 2) (.tmp 33),none,0⟩,
 ⟨none,.store none (.tmp 3) (.tmp 34),none,0⟩,
 ⟨(some 4),.mov (.cst (.c (.int .i64 0))),none,0⟩])
 .ret)))))))))⟩
/-- 27 isatis/isatisref02.Best | loop 0 vars [6,7,8] kill 38 makes false -/
def f27 : AFunc := ⟨53,[.tmp 4,.tmp 5],false,
 (.seq (.region 1 [] [
 ⟨(some 2),.box (.tmp 0),none,0⟩,
 ⟨(some 4),.mov (.cst (.c .nils)),none,1⟩,
 ⟨(some 5),.mov (.cst (.c (.int .i64 0))),none,1⟩])
 (.seq (.region 0 [] [
 ⟨(some 6),.mov (.cst (.c .nils)),none,0⟩])
 (.seq (.region 0 [] [
 ⟨(some 11),.load (some 9) (.tmp 2),none,0⟩,
 ⟨(some 12),.mov (.tmp 1),none,0⟩,
 ⟨(some 13),.call 21 true [(.tmp 11),(.tmp 12),(.cst (.c .nils))],none,0⟩,
 ⟨(some 14),.fld 0 none (.tmp 13),none,0⟩,
 ⟨(some 7),.mov (.tmp 14),none,0⟩])
 (.seq (.seq (.region 0 [] [
 ⟨(some 8),.mov (.cst (.c (.int .i64 1))),none,0⟩])
 (.block 0 (.loop ⟨[9,10,15,16,17,18,19,20,21,22,23,24,25,26,27,28,29,30,31,32,33,34,35,36,37,38,39,40,41,42,43,44,45,46,47,48,49,50],false,[]⟩
 (.seq (.seq (.region 0 [] [
 ⟨(some 15),.mov (.tmp 8),none,0⟩,
 ⟨(some 16),.faddr 0 (.tmp 2),none,0⟩,
 ⟨(some 17),.load none (.tmp 16),none,0⟩,
 ⟨(some 18),.conv .u64 (.tmp 17),none,0⟩,
 ⟨(some 19),.bin .shl (.cst (.c (.int .i64 2))) (.tmp 18),none,0⟩,
 ⟨(some 20),.bin .lss (.tmp 15) (.tmp 19),none,0⟩])
 (.cond (.tmp 20)
 .skip
 (.exit 0)))
 (.seq (.block 1 (.seq (.region 0 [] [
 ⟨(some 23),.mov (.tmp 8),none,0⟩,
 ⟨(some 24),.call 74 true [(.tmp 23)],none,0⟩,
 ⟨(some 9),.mov (.tmp 24),none,0⟩])
 (.seq (.seq (.region 0 [] [
 ⟨(some 25),.mov (.tmp 9),none,0⟩,
 ⟨(some 26),.len (.tmp 25),none,0⟩,
 ⟨(some 27),.faddr 3 (.tmp 2),none,0⟩,
 ⟨(some 28),.load none (.tmp 27),none,0⟩,
 ⟨(some 29),.len (.tmp 28),none,0⟩,
 ⟨(some 30),.bin .gtr (.tmp 26) (.tmp 29),none,0⟩])
 (.cond (.tmp 30)
 (.exit 1)
 .skip))
 (.seq (.region 0 [] [
 ⟨(some 31),.load (some 9) (.tmp 2),none,0⟩,
 ⟨(some 32),.mov (.tmp 1),none,0⟩,
 ⟨(some 33),.mov (.tmp 9),none,0⟩,
 ⟨(some 34),.call 21 true [(.tmp 31),(.tmp 32),(.tmp 33)],none,0⟩,
 ⟨(some 35),.fld 0 none (.tmp 34),none,0⟩,
 ⟨(some 10),.mov (.tmp 35),none,0⟩])
 (.seq (.region 0 [] [
 ⟨(some 36),.mov (.tmp 10),none,0⟩,
 ⟨(some 37),.mov (.tmp 7),none,0⟩,
 ⟨(some 38),.bin .gtr (.tmp 36) (.tmp 37),none,0⟩,
 ⟨(some 39),.mov (.tmp 38),none,0⟩,
 ⟨(some 40),.mov (.tmp 10),some (39,false),0⟩,
 ⟨(some 41),.mov (.tmp 7),some (39,false),0⟩,
 ⟨(some 42),.bin .eql (.tmp 40) (.tmp 41),some (39,false),0⟩,
 ⟨(some 43),.mov (.tmp 42),some (39,false),0⟩,
 ⟨(some 44),.mov (.tmp 9),some (43,true),0⟩,
 ⟨(some 45),.mov (.tmp 6),some (43,true),0⟩,
 ⟨(some 46),.call 48 true [(.tmp 44),(.tmp 45)],some (43,true),0⟩,
 ⟨(some 47),.pick (.tmp 43) (.tmp 46) (.cst (.c (.bool false))),some (39,false),0⟩,
 ⟨(some 48),.pick (.tmp 39) (.cst (.c (.bool true))) (.tmp 47),none,0⟩])
 (.cond (.tmp 48)
 (.region 0 [] [
 ⟨(some 49),.mov (.tmp 9),none,0⟩,
 ⟨(some 50),.mov (.tmp 10),none,0⟩,
 ⟨(some 6),.mov (.tmp 49),none,0⟩,
 ⟨(some 7),.mov (.tmp 50),none,0⟩])
 .skip))))))
 (.region 0 [] [
 ⟨(some 21),.mov (.tmp 8),none,0⟩,
 ⟨(some 22),.bin .add (.tmp 21) (.cst (.c (.int .i64 1))),none,0⟩,
 ⟨(some 8),.mov (.tmp 22),none,0⟩]))))))
 (.seq (.region 0 [] [
 ⟨(some 51),.mov (.tmp 6),none,0⟩,
 ⟨(some 52),.mov (.tmp 7),none,0⟩,
 ⟨(some 4),.mov (.tmp 51),none,0⟩,
 ⟨(some 5),.mov (.tmp 52),none,0⟩])
 .ret)))))⟩
/-- 28 isatis/isatislaw02.ints | loop 0 vars [5] kill 16 makes false -/
def f28 : AFunc := ⟨26,[.tmp 4],false,
 (.seq (.region 0 [] [
 ⟨(some 4),.mov (.cst (.c (.bool false))),none,0⟩])
 (.seq (.seq (.region 0 [] [
 ⟨(some 6),.mov (.tmp 0),none,0⟩,
 ⟨(some 7),.len (.tmp 6),none,0⟩,
 ⟨(some 8),.mov (.tmp 1),none,0⟩,
 ⟨(some 9),.len (.tmp 8),none,0⟩,
 ⟨(some 10),.bin .neq (.tmp 7) (.tmp 9),none,0⟩])
 (.cond (.tmp 10)
 (.seq (.region 0 [] [
 ⟨(some 4),.mov (.cst (.c (.bool false))),none,0⟩])
 .ret)
 .skip))
 (.seq (.seq (.region 0 [] [
 ⟨(some 5),.mov (.cst (.c (.int .i64 0))),none,0⟩])
 (.block 0 (.loop ⟨[4,11,12,13,14,15,16,17,18,19,20,21,22,23,24,25],false,[]⟩
 (.seq (.seq (.region 0 [] [
 ⟨(some 11),.mov (.tmp 5),none,0⟩,
 ⟨(some 12),.mov (.tmp 0),none,0⟩,
 ⟨(some 13),.len (.tmp 12),none,0⟩,
 ⟨(some 14),.bin .lss (.tmp 11) (.tmp 13),none,0⟩])
 (.cond (.tmp 14)
 .skip
 (.exit 0)))
 (.seq (.block 1 (.seq (.region 0 [(0,1),(0,4),(1,4),(2,4),(3,4),(0,5),(1,5),(2,5),(3,5),(4,5),(0,6),(1,6),(2,6),(3,6),(0,7),(1,7),(2,7),(3,7)] [
 ⟨(some 17),.mov (.tmp 0),none,0⟩,
 ⟨(some 18),.mov (.tmp 5),none,0⟩,
 ⟨(some 19),.iaddr 1 (.tmp 17) (.tmp 18),none,0⟩,
 ⟨(some 20),.load none (.tmp 19),none,0⟩,
 ⟨(some 21),.mov (.tmp 1),none,0⟩,
 ⟨(some 22),.mov (.tmp 5),none,0⟩,
 ⟨(some 23),.iaddr 1 (.tmp 21) (.tmp 22),none,0⟩,
 ⟨(some 24),.load none (.tmp 23),none,0⟩,
 ⟨(some 25),.bin .neq (.tmp 20) (.tmp 24),none,0⟩])
 (.cond (.tmp 25)
 (.seq (.region 0 [] [
 ⟨(some 4),.mov (.cst (.c (.bool false))),none,0⟩])
 .ret)
 .skip)))
 (.region 0 [] [
 ⟨(some 15),.mov (.tmp 5),none,0⟩,
 ⟨(some 16),.bin .add (.tmp 15) (.cst (.c (.int .i64 1))),none,0⟩,
 ⟨(some 5),.mov (.tmp 16),none,0⟩]))))))
 (.seq (.region 0 [] [
 ⟨(some 4),.mov (.cst (.c (.bool true))),none,0⟩])
 .ret))))⟩
/-- 29 isatis/crop.First | loop 0 vars [17] kill 19 makes true -/
def f29 : AFunc := ⟨34,[.tmp 2,.tmp 3],false,
 (.seq (.region 1 [] [
 ⟨(some 1),.box (.tmp 0),none,0⟩,
 ⟨(some 2),.mov (.cst (.c (.int .i64 0))),none,1⟩,
 ⟨(some 3),.mov (.cst (.c (.int .i64 0))),none,1⟩])
 (.seq (.seq (.region 0 [] [
 ⟨(some 7),.load (some 9) (.tmp 1),none,0⟩,
 ⟨(some 8),.call 75 true [(.tmp 7)],none,0⟩,
 ⟨(some 4),.mov (.tmp 8),none,0⟩])
 (.seq (.region 0 [] [
 ⟨(some 9),.mov (.tmp 4),none,0⟩,
 ⟨(some 10),.bin .neq (.tmp 9) (.cst (.c (.int .i64 0))),none,0⟩])
 (.cond (.tmp 10)
 (.seq (.region 0 [] [
 ⟨(some 11),.mov (.tmp 4),none,0⟩,
 ⟨(some 2),.mov (.cst (.c (.int .i64 0))),none,0⟩,
 ⟨(some 3),.mov (.tmp 11),none,0⟩])
 .ret)
 .skip)))
 (.seq (.region 0 [] [
 ⟨(some 12),.load (some 9) (.tmp 1),none,0⟩,
 ⟨(some 13),.call 76 false [(.tmp 12)],none,0⟩,
 ⟨(some 5),.mov (.tmp 13),none,0⟩])
 (.seq (.seq (.region 0 [] [
 ⟨(some 14),.faddr 8 (.tmp 1),none,0⟩,
 ⟨(some 15),.load none (.tmp 14),none,0⟩,
 ⟨(some 16),.len (.tmp 15),none,0⟩,
 ⟨(some 17),.mov (.cst (.c (.int .i64 0))),none,0⟩])
 (.block 0 (.loop ⟨[2,3,6,18,19,20,21,22,23,24,25,26,27,28,29,30,31,32,33],false,[]⟩
 (.seq (.region 0 [] [
 ⟨(some 18),.bin .lss (.tmp 17) (.tmp 16),none,0⟩])
 (.seq (.cond (.tmp 18)
 .skip
 (.exit 0))
 (.seq (.block 1 (.seq (.region 0 [] [
 ⟨(some 19),.mov (.tmp 17),none,0⟩,
 ⟨(some 6),.mov (.tmp 19),none,0⟩])
 (.seq (.region 0 [] [
 ⟨(some 20),.mov (.tmp 5),none,0⟩,
 ⟨(some 21),.faddr 8 (.tmp 1),none,0⟩,
 ⟨(some 22),.load none (.tmp 21),none,0⟩,
 ⟨(some 23),.mov (.tmp 6),none,0⟩,
 ⟨(some 24),.bin .add (.tmp 23) (.cst (.c (.int .i64 1))),none,0⟩,
 ⟨(some 25),.slice 3 (.tmp 22) none (some (.tmp 24)),none,0⟩,
 ⟨(some 26),.nilchk (.tmp 20),none,0⟩,
 ⟨(some 27),.faddr 0 (.tmp 26),none,0⟩,
 ⟨(some 28),.faddr 8 (.tmp 27),none,0⟩,
 ⟨none,.store none (.tmp 28) (.tmp 25),none,0⟩])
 (.seq (.region 0 [] [
 ⟨(some 29),.mov (.tmp 5),none,0⟩,
 ⟨(some 30),.call 77 false [(.tmp 29),(.cst (.c .nils))],none,0⟩,
 ⟨(some 31),.not (.tmp 30),none,0⟩])
 (.cond (.tmp 31)
 (.seq (.region 0 [] [
 ⟨(some 32),.mov (.tmp 6),none,0⟩,
 ⟨(some 2),.mov (.tmp 32),none,0⟩,
 ⟨(some 3),.mov (.cst (.c (.int .i64 0))),none,0⟩])
 .ret)
 .skip)))))
 (.region 0 [] [
 ⟨(some 33),.bin .add (.tmp 17) (.cst (.c (.int .i64 1))),none,0⟩,
 ⟨(some 17),.mov (.tmp 33),none,0⟩])))))))
 (.seq (.region 0 [] [
 ⟨(some 2),.mov (.cst (.c (.int .i64 0))),none,0⟩,
 ⟨(some 3),.mov (.cst (.c (.int .i64 7))),none,0⟩])
 .ret)))))⟩
/-- 30 isatis/crop.Leave | loop 0 vars [21] kill 7 makes true -/
def f30 : AFunc := ⟨29,[.tmp 2,.tmp 3],false,
 (.seq (.region 1 [] [
 ⟨(some 1),.box (.tmp 0),none,0⟩,
 ⟨(some 2),.mov (.cst (.c .nils)),none,1⟩,
 ⟨(some 3),.mov (.cst (.c (.int .i64 0))),none,1⟩])
 (.seq (.seq (.region 0 [] [
 ⟨(some 9),.load (some 9) (.tmp 1),none,0⟩,
 ⟨(some 10),.call 75 true [(.tmp 9)],none,0⟩,
 ⟨(some 4),.mov (.tmp 10),none,0⟩])
 (.seq (.region 0 [] [
 ⟨(some 11),.mov (.tmp 4),none,0⟩,
 ⟨(some 12),.bin .neq (.tmp 11) (.cst (.c (.int .i64 0))),none,0⟩])
 (.cond (.tmp 12)
 (.seq (.region 0 [] [
 ⟨(some 13),.mov (.tmp 4),none,0⟩,
 ⟨(some 2),.mov (.cst (.c .nils)),none,0⟩,
 ⟨(some 3),.mov (.tmp 13),none,0⟩])
 .ret)
 .skip)))
 (.seq (.region 1 [] [
 ⟨(some 14),.load (some 9) (.tmp 1),none,0⟩,
 ⟨(some 15),.call 76 false [(.tmp 14)],none,0⟩,
 ⟨(some 5),.alloc [.nilp],none,0⟩,
 ⟨none,.store none (.tmp 5) (.tmp 15),none,1⟩])
 (.seq (.region 1 [] [
 ⟨(some 6),.alloc [.nils],none,0⟩])
 (.seq (.region 1 [] [
 ⟨(some 7),.alloc [.nilfn],none,0⟩])
 (.seq (.region 0 [] [
 ⟨(some 16),.mkfn 78 none [(.tmp 6),(.tmp 5),(.tmp 1),(.tmp 7)],none,0⟩,
 ⟨none,.store none (.tmp 7) (.tmp 16),none,0⟩])
 (.seq .skip
 (.seq (.seq (.region 0 [] [
 ⟨(some 17),.faddr 8 (.tmp 1),none,0⟩,
 ⟨(some 18),.load none (.tmp 17),none,0⟩,
 ⟨(some 19),.len (.tmp 18),none,0⟩,
 ⟨(some 20),.bin .add (.tmp 19) (.cst (.c (.int .i64 1))),none,0⟩,
 ⟨(some 21),.mov (.cst (.c (.int .i64 0))),none,0⟩])
 (.block 0 (.loop ⟨[8,22,23,24,25,26,27],false,[]⟩
 (.seq (.region 0 [] [
 ⟨(some 22),.bin .lss (.tmp 21) (.tmp 20),none,0⟩])
 (.seq (.cond (.tmp 22)
 .skip
 (.exit 0))
 (.seq (.block 1 (.seq (.region 0 [] [
 ⟨(some 23),.mov (.tmp 21),none,0⟩,
 ⟨(some 8),.mov (.tmp 23),none,0⟩])
 (.seq (.region 0 [] [
 ⟨(some 24),.load none (.tmp 7),none,0⟩,
 ⟨(some 25),.mov (.tmp 8),none,0⟩,
 ⟨(some 26),.callv (.tmp 24) [(.cst (.c .nils)),(.cst (.c (.int .i64 0))),(.tmp 25)],none,0⟩])
 (.cond (.tmp 26)
 (.exit 0)
 .skip))))
 (.region 0 [] [
 ⟨(some 27),.bin .add (.tmp 21) (.cst (.c (.int .i64 1))),none,0⟩,
 ⟨(some 21),.mov (.tmp 27),none,0⟩])))))))
 (.seq (.region 0 [] [
 ⟨(some 28),.load none (.tmp 6),none,0⟩,
 ⟨(some 2),.mov (.tmp 28),none,0⟩,
 ⟨(some 3),.mov (.cst (.c (.int .i64 0))),none,0⟩])
 .ret)))))))))⟩
/-- 31 isatis/isatisref02.All | loop 0 vars [3,4] kill 34 makes true reify [(3,(none,1))] | loop 2 vars [5,6] kill 22 makes false -/
def f31 : AFunc := ⟨40,[.tmp 2],false,
 (.seq (.region 1 [] [
 ⟨(some 1),.box (.tmp 0),none,0⟩,
 ⟨(some 2),.mov (.cst (.c .nils)),none,1⟩])
 (.seq (.region 0 [] [
 ⟨(some 3),.mov (.cst (.c .nils)),none,0⟩])
 (.seq (.seq (.region 0 [] [
 ⟨(some 4),.mov (.cst (.c (.int .i64 0))),none,0⟩])
 (.block 0 (.loop ⟨[5,6,7,8,9,10,11,12,13,14,15,16,17,18,19,20,21,22,23,24,25,26,27,28,29,30,31,32,33,34,35,36,37,38],true,[(3,none,1)]⟩
 (.seq (.seq (.region 0 [] [
 ⟨(some 7),.mov (.tmp 4),none,0⟩,
 ⟨(some 8),.load (some 9) (.tmp 1),none,0⟩,
 ⟨(some 9),.call 50 true [(.tmp 8)],none,0⟩,
 ⟨(some 10),.bin .lss (.tmp 7) (.tmp 9),none,0⟩])
 (.cond (.tmp 10)
 .skip
 (.exit 0)))
 (.seq (.block 1 (.seq (.region 0 [] [
 ⟨(some 5),.mov (.cst (.c (.int .i64 0))),none,0⟩])
 (.seq (.seq (.region 0 [] [
 ⟨(some 6),.mov (.cst (.c (.int .i64 0))),none,0⟩])
 (.block 2 (.loop ⟨[13,14,15,16,17,18,19,20,21,22,23,24,25,26,27,28,29,30,31,32,33,34],false,[]⟩
 (.seq (.seq (.region 0 [] [
 ⟨(some 13),.mov (.tmp 6),none,0⟩,
 ⟨(some 14),.faddr 8 (.tmp 1),none,0⟩,
 ⟨(some 15),.load none (.tmp 14),none,0⟩,
 ⟨(some 16),.len (.tmp 15),none,0⟩,
 ⟨(some 17),.bin .lss (.tmp 13) (.tmp 16),none,0⟩])
 (.cond (.tmp 17)
 .skip
 (.exit 2)))
 (.seq (.block 3 (.seq (.region 0 [(0,1),(0,2),(1,2),(0,3),(0,4),(1,4),(2,4),(3,4),(0,5),(1,5),(2,5),(3,5),(0,6),(1,6),(2,6),(3,6),(4,6),(5,6),(0,7),(1,7),(2,7),(3,7),(0,8),(1,8),(2,8),(3,8)] [
 ⟨(some 20),.load (some 9) (.tmp 1),none,0⟩,
 ⟨(some 21),.load (some 9) (.tmp 1),none,0⟩,
 ⟨(some 22),.mov (.tmp 4),none,0⟩,
 ⟨(some 23),.call 80 true [(.tmp 21),(.tmp 22)],none,0⟩,
 ⟨(some 24),.faddr 8 (.tmp 1),none,0⟩,
 ⟨(some 25),.load none (.tmp 24),none,0⟩,
 ⟨(some 26),.mov (.tmp 6),none,0⟩,
 ⟨(some 27),.iaddr 3 (.tmp 25) (.tmp 26),none,0⟩,
 ⟨(some 28),.load (some 3) (.tmp 27),none,0⟩,
 ⟨(some 29),.call 79 true [(.tmp 20),(.tmp 23),(.tmp 28)],none,0⟩])
 (.cond (.tmp 29)
 (.region 0 [] [
 ⟨(some 30),.mov (.tmp 5),none,0⟩,
 ⟨(some 31),.mov (.tmp 6),none,0⟩,
 ⟨(some 32),.conv .u64 (.tmp 31),none,0⟩,
 ⟨(some 33),.bin .shl (.cst (.c (.int .i64 1))) (.tmp 32),none,0⟩,
 ⟨(some 34),.bin .or (.tmp 30) (.tmp 33),none,0⟩,
 ⟨(some 5),.mov (.tmp 34),none,0⟩])
 .skip)))
 (.region 0 [] [
 ⟨(some 18),.mov (.tmp 6),none,0⟩,
 ⟨(some 19),.bin .add (.tmp 18) (.cst (.c (.int .i64 1))),none,0⟩,
 ⟨(some 6),.mov (.tmp 19),none,0⟩]))))))
 (.region 2 [] [
 ⟨(some 35),.mov (.tmp 3),none,0⟩,
 ⟨(some 36),.mov (.tmp 5),none,0⟩,
 ⟨(some 37),.bslice 1 1 [(.int .i64 0)] [(0,(.tmp 36))],none,0⟩,
 ⟨(some 38),.append 1 8 (.tmp 35) (.tmp 37),none,1⟩,
 ⟨(some 3),.mov (.tmp 38),none,2⟩]))))
 (.region 0 [] [
 ⟨(some 11),.mov (.tmp 4),none,0⟩,
 ⟨(some 12),.bin .add (.tmp 11) (.cst (.c (.int .i64 1))),none,0⟩,
 ⟨(some 4),.mov (.tmp 12),none,0⟩]))))))
 (.seq (.region 0 [] [
 ⟨(some 39),.mov (.tmp 3),none,0⟩,
 ⟨(some 2),.mov (.tmp 39),none,0⟩])
 .ret))))⟩
/-- 32 isatis/isatisref02.Leave | loop 0 vars [5,6] kill 21 makes false -/
def f32 : AFunc := ⟨32,[.tmp 4],false,
 (.seq (.region 1 [] [
 ⟨(some 2),.box (.tmp 0),none,0⟩,
 ⟨(some 4),.mov (.cst (.c .nils)),none,1⟩])
 (.seq (.region 0 [] [
 ⟨(some 8),.load (some 9) (.tmp 2),none,0⟩,
 ⟨(some 9),.call 81 true [(.tmp 8)],none,0⟩,
 ⟨(some 10),.call 74 true [(.tmp 9)],none,0⟩,
 ⟨(some 5),.mov (.tmp 10),none,0⟩])
 (.seq (.seq (.region 0 [] [
 ⟨(some 6),.mov (.cst (.c (.int .i64 0))),none,0⟩])
 (.block 0 (.loop ⟨[7,11,12,13,14,15,16,17,18,19,20,21,22,23,24,25,26,27,28,29,30],false,[]⟩
 (.seq (.seq (.region 0 [] [
 ⟨(some 11),.mov (.tmp 6),none,0⟩,
 ⟨(some 12),.load (some 9) (.tmp 2),none,0⟩,
 ⟨(some 13),.call 81 true [(.tmp 12)],none,0⟩,
 ⟨(some 14),.bin .leq (.tmp 11) (.tmp 13),none,0⟩])
 (.cond (.tmp 14)
 .skip
 (.exit 0)))
 (.seq (.block 1 (.seq (.region 0 [] [
 ⟨(some 17),.mov (.tmp 6),none,0⟩,
 ⟨(some 18),.call 74 true [(.tmp 17)],none,0⟩,
 ⟨(some 7),.mov (.tmp 18),none,0⟩])
 (.seq (.region 0 [] [
 ⟨(some 19),.mov (.tmp 7),none,0⟩,
 ⟨(some 20),.mov (.tmp 5),none,0⟩,
 ⟨(some 21),.call 82 true [(.tmp 19),(.tmp 20)],none,0⟩,
 ⟨(some 22),.mov (.tmp 21),none,0⟩,
 ⟨(some 23),.mov (.tmp 1),some (22,true),0⟩,
 ⟨(some 24),.load (some 9) (.tmp 2),some (22,true),0⟩,
 ⟨(some 25),.call 81 true [(.tmp 24)],some (22,true),0⟩,
 ⟨(some 26),.mov (.tmp 6),some (22,true),0⟩,
 ⟨(some 27),.bin .andn (.tmp 25) (.tmp 26),some (22,true),0⟩,
 ⟨(some 28),.call 83 true [(.tmp 23),(.tmp 27)],some (22,true),0⟩,
 ⟨(some 29),.pick (.tmp 22) (.tmp 28) (.cst (.c (.bool false))),none,0⟩])
 (.cond (.tmp 29)
 (.region 0 [] [
 ⟨(some 30),.mov (.tmp 7),none,0⟩,
 ⟨(some 5),.mov (.tmp 30),none,0⟩])
 .skip))))
 (.region 0 [] [
 ⟨(some 15),.mov (.tmp 6),none,0⟩,
 ⟨(some 16),.bin .add (.tmp 15) (.cst (.c (.int .i64 1))),none,0⟩,
 ⟨(some 6),.mov (.tmp 16),none,0⟩]))))))
 (.seq (.region 0 [] [
 ⟨(some 31),.mov (.tmp 5),none,0⟩,
 ⟨(some 4),.mov (.tmp 31),none,0⟩])
 .ret))))⟩
/-- 33 isatis/isatisref02.First | loop 0 vars [5] kill 16 makes false -/
def f33 : AFunc := ⟨21,[.tmp 4],false,
 (.seq (.region 1 [] [
 ⟨(some 2),.box (.tmp 0),none,0⟩,
 ⟨(some 4),.mov (.cst (.c (.int .i64 0))),none,1⟩])
 (.seq (.seq (.region 0 [] [
 ⟨(some 5),.mov (.cst (.c (.int .i64 0))),none,0⟩])
 (.block 0 (.loop ⟨[4,6,7,8,9,10,11,12,13,14,15,16,17,18,19,20],false,[]⟩
 (.seq (.seq (.region 0 [] [
 ⟨(some 6),.mov (.tmp 5),none,0⟩,
 ⟨(some 7),.faddr 8 (.tmp 2),none,0⟩,
 ⟨(some 8),.load none (.tmp 7),none,0⟩,
 ⟨(some 9),.len (.tmp 8),none,0⟩,
 ⟨(some 10),.bin .lss (.tmp 6) (.tmp 9),none,0⟩])
 (.cond (.tmp 10)
 .skip
 (.exit 0)))
 (.seq (.block 1 (.seq (.region 0 [] [
 ⟨(some 13),.mov (.tmp 1),none,0⟩,
 ⟨(some 14),.mov (.tmp 5),none,0⟩,
 ⟨(some 15),.conv .u64 (.tmp 14),none,0⟩,
 ⟨(some 16),.bin .shl (.cst (.c (.int .i64 2))) (.tmp 15),none,0⟩,
 ⟨(some 17),.bin .sub (.tmp 16) (.cst (.c (.int .i64 1))),none,0⟩,
 ⟨(some 18),.call 83 true [(.tmp 13),(.tmp 17)],none,0⟩,
 ⟨(some 19),.not (.tmp 18),none,0⟩])
 (.cond (.tmp 19)
 (.seq (.region 0 [] [
 ⟨(some 20),.mov (.tmp 5),none,0⟩,
 ⟨(some 4),.mov (.tmp 20),none,0⟩])
 .ret)
 .skip)))
 (.region 0 [] [
 ⟨(some 11),.mov (.tmp 5),none,0⟩,
 ⟨(some 12),.bin .add (.tmp 11) (.cst (.c (.int .i64 1))),none,0⟩,
 ⟨(some 5),.mov (.tmp 12),none,0⟩]))))))
 (.seq (.region 0 [] [
 ⟨(some 4),.mov (.cst (.c (.int .i64 (-1)))),none,0⟩])
 .ret)))⟩
/-- 34 isatis/isatislaw02.ready -/
def f34 : AFunc := ⟨10,[.tmp 2],false,
 (.seq (.region 1 [] [
 ⟨(some 1),.box (.tmp 0),none,0⟩,
 ⟨(some 2),.mov (.cst (.c (.bool false))),none,1⟩])
 (.seq (.region 0 [] [
 ⟨(some 3),.load (some 9) (.tmp 1),none,0⟩,
 ⟨(some 4),.call 11 true [(.tmp 3)],none,0⟩,
 ⟨(some 5),.mov (.tmp 4),none,0⟩,
 ⟨(some 6),.load (some 9) (.tmp 1),some (5,true),0⟩,
 ⟨(some 7),.call 49 true [(.tmp 6)],some (5,true),0⟩,
 ⟨(some 8),.bin .eql (.tmp 7) (.cst (.c (.int .i64 0))),some (5,true),0⟩,
 ⟨(some 9),.pick (.tmp 5) (.tmp 8) (.cst (.c (.bool false))),none,0⟩,
 ⟨(some 2),.mov (.tmp 9),none,0⟩])
 .ret))⟩
/-- 35 isatis/isatislaw02.planned -/
def f35 : AFunc := ⟨23,[.tmp 4],false,
 (.seq (.region 1 [] [
 ⟨(some 2),.box (.tmp 0),none,0⟩,
 ⟨(some 4),.mov (.cst (.c .nils)),none,1⟩])
 (.seq (.region 0 [] [
 ⟨(some 6),.mov (.tmp 1),none,0⟩,
 ⟨(some 7),.conv .i64 (.tmp 6),none,0⟩,
 ⟨(some 8),.faddr 0 (.tmp 2),none,0⟩,
 ⟨(some 9),.load none (.tmp 8),none,0⟩,
 ⟨(some 10),.conv .u64 (.tmp 9),none,0⟩,
 ⟨(some 11),.bin .shl (.cst (.c (.int .i64 2))) (.tmp 10),none,0⟩,
 ⟨(some 12),.bin .sub (.tmp 11) (.cst (.c (.int .i64 1))),none,0⟩,
 ⟨(some 13),.bin .and (.tmp 7) (.tmp 12),none,0⟩,
 ⟨(some 14),.call 74 true [(.tmp 13)],none,0⟩,
 ⟨(some 5),.mov (.tmp 14),none,0⟩])
 (.seq (.region 0 [] [
 ⟨(some 15),.mov (.tmp 5),none,0⟩,
 ⟨(some 16),.mov (.tmp 5),none,0⟩,
 ⟨(some 17),.len (.tmp 16),none,0⟩,
 ⟨(some 18),.faddr 3 (.tmp 2),none,0⟩,
 ⟨(some 19),.load none (.tmp 18),none,0⟩,
 ⟨(some 20),.len (.tmp 19),none,0⟩,
 ⟨(some 21),.mm false (.tmp 17) (.tmp 20),none,0⟩,
 ⟨(some 22),.slice 1 (.tmp 15) none (some (.tmp 21)),none,0⟩,
 ⟨(some 4),.mov (.tmp 22),none,0⟩])
 .ret)))⟩
/-- 36 isatis/isatisref02.Truths | loop 0 vars [4,5] kill 19 makes true reify [(4,(none,2))] -/
def f36 : AFunc := ⟨28,[.tmp 2],false,
 (.seq (.region 1 [] [
 ⟨(some 1),.box (.tmp 0),none,0⟩,
 ⟨(some 2),.mov (.cst (.c .nils)),none,1⟩])
 (.seq (.region 0 [] [
 ⟨(some 6),.load (some 9) (.tmp 1),none,0⟩,
 ⟨(some 7),.call 31 true [(.tmp 6)],none,0⟩,
 ⟨(some 3),.mov (.tmp 7),none,0⟩])
 (.seq (.region 0 [] [
 ⟨(some 4),.mov (.cst (.c .nils)),none,0⟩])
 (.seq (.seq (.region 0 [] [
 ⟨(some 5),.mov (.cst (.c (.int .i64 0))),none,0⟩])
 (.block 0 (.loop ⟨[8,9,10,11,12,13,14,15,16,17,18,19,20,21,22,23,24,25,26],true,[(4,none,2)]⟩
 (.seq (.seq (.region 0 [] [
 ⟨(some 8),.mov (.tmp 5),none,0⟩,
 ⟨(some 9),.mov (.tmp 3),none,0⟩,
 ⟨(some 10),.len (.tmp 9),none,0⟩,
 ⟨(some 11),.bin .lss (.tmp 8) (.tmp 10),none,0⟩])
 (.cond (.tmp 11)
 .skip
 (.exit 0)))
 (.seq (.block 1 (.seq (.region 0 [(0,1),(0,4),(1,4),(2,4),(3,4),(0,5),(1,5),(2,5),(3,5)] [
 ⟨(some 14),.mov (.tmp 3),none,0⟩,
 ⟨(some 15),.mov (.tmp 5),none,0⟩,
 ⟨(some 16),.iaddr 1 (.tmp 14) (.tmp 15),none,0⟩,
 ⟨(some 17),.load none (.tmp 16),none,0⟩,
 ⟨(some 18),.load (some 9) (.tmp 1),none,0⟩,
 ⟨(some 19),.call 81 true [(.tmp 18)],none,0⟩,
 ⟨(some 20),.bin .eql (.tmp 17) (.tmp 19),none,0⟩])
 (.cond (.tmp 20)
 (.region 2 [] [
 ⟨(some 21),.mov (.tmp 4),none,0⟩,
 ⟨(some 22),.load (some 9) (.tmp 1),none,0⟩,
 ⟨(some 23),.mov (.tmp 5),none,0⟩,
 ⟨(some 24),.call 80 true [(.tmp 22),(.tmp 23)],none,0⟩,
 ⟨(some 25),.bslice 2 1 [.nils,.nils] [(0,(.tmp 24))],none,0⟩,
 ⟨(some 26),.append 2 48 (.tmp 21) (.tmp 25),none,1⟩,
 ⟨(some 4),.mov (.tmp 26),none,2⟩])
 .skip)))
 (.region 0 [] [
 ⟨(some 12),.mov (.tmp 5),none,0⟩,
 ⟨(some 13),.bin .add (.tmp 12) (.cst (.c (.int .i64 1))),none,0⟩,
 ⟨(some 5),.mov (.tmp 13),none,0⟩]))))))
 (.seq (.region 0 [] [
 ⟨(some 27),.mov (.tmp 4),none,0⟩,
 ⟨(some 2),.mov (.tmp 27),none,0⟩])
 .ret)))))⟩
/-- 37 isatis/isatisref02.Total | loop 0 vars [7,8] kill 14 makes false -/
def f37 : AFunc := ⟨24,[.tmp 6],false,
 (.seq (.region 2 [] [
 ⟨(some 3),.box (.tmp 0),none,0⟩,
 ⟨(some 4),.box (.tmp 1),none,1⟩,
 ⟨(some 6),.mov (.cst (.c (.int .i64 0))),none,2⟩])
 (.seq (.region 0 [] [
 ⟨(some 7),.mov (.cst (.c (.int .i64 0))),none,0⟩])
 (.seq (.seq (.region 0 [] [
 ⟨(some 8),.mov (.cst (.c (.int .i64 0))),none,0⟩])
 (.block 0 (.loop ⟨[9,10,11,12,13,14,15,16,17,18,19,20,21,22],false,[]⟩
 (.seq (.seq (.region 0 [] [
 ⟨(some 9),.mov (.tmp 8),none,0⟩,
 ⟨(some 10),.mov (.tmp 2),none,0⟩,
 ⟨(some 11),.len (.tmp 10),none,0⟩,
 ⟨(some 12),.bin .lss (.tmp 9) (.tmp 11),none,0⟩])
 (.cond (.tmp 12)
 .skip
 (.exit 0)))
 (.seq (.block 1 (.region 0 [] [
 ⟨(some 15),.mov (.tmp 7),none,0⟩,
 ⟨(some 16),.load (some 9) (.tmp 3),none,0⟩,
 ⟨(some 17),.load (some 2) (.tmp 4),none,0⟩,
 ⟨(some 18),.mov (.tmp 2),none,0⟩,
 ⟨(some 19),.mov (.tmp 8),none,0⟩,
 ⟨(some 20),.call 38 true [(.tmp 16),(.tmp 17),(.tmp 18),(.tmp 19)],none,0⟩,
 ⟨(some 21),.fld 2 none (.tmp 20),none,0⟩,
 ⟨(some 22),.bin .add (.tmp 15) (.tmp 21),none,0⟩,
 ⟨(some 7),.mov (.tmp 22),none,0⟩]))
 (.region 0 [] [
 ⟨(some 13),.mov (.tmp 8),none,0⟩,
 ⟨(some 14),.bin .add (.tmp 13) (.cst (.c (.int .i64 1))),none,0⟩,
 ⟨(some 8),.mov (.tmp 14),none,0⟩]))))))
 (.seq (.region 0 [] [
 ⟨(some 23),.mov (.tmp 7),none,0⟩,
 ⟨(some 6),.mov (.tmp 23),none,0⟩])
 .ret))))⟩
/-- 38 isatis/isatisref02.Cropped -/
def f38 : AFunc := ⟨44,[.cell 8 (some 3)],false,
 (.seq (.region 3 [] [
 ⟨(some 4),.box (.tmp 0),none,0⟩,
 ⟨(some 5),.box (.tmp 1),none,1⟩,
 ⟨(some 8),.alloc [(.int .i64 0),(.int .i64 0),(.int .i64 0)],none,2⟩])
 (.seq (.region 0 [(0,1),(0,2),(1,2),(0,3),(1,3),(2,3),(0,4),(1,4),(0,5),(1,5)] [
 ⟨(some 11),.load (some 2) (.tmp 5),none,0⟩,
 ⟨(some 12),.mov (.tmp 2),none,0⟩,
 ⟨(some 13),.mov (.tmp 2),none,0⟩,
 ⟨(some 14),.mov (.tmp 3),none,0⟩,
 ⟨(some 15),.iaddr 1 (.tmp 13) (.tmp 14),none,0⟩,
 ⟨(some 16),.load none (.tmp 15),none,0⟩,
 ⟨(some 17),.call 47 true [(.tmp 11),(.tmp 12),(.tmp 16)],none,0⟩,
 ⟨(some 9),.mov (.tmp 17),none,0⟩])
 (.seq (.seq (.region 0 [(0,2),(1,2),(0,3),(1,3),(2,3),(0,4),(1,4),(0,5),(1,5)] [
 ⟨(some 18),.faddr 1 (.tmp 5),none,0⟩,
 ⟨(some 19),.load none (.tmp 18),none,0⟩,
 ⟨(some 20),.mov (.tmp 2),none,0⟩,
 ⟨(some 21),.mov (.tmp 3),none,0⟩,
 ⟨(some 22),.iaddr 1 (.tmp 20) (.tmp 21),none,0⟩,
 ⟨(some 23),.load none (.tmp 22),none,0⟩,
 ⟨(some 24),.iaddr 1 (.tmp 19) (.tmp 23),none,0⟩,
 ⟨(some 25),.load none (.tmp 24),none,0⟩,
 ⟨(some 26),.bin .eql (.tmp 25) (.cst (.c (.int .i64 1))),none,0⟩])
 (.cond (.tmp 26)
 (.region 0 [] [
 ⟨(some 27),.mov (.tmp 9),none,0⟩,
 ⟨(some 28),.mov (.tmp 9),none,0⟩,
 ⟨(some 29),.faddr 7 (.tmp 4),none,0⟩,
 ⟨(some 30),.load none (.tmp 29),none,0⟩,
 ⟨(some 31),.bin .mul (.tmp 28) (.tmp 30),none,0⟩,
 ⟨(some 32),.bin .quo (.tmp 31) (.cst (.c (.int .i64 100))),none,0⟩,
 ⟨(some 33),.bin .sub (.tmp 27) (.tmp 32),none,0⟩,
 ⟨(some 9),.mov (.tmp 33),none,0⟩])
 .skip))
 (.seq (.region 0 [] [
 ⟨(some 34),.load (some 9) (.tmp 4),none,0⟩,
 ⟨(some 35),.mov (.tmp 2),none,0⟩,
 ⟨(some 36),.mov (.tmp 3),none,0⟩,
 ⟨(some 37),.call 64 true [(.tmp 34),(.tmp 35),(.tmp 36)],none,0⟩,
 ⟨(some 10),.mov (.tmp 37),none,0⟩])
 (.seq (.region 0 [] [
 ⟨(some 38),.mov (.tmp 9),none,0⟩,
 ⟨(some 39),.mov (.tmp 10),none,0⟩,
 ⟨(some 40),.mov (.tmp 9),none,0⟩,
 ⟨(some 41),.mov (.tmp 10),none,0⟩,
 ⟨(some 42),.bin .mul (.tmp 40) (.tmp 41),none,0⟩,
 ⟨(some 43),.build [(.int .i64 0),(.int .i64 0),(.int .i64 0)] [(0,1,(.tmp 38)),(1,1,(.tmp 39)),(2,1,(.tmp 42))],none,0⟩,
 ⟨none,.store (some 3) (.tmp 8) (.tmp 43),none,0⟩])
 .ret)))))⟩
/-- 39 isatis/crop.Worst -/
def f39 : AFunc := ⟨46,[.cell 4 (some 2),.tmp 5],false,
 (.seq (.region 3 [] [
 ⟨(some 2),.box (.tmp 0),none,0⟩,
 ⟨(some 3),.box (.tmp 1),none,1⟩,
 ⟨(some 4),.alloc [.nils,.nils],none,2⟩,
 ⟨(some 5),.mov (.cst (.c (.int .i64 0))),none,3⟩])
 (.seq (.region 1 [] [
 ⟨(some 14),.load (some 9) (.tmp 2),none,0⟩,
 ⟨(some 15),.load none (.tmp 3),none,0⟩,
 ⟨(some 16),.call 54 false [(.tmp 14),(.tmp 15)],none,0⟩,
 ⟨(some 13),.mov (.tmp 16),none,0⟩,
 ⟨(some 17),.extract 0 (.tmp 13),none,0⟩,
 ⟨(some 18),.extract 1 (.tmp 13),none,0⟩,
 ⟨(some 6),.alloc [.nilp],none,0⟩,
 ⟨none,.store none (.tmp 6) (.tmp 17),none,1⟩,
 ⟨(some 7),.mov (.tmp 18),none,1⟩])
 (.seq (.seq (.region 0 [] [
 ⟨(some 19),.mov (.tmp 7),none,0⟩,
 ⟨(some 20),.bin .neq (.tmp 19) (.cst (.c (.int .i64 0))),none,0⟩])
 (.cond (.tmp 20)
 (.seq (.region 0 [] [
 ⟨(some 21),.build [.nils,.nils] [],none,0⟩,
 ⟨(some 22),.mov (.tmp 7),none,0⟩,
 ⟨none,.store (some 2) (.tmp 4) (.tmp 21),none,0⟩,
 ⟨(some 5),.mov (.tmp 22),none,0⟩])
 .ret)
 .skip))
 (.seq (.region 1 [] [
 ⟨(some 8),.alloc [.nils,.nils],none,0⟩])
 (.seq (.region 2 [] [
 ⟨(some 9),.alloc [(.int .i64 0)],none,0⟩,
 ⟨(some 10),.alloc [(.bool false)],none,1⟩,
 ⟨none,.store none (.tmp 9) (.cst (.c (.int .i64 0))),none,2⟩,
 ⟨none,.store none (.tmp 10) (.cst (.c (.bool false))),none,2⟩])
 (.seq (.seq (.region 0 [] [
 ⟨(some 23),.load none (.tmp 6),none,0⟩,
 ⟨(some 24),.call 70 false [(.tmp 23),(.cst (.c .nils))],none,0⟩])
 (.block 0 (.range (.tmp 24) [25]
 (.region 1 [] [
 ⟨(some 11),.alloc [.nils,.nils],none,0⟩,
 ⟨none,.store (some 2) (.tmp 11) (.tmp 25),none,1⟩])
 (.block 1 (.seq (.region 0 [] [
 ⟨(some 26),.load none (.tmp 6),none,0⟩,
 ⟨(some 27),.load (some 2) (.tmp 11),none,0⟩,
 ⟨(some 28),.load none (.tmp 3),none,0⟩,
 ⟨(some 29),.call 61 false [(.tmp 26),(.tmp 27),(.tmp 28)],none,0⟩,
 ⟨(some 12),.mov (.tmp 29),none,0⟩])
 (.seq (.region 0 [] [
 ⟨(some 30),.load none (.tmp 10),none,0⟩,
 ⟨(some 31),.not (.tmp 30),none,0⟩,
 ⟨(some 32),.mov (.tmp 31),none,0⟩,
 ⟨(some 33),.mov (.tmp 12),some (32,false),0⟩,
 ⟨(some 34),.load none (.tmp 9),some (32,false),0⟩,
 ⟨(some 35),.bin .lss (.tmp 33) (.tmp 34),some (32,false),0⟩,
 ⟨(some 36),.pick (.tmp 32) (.cst (.c (.bool true))) (.tmp 35),none,0⟩])
 (.cond (.tmp 36)
 (.seq (.region 0 [] [
 ⟨(some 37),.mov (.tmp 12),none,0⟩,
 ⟨none,.store none (.tmp 9) (.tmp 37),none,0⟩,
 ⟨none,.store none (.tmp 10) (.cst (.c (.bool true))),none,0⟩])
 (.region 2 [(0,3),(1,3),(2,3),(0,4),(1,4),(2,4)] [
 ⟨(some 38),.faddr 0 (.tmp 11),none,0⟩,
 ⟨(some 39),.load none (.tmp 38),none,0⟩,
 ⟨(some 40),.clone 71 1 8 (.tmp 39),none,0⟩,
 ⟨(some 41),.faddr 1 (.tmp 11),none,1⟩,
 ⟨(some 42),.load none (.tmp 41),none,1⟩,
 ⟨(some 43),.clone 71 1 8 (.tmp 42),none,1⟩,
 ⟨(some 44),.build [.nils,.nils] [(0,1,(.tmp 40)),(1,1,(.tmp 43))],none,2⟩,
 ⟨none,.store (some 2) (.tmp 8) (.tmp 44),none,2⟩]))
 .skip)))))))
 (.seq (.region 0 [] [
 ⟨(some 45),.load (some 2) (.tmp 8),none,0⟩,
 ⟨none,.store (some 2) (.tmp 4) (.tmp 45),none,0⟩,
 ⟨(some 5),.mov (.cst (.c (.int .i64 0))),none,0⟩])
 .ret)))))))⟩
/-- 40 isatis/crop.ProveWorth -/
def f40 : AFunc := ⟨23,[.tmp 6],false,
 (.seq (.region 1 [] [
 ⟨(some 3),.box (.tmp 0),none,0⟩,
 ⟨(some 6),.mov (.cst (.c (.bool false))),none,1⟩])
 (.seq (.region 1 [] [
 ⟨(some 10),.load (some 9) (.tmp 3),none,0⟩,
 ⟨(some 11),.mov (.tmp 1),none,0⟩,
 ⟨(some 12),.call 16 true [(.tmp 10),(.tmp 11)],none,0⟩,
 ⟨(some 9),.mov (.tmp 12),none,0⟩,
 ⟨(some 13),.extract 0 (.tmp 9),none,0⟩,
 ⟨(some 14),.extract 1 (.tmp 9),none,0⟩,
 ⟨(some 7),.alloc [(.int .i64 0),(.int .i64 0)],none,0⟩,
 ⟨none,.store (some 2) (.tmp 7) (.tmp 13),none,1⟩,
 ⟨(some 8),.mov (.tmp 14),none,1⟩])
 (.seq (.region 0 [] [
 ⟨(some 15),.mov (.tmp 8),none,0⟩,
 ⟨(some 16),.bin .eql (.tmp 15) (.cst (.c (.int .i64 0))),none,0⟩,
 ⟨(some 17),.mov (.tmp 16),none,0⟩,
 ⟨(some 18),.faddr 0 (.tmp 7),some (17,true),0⟩,
 ⟨(some 19),.load none (.tmp 18),some (17,true),0⟩,
 ⟨(some 20),.mov (.tmp 2),some (17,true),0⟩,
 ⟨(some 21),.bin .geq (.tmp 19) (.tmp 20),some (17,true),0⟩,
 ⟨(some 22),.pick (.tmp 17) (.tmp 21) (.cst (.c (.bool false))),none,0⟩,
 ⟨(some 6),.mov (.tmp 22),none,0⟩])
 .ret)))⟩
/-- 41 isatis/isatisref02.IsTruth | loop 0 vars [5] kill 17 makes false -/
def f41 : AFunc := ⟨26,[.tmp 4],false,
 (.seq (.region 2 [] [
 ⟨(some 2),.box (.tmp 0),none,0⟩,
 ⟨(some 3),.box (.tmp 1),none,1⟩,
 ⟨(some 4),.mov (.cst (.c (.bool false))),none,2⟩])
 (.seq (.seq (.region 0 [] [
 ⟨(some 6),.load (some 9) (.tmp 2),none,0⟩,
 ⟨(some 7),.load (some 2) (.tmp 3),none,0⟩,
 ⟨(some 8),.call 84 true [(.tmp 6),(.tmp 7)],none,0⟩,
 ⟨(some 9),.not (.tmp 8),none,0⟩])
 (.cond (.tmp 9)
 (.seq (.region 0 [] [
 ⟨(some 4),.mov (.cst (.c (.bool false))),none,0⟩])
 .ret)
 .skip))
 (.seq (.seq (.region 0 [] [
 ⟨(some 5),.mov (.cst (.c (.int .i64 0))),none,0⟩])
 (.block 0 (.loop ⟨[4,10,11,12,13,14,15,16,17,18,19,20,21,22,23,24,25],false,[]⟩
 (.seq (.seq (.region 0 [] [
 ⟨(some 10),.mov (.tmp 5),none,0⟩,
 ⟨(some 11),.faddr 8 (.tmp 2),none,0⟩,
 ⟨(some 12),.load none (.tmp 11),none,0⟩,
 ⟨(some 13),.len (.tmp 12),none,0⟩,
 ⟨(some 14),.bin .lss (.tmp 10) (.tmp 13),none,0⟩])
 (.cond (.tmp 14)
 .skip
 (.exit 0)))
 (.seq (.block 1 (.seq (.region 0 [(0,1),(0,2),(1,2),(0,3),(1,3),(0,4),(1,4),(2,4),(3,4),(0,5),(1,5),(0,6),(1,6)] [
 ⟨(some 17),.load (some 9) (.tmp 2),none,0⟩,
 ⟨(some 18),.load (some 2) (.tmp 3),none,0⟩,
 ⟨(some 19),.faddr 8 (.tmp 2),none,0⟩,
 ⟨(some 20),.load none (.tmp 19),none,0⟩,
 ⟨(some 21),.mov (.tmp 5),none,0⟩,
 ⟨(some 22),.iaddr 3 (.tmp 20) (.tmp 21),none,0⟩,
 ⟨(some 23),.load (some 3) (.tmp 22),none,0⟩,
 ⟨(some 24),.call 79 true [(.tmp 17),(.tmp 18),(.tmp 23)],none,0⟩,
 ⟨(some 25),.not (.tmp 24),none,0⟩])
 (.cond (.tmp 25)
 (.seq (.region 0 [] [
 ⟨(some 4),.mov (.cst (.c (.bool false))),none,0⟩])
 .ret)
 .skip)))
 (.region 0 [] [
 ⟨(some 15),.mov (.tmp 5),none,0⟩,
 ⟨(some 16),.bin .add (.tmp 15) (.cst (.c (.int .i64 1))),none,0⟩,
 ⟨(some 5),.mov (.tmp 16),none,0⟩]))))))
 (.seq (.region 0 [] [
 ⟨(some 4),.mov (.cst (.c (.bool true))),none,0⟩])
 .ret))))⟩
/-- 42 isatis/isatislaw02.Looked | loop 0 vars [10] kill 46 makes true reify [(9,((some 8),3))] -/
def f42 : AFunc := ⟨68,[.cell 6 (some 9),.cell 7 (some 2)],false,
 (.seq (.region 3 [] [
 ⟨(some 3),.box (.tmp 0),none,0⟩,
 ⟨(some 6),.alloc [(.int .i64 0),.nils,.nils,.nils,.nils,(.int .i64 0),(.int .i64 0),(.int .i64 0),.nils],none,1⟩,
 ⟨(some 7),.alloc [.nils,.nils],none,2⟩])
 (.seq (.region 1 [(0,1),(0,2),(0,3),(1,3),(2,3),(0,4),(1,4),(2,4),(0,5),(0,7),(1,7),(2,7),(3,7),(4,7),(5,7),(6,7)] [
 ⟨(some 14),.load (some 9) (.tmp 3),none,0⟩,
 ⟨(some 15),.mov (.tmp 1),none,0⟩,
 ⟨(some 16),.conv .i64 (.tmp 15),none,0⟩,
 ⟨(some 17),.load (some 9) (.tmp 3),none,0⟩,
 ⟨(some 18),.call 50 true [(.tmp 17)],none,0⟩,
 ⟨(some 19),.bin .rem (.tmp 16) (.tmp 18),none,0⟩,
 ⟨(some 20),.call 80 true [(.tmp 14),(.tmp 19)],none,0⟩,
 ⟨(some 8),.alloc [.nils,.nils],none,0⟩,
 ⟨none,.store (some 2) (.tmp 8) (.tmp 20),none,1⟩])
 (.seq (.region 1 [] [
 ⟨(some 21),.load (some 9) (.tmp 3),none,0⟩,
 ⟨(some 9),.alloc [(.int .i64 0),.nils,.nils,.nils,.nils,(.int .i64 0),(.int .i64 0),(.int .i64 0),.nils],none,0⟩,
 ⟨none,.store (some 9) (.tmp 9) (.tmp 21),none,1⟩])
 (.seq (.region 0 [] [
 ⟨(some 22),.faddr 8 (.tmp 9),none,0⟩,
 ⟨none,.store none (.tmp 22) (.cst (.c .nils)),none,0⟩])
 (.seq (.seq (.region 0 [] [
 ⟨(some 10),.mov (.cst (.c (.int .i64 0))),none,0⟩])
 (.block 0 (.loop ⟨[11,12,13,23,24,25,26,27,28,29,30,31,32,33,34,35,36,37,38,39,40,41,42,43,44,45,46,47,48,49,50,51,52,53,54,55,56,57,58,59,60,61,62,63,64,65],true,[(9,(some 8),3)]⟩
 (.seq (.seq (.region 0 [] [
 ⟨(some 23),.mov (.tmp 10),none,0⟩,
 ⟨(some 24),.mov (.tmp 2),none,0⟩,
 ⟨(some 25),.call 85 true [(.tmp 24),(.cst (.c (.int .i64 0)))],none,0⟩,
 ⟨(some 26),.bin .rem (.tmp 25) (.cst (.c (.int .i64 6))),none,0⟩,
 ⟨(some 27),.bin .lss (.tmp 23) (.tmp 26),none,0⟩])
 (.cond (.tmp 27)
 .skip
 (.exit 0)))
 (.seq (.block 1 (.seq (.region 0 [] [
 ⟨(some 30),.mov (.tmp 2),none,0⟩,
 ⟨(some 31),.mov (.tmp 10),none,0⟩,
 ⟨(some 32),.bin .add (.tmp 31) (.cst (.c (.int .i64 1))),none,0⟩,
 ⟨(some 33),.call 85 true [(.tmp 30),(.tmp 32)],none,0⟩,
 ⟨(some 11),.mov (.tmp 33),none,0⟩])
 (.seq (.region 1 [] [
 ⟨(some 34),.mov (.tmp 11),none,0⟩,
 ⟨(some 35),.faddr 0 (.tmp 3),none,0⟩,
 ⟨(some 36),.load none (.tmp 35),none,0⟩,
 ⟨(some 37),.bin .add (.tmp 36) (.cst (.c (.int .i64 1))),none,0⟩,
 ⟨(some 38),.bin .rem (.tmp 34) (.tmp 37),none,0⟩,
 ⟨(some 39),.build [(.int .i64 0),(.int .i64 0),(.int .i64 0)] [(0,1,(.tmp 38))],none,0⟩,
 ⟨(some 12),.alloc [(.int .i64 0),(.int .i64 0),(.int .i64 0)],none,0⟩,
 ⟨none,.store (some 3) (.tmp 12) (.tmp 39),none,1⟩])
 (.seq (.region 0 [] [
 ⟨(some 40),.load (some 2) (.tmp 8),none,0⟩,
 ⟨(some 41),.faddr 4 (.tmp 3),none,0⟩,
 ⟨(some 42),.load none (.tmp 41),none,0⟩,
 ⟨(some 43),.faddr 0 (.tmp 12),none,0⟩,
 ⟨(some 44),.load none (.tmp 43),none,0⟩,
 ⟨(some 45),.call 47 true [(.tmp 40),(.tmp 42),(.tmp 44)],none,0⟩,
 ⟨(some 13),.mov (.tmp 45),none,0⟩])
 (.seq (.region 0 [] [
 ⟨(some 46),.mov (.tmp 13),none,0⟩,
 ⟨(some 47),.mov (.tmp 11),none,0⟩,
 ⟨(some 48),.bin .quo (.tmp 47) (.cst (.c (.int .i64 16))),none,0⟩,
 ⟨(some 49),.bin .rem (.tmp 48) (.cst (.c (.int .i64 4))),none,0⟩,
 ⟨(some 50),.bin .sub (.tmp 46) (.tmp 49),none,0⟩,
 ⟨(some 51),.mm true (.cst (.c (.int .i64 0))) (.tmp 50),none,0⟩,
 ⟨(some 52),.mov (.tmp 13),none,0⟩,
 ⟨(some 53),.mov (.tmp 11),none,0⟩,
 ⟨(some 54),.bin .quo (.tmp 53) (.cst (.c (.int .i64 64))),none,0⟩,
 ⟨(some 55),.bin .rem (.tmp 54) (.cst (.c (.int .i64 4))),none,0⟩,
 ⟨(some 56),.bin .add (.tmp 52) (.tmp 55),none,0⟩,
 ⟨(some 57),.mm false (.cst (.c (.int .i64 1000))) (.tmp 56),none,0⟩,
 ⟨(some 58),.build [(.int .i64 0),(.int .i64 0)] [(0,1,(.tmp 51)),(1,1,(.tmp 57))],none,0⟩,
 ⟨(some 59),.faddr 1 (.tmp 12),none,0⟩,
 ⟨none,.store (some 2) (.tmp 59) (.tmp 58),none,0⟩])
 (.region 2 [] [
 ⟨(some 60),.faddr 8 (.tmp 9),none,0⟩,
 ⟨(some 61),.load none (.tmp 60),none,0⟩,
 ⟨(some 62),.load (some 3) (.tmp 12),none,0⟩,
 ⟨(some 63),.bslice 3 1 [(.int .i64 0),(.int .i64 0),(.int .i64 0)] [(0,(.tmp 62))],none,0⟩,
 ⟨(some 64),.append 3 24 (.tmp 61) (.tmp 63),none,1⟩,
 ⟨(some 65),.faddr 8 (.tmp 9),none,2⟩,
 ⟨none,.store none (.tmp 65) (.tmp 64),none,2⟩]))))))
 (.region 0 [] [
 ⟨(some 28),.mov (.tmp 10),none,0⟩,
 ⟨(some 29),.bin .add (.tmp 28) (.cst (.c (.int .i64 1))),none,0⟩,
 ⟨(some 10),.mov (.tmp 29),none,0⟩]))))))
 (.seq (.region 0 [(0,1),(1,2)] [
 ⟨(some 66),.load (some 9) (.tmp 9),none,0⟩,
 ⟨(some 67),.load (some 2) (.tmp 8),none,0⟩,
 ⟨none,.store (some 9) (.tmp 6) (.tmp 66),none,0⟩,
 ⟨none,.store (some 2) (.tmp 7) (.tmp 67),none,0⟩])
 .ret))))))⟩
/-- 43 isatis/crop.Play -/
def f43 : AFunc := ⟨29,[.tmp 6,.tmp 7],false,
 (.seq (.region 2 [] [
 ⟨(some 3),.box (.tmp 0),none,0⟩,
 ⟨(some 4),.box (.tmp 1),none,1⟩,
 ⟨(some 6),.mov (.cst (.c .nils)),none,2⟩,
 ⟨(some 7),.mov (.cst (.c (.int .i64 0))),none,2⟩])
 (.seq (.seq (.region 0 [] [
 ⟨(some 9),.load (some 9) (.tmp 3),none,0⟩,
 ⟨(some 10),.call 75 true [(.tmp 9)],none,0⟩,
 ⟨(some 8),.mov (.tmp 10),none,0⟩])
 (.seq (.region 0 [] [
 ⟨(some 11),.mov (.tmp 8),none,0⟩,
 ⟨(some 12),.bin .neq (.tmp 11) (.cst (.c (.int .i64 0))),none,0⟩])
 (.cond (.tmp 12)
 (.seq (.region 0 [] [
 ⟨(some 13),.mov (.tmp 8),none,0⟩,
 ⟨(some 6),.mov (.cst (.c .nils)),none,0⟩,
 ⟨(some 7),.mov (.tmp 13),none,0⟩])
 .ret)
 .skip)))
 (.seq (.seq (.region 0 [] [
 ⟨(some 14),.load (some 9) (.tmp 3),none,0⟩,
 ⟨(some 15),.load (some 2) (.tmp 4),none,0⟩,
 ⟨(some 16),.call 86 true [(.tmp 14),(.tmp 15)],none,0⟩,
 ⟨(some 17),.not (.tmp 16),none,0⟩,
 ⟨(some 18),.mov (.tmp 17),none,0⟩,
 ⟨(some 19),.load (some 9) (.tmp 3),some (18,false),0⟩,
 ⟨(some 20),.mov (.tmp 2),some (18,false),0⟩,
 ⟨(some 21),.call 87 true [(.tmp 19),(.tmp 20)],some (18,false),0⟩,
 ⟨(some 22),.not (.tmp 21),some (18,false),0⟩,
 ⟨(some 23),.pick (.tmp 18) (.cst (.c (.bool true))) (.tmp 22),none,0⟩])
 (.cond (.tmp 23)
 (.seq (.region 0 [] [
 ⟨(some 6),.mov (.cst (.c .nils)),none,0⟩,
 ⟨(some 7),.mov (.cst (.c (.int .i64 2))),none,0⟩])
 .ret)
 .skip))
 (.seq (.region 0 [(0,2),(1,2),(0,3),(1,3),(2,3)] [
 ⟨(some 24),.load (some 9) (.tmp 3),none,0⟩,
 ⟨(some 25),.call 76 false [(.tmp 24)],none,0⟩,
 ⟨(some 26),.load (some 2) (.tmp 4),none,0⟩,
 ⟨(some 27),.mov (.tmp 2),none,0⟩,
 ⟨(some 28),.call 88 false [(.tmp 25),(.tmp 26),(.tmp 27)],none,0⟩,
 ⟨(some 6),.mov (.tmp 28),none,0⟩,
 ⟨(some 7),.mov (.cst (.c (.int .i64 0))),none,0⟩])
 .ret))))⟩
/-- 44 isatis/isatislaw02.Truth -/
def f44 : AFunc := ⟨10,[.cell 2 (some 2)],false,
 (.seq (.region 2 [] [
 ⟨(some 1),.box (.tmp 0),none,0⟩,
 ⟨(some 2),.alloc [.nils,.nils],none,1⟩])
 (.seq (.region 0 [(0,3),(1,3),(2,3),(0,4),(1,4),(2,4)] [
 ⟨(some 3),.faddr 0 (.tmp 1),none,0⟩,
 ⟨(some 4),.load none (.tmp 3),none,0⟩,
 ⟨(some 5),.call 15 true [(.tmp 4)],none,0⟩,
 ⟨(some 6),.faddr 1 (.tmp 1),none,0⟩,
 ⟨(some 7),.load none (.tmp 6),none,0⟩,
 ⟨(some 8),.call 15 true [(.tmp 7)],none,0⟩,
 ⟨(some 9),.build [.nils,.nils] [(0,1,(.tmp 5)),(1,1,(.tmp 8))],none,0⟩,
 ⟨none,.store (some 2) (.tmp 2) (.tmp 9),none,0⟩])
 .ret))⟩
end Am.Cr
