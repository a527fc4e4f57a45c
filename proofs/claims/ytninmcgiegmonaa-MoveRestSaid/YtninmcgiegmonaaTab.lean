/-
  A part of the proof: the texts TmTab of this seat, joined.
-/
import Derived.Test.YtninmcgiegmonaaTabA
namespace Am.Tm
open Go Am
set_option maxRecDepth 100000
def f30 : AFunc:=⟨124,[.tmp 2],false,
 (.seq (.region 1 [] [
 ⟨(some 1),.box (.tmp 0),none,0⟩,
 ⟨(some 2),.mov (.cst (.c (.int .i64 0))),none,1⟩])
 (.seq (.region 0 [] [
 ⟨(some 7),.faddr 5 (.tmp 1),none,0⟩,
 ⟨(some 8),.load none (.tmp 7),none,0⟩,
 ⟨(some 9),.len (.tmp 8),none,0⟩,
 ⟨(some 3),.mov (.tmp 9),none,0⟩])
 (.seq (.seq (.region 0 [] [
 ⟨(some 10),.faddr 0 (.tmp 1),none,0⟩,
 ⟨(some 11),.load none (.tmp 10),none,0⟩,
 ⟨(some 12),.bin .gtr (.tmp 11) (.cst (.c (.int .i64 4))),none,0⟩,
 ⟨(some 13),.mov (.tmp 12),none,0⟩,
 ⟨(some 14),.mov (.tmp 3),some (13,false),0⟩,
 ⟨(some 15),.bin .gtr (.tmp 14) (.cst (.c (.int .i64 4))),some (13,false),0⟩,
 ⟨(some 16),.pick (.tmp 13) (.cst (.c (.bool true))) (.tmp 15),none,0⟩])
 (.cond (.tmp 16)
 (.seq (.region 0 [] [
 ⟨(some 2),.mov (.cst (.c (.int .i64 3))),none,0⟩])
 .ret)
 .skip))
 (.seq (.seq (.region 0 [] [
 ⟨(some 17),.faddr 0 (.tmp 1),none,0⟩,
 ⟨(some 18),.load none (.tmp 17),none,0⟩,
 ⟨(some 19),.bin .lss (.tmp 18) (.cst (.c (.int .i64 0))),none,0⟩,
 ⟨(some 20),.mov (.tmp 19),none,0⟩,
 ⟨(some 21),.mov (.tmp 3),some (20,false),0⟩,
 ⟨(some 22),.bin .eql (.tmp 21) (.cst (.c (.int .i64 0))),some (20,false),0⟩,
 ⟨(some 23),.pick (.tmp 20) (.cst (.c (.bool true))) (.tmp 22),none,0⟩,
 ⟨(some 24),.mov (.tmp 23),none,0⟩,
 ⟨(some 25),.faddr 1 (.tmp 1),some (24,false),0⟩,
 ⟨(some 26),.load none (.tmp 25),some (24,false),0⟩,
 ⟨(some 27),.mov (.tmp 3),some (24,false),0⟩,
 ⟨(some 28),.bin .sub (.tmp 27) (.cst (.c (.int .i64 1))),some (24,false),0⟩,
 ⟨(some 29),.call 49 true [(.tmp 26),(.cst (.c (.int .i64 0))),(.tmp 28)],some (24,false),0⟩,
 ⟨(some 30),.not (.tmp 29),some (24,false),0⟩,
 ⟨(some 31),.pick (.tmp 24) (.cst (.c (.bool true))) (.tmp 30),none,0⟩,
 ⟨(some 32),.mov (.tmp 31),none,0⟩,
 ⟨(some 33),.faddr 2 (.tmp 1),some (32,false),0⟩,
 ⟨(some 34),.load none (.tmp 33),some (32,false),0⟩,
 ⟨(some 35),.call 49 true [(.tmp 34),(.cst (.c (.int .i64 0))),(.cst (.c (.int .i64 999)))],some (32,false),0⟩,
 ⟨(some 36),.not (.tmp 35),some (32,false),0⟩,
 ⟨(some 37),.pick (.tmp 32) (.cst (.c (.bool true))) (.tmp 36),none,0⟩,
 ⟨(some 38),.mov (.tmp 37),none,0⟩,
 ⟨(some 39),.faddr 3 (.tmp 1),some (38,false),0⟩,
 ⟨(some 40),.load none (.tmp 39),some (38,false),0⟩,
 ⟨(some 41),.faddr 0 (.tmp 1),some (38,false),0⟩,
 ⟨(some 42),.load none (.tmp 41),some (38,false),0⟩,
 ⟨(some 43),.bin .add (.tmp 42) (.cst (.c (.int .i64 1))),some (38,false),0⟩,
 ⟨(some 44),.call 49 true [(.tmp 40),(.cst (.c (.int .i64 0))),(.tmp 43)],some (38,false),0⟩,
 ⟨(some 45),.not (.tmp 44),some (38,false),0⟩,
 ⟨(some 46),.pick (.tmp 38) (.cst (.c (.bool true))) (.tmp 45),none,0⟩,
 ⟨(some 47),.mov (.tmp 46),none,0⟩,
 ⟨(some 48),.faddr 4 (.tmp 1),some (47,false),0⟩,
 ⟨(some 49),.load none (.tmp 48),some (47,false),0⟩,
 ⟨(some 50),.call 49 true [(.tmp 49),(.cst (.c (.int .i64 1))),(.cst (.c (.int .i64 5)))],some (47,false),0⟩,
 ⟨(some 51),.not (.tmp 50),some (47,false),0⟩,
 ⟨(some 52),.pick (.tmp 47) (.cst (.c (.bool true))) (.tmp 51),none,0⟩,
 ⟨(some 53),.mov (.tmp 52),none,0⟩,
 ⟨(some 54),.faddr 6 (.tmp 1),some (53,false),0⟩,
 ⟨(some 55),.load none (.tmp 54),some (53,false),0⟩,
 ⟨(some 56),.len (.tmp 55),some (53,false),0⟩,
 ⟨(some 57),.mov (.tmp 3),some (53,false),0⟩,
 ⟨(some 58),.bin .neq (.tmp 56) (.tmp 57),some (53,false),0⟩,
 ⟨(some 59),.pick (.tmp 53) (.cst (.c (.bool true))) (.tmp 58),none,0⟩])
 (.cond (.tmp 59)
 (.seq (.region 0 [] [
 ⟨(some 2),.mov (.cst (.c (.int .i64 1))),none,0⟩])
 .ret)
 .skip))
 (.seq (.seq (.region 0 [] [
 ⟨(some 4),.mov (.cst (.c (.int .i64 0))),none,0⟩])
 (.block 0 (.loop ⟨[2,5,6,60,61,62,63,64,65,66,67,68,69,70,71,72,73,74,75,76,77,78,79,80,81,82,83,84,85,86,87,88,89,90,91,92,93,94,95,96,97,98,99,100,101,102,103,104,105,106,107,108,109,110,111,112,113,114,115,116,117,118,119,120,121,122,123],true,[]⟩
 (.seq (.seq (.region 0 [] [
 ⟨(some 60),.mov (.tmp 4),none,0⟩,
 ⟨(some 61),.mov (.tmp 3),none,0⟩,
 ⟨(some 62),.bin .lss (.tmp 60) (.tmp 61),none,0⟩])
 (.cond (.tmp 62)
 .skip
 (.exit 0)))
 (.seq (.block 1 (.seq (.region 1 [] [
 ⟨(some 65),.faddr 5 (.tmp 1),none,0⟩,
 ⟨(some 66),.load none (.tmp 65),none,0⟩,
 ⟨(some 67),.mov (.tmp 4),none,0⟩,
 ⟨(some 68),.iaddr 3 (.tmp 66) (.tmp 67),none,0⟩,
 ⟨(some 69),.load (some 3) (.tmp 68),none,0⟩,
 ⟨(some 5),.alloc [(.int .i64 0),(.int .i64 0),(.int .i64 0)],none,0⟩,
 ⟨none,.store (some 3) (.tmp 5) (.tmp 69),none,1⟩])
 (.seq (.seq (.region 0 [] [
 ⟨(some 70),.faddr 0 (.tmp 5),none,0⟩,
 ⟨(some 71),.load none (.tmp 70),none,0⟩,
 ⟨(some 72),.call 49 true [(.tmp 71),(.cst (.c (.int .i64 0))),(.cst (.c (.int .i64 99)))],none,0⟩,
 ⟨(some 73),.not (.tmp 72),none,0⟩,
 ⟨(some 74),.mov (.tmp 73),none,0⟩,
 ⟨(some 75),.faddr 1 (.tmp 5),some (74,false),0⟩,
 ⟨(some 76),.load none (.tmp 75),some (74,false),0⟩,
 ⟨(some 77),.faddr 0 (.tmp 5),some (74,false),0⟩,
 ⟨(some 78),.load none (.tmp 77),some (74,false),0⟩,
 ⟨(some 79),.call 49 true [(.tmp 76),(.cst (.c (.int .i64 0))),(.tmp 78)],some (74,false),0⟩,
 ⟨(some 80),.not (.tmp 79),some (74,false),0⟩,
 ⟨(some 81),.pick (.tmp 74) (.cst (.c (.bool true))) (.tmp 80),none,0⟩,
 ⟨(some 82),.mov (.tmp 81),none,0⟩,
 ⟨(some 83),.faddr 2 (.tmp 5),some (82,false),0⟩,
 ⟨(some 84),.load none (.tmp 83),some (82,false),0⟩,
 ⟨(some 85),.call 49 true [(.tmp 84),(.cst (.c (.int .i64 0))),(.cst (.c (.int .i64 99)))],some (82,false),0⟩,
 ⟨(some 86),.not (.tmp 85),some (82,false),0⟩,
 ⟨(some 87),.pick (.tmp 82) (.cst (.c (.bool true))) (.tmp 86),none,0⟩,
 ⟨(some 88),.mov (.tmp 87),none,0⟩,
 ⟨(some 89),.faddr 6 (.tmp 1),some (88,false),0⟩,
 ⟨(some 90),.load none (.tmp 89),some (88,false),0⟩,
 ⟨(some 91),.mov (.tmp 4),some (88,false),0⟩,
 ⟨(some 92),.iaddr 1 (.tmp 90) (.tmp 91),some (88,false),0⟩,
 ⟨(some 93),.load none (.tmp 92),some (88,false),0⟩,
 ⟨(some 94),.len (.tmp 93),some (88,false),0⟩,
 ⟨(some 95),.mov (.tmp 3),some (88,false),0⟩,
 ⟨(some 96),.bin .neq (.tmp 94) (.tmp 95),some (88,false),0⟩,
 ⟨(some 97),.pick (.tmp 88) (.cst (.c (.bool true))) (.tmp 96),none,0⟩,
 ⟨(some 98),.mov (.tmp 97),none,0⟩,
 ⟨(some 99),.faddr 6 (.tmp 1),some (98,false),0⟩,
 ⟨(some 100),.load none (.tmp 99),some (98,false),0⟩,
 ⟨(some 101),.mov (.tmp 4),some (98,false),0⟩,
 ⟨(some 102),.iaddr 1 (.tmp 100) (.tmp 101),some (98,false),0⟩,
 ⟨(some 103),.load none (.tmp 102),some (98,false),0⟩,
 ⟨(some 104),.mov (.tmp 4),some (98,false),0⟩,
 ⟨(some 105),.iaddr 1 (.tmp 103) (.tmp 104),some (98,false),0⟩,
 ⟨(some 106),.load none (.tmp 105),some (98,false),0⟩,
 ⟨(some 107),.bin .neq (.tmp 106) (.cst (.c (.int .i64 0))),some (98,false),0⟩,
 ⟨(some 108),.pick (.tmp 98) (.cst (.c (.bool true))) (.tmp 107),none,0⟩])
 (.cond (.tmp 108)
 (.seq (.region 0 [] [
 ⟨(some 2),.mov (.cst (.c (.int .i64 1))),none,0⟩])
 .ret)
 .skip))
 (.seq (.region 0 [] [
 ⟨(some 6),.mov (.cst (.c (.int .i64 0))),none,0⟩])
 (.block 2 (.loop ⟨[2,109,110,111,112,113,114,115,116,117,118,119,120,121,122,123],false,[]⟩
 (.seq (.seq (.region 0 [] [
 ⟨(some 109),.mov (.tmp 6),none,0⟩,
 ⟨(some 110),.mov (.tmp 3),none,0⟩,
 ⟨(some 111),.bin .lss (.tmp 109) (.tmp 110),none,0⟩])
 (.cond (.tmp 111)
 .skip
 (.exit 2)))
 (.seq (.block 3 (.seq (.region 0 [] [
 ⟨(some 114),.faddr 6 (.tmp 1),none,0⟩,
 ⟨(some 115),.load none (.tmp 114),none,0⟩,
 ⟨(some 116),.mov (.tmp 4),none,0⟩,
 ⟨(some 117),.iaddr 1 (.tmp 115) (.tmp 116),none,0⟩,
 ⟨(some 118),.load none (.tmp 117),none,0⟩,
 ⟨(some 119),.mov (.tmp 6),none,0⟩,
 ⟨(some 120),.iaddr 1 (.tmp 118) (.tmp 119),none,0⟩,
 ⟨(some 121),.load none (.tmp 120),none,0⟩,
 ⟨(some 122),.call 49 true [(.tmp 121),(.cst (.c (.int .i64 0))),(.cst (.c (.int .i64 99)))],none,0⟩,
 ⟨(some 123),.not (.tmp 122),none,0⟩])
 (.cond (.tmp 123)
 (.seq (.region 0 [] [
 ⟨(some 2),.mov (.cst (.c (.int .i64 1))),none,0⟩])
 .ret)
 .skip)))
 (.region 0 [] [
 ⟨(some 112),.mov (.tmp 6),none,0⟩,
 ⟨(some 113),.bin .add (.tmp 112) (.cst (.c (.int .i64 1))),none,0⟩,
 ⟨(some 6),.mov (.tmp 113),none,0⟩])))))))))
 (.region 0 [] [
 ⟨(some 63),.mov (.tmp 4),none,0⟩,
 ⟨(some 64),.bin .add (.tmp 63) (.cst (.c (.int .i64 1))),none,0⟩,
 ⟨(some 4),.mov (.tmp 64),none,0⟩]))))))
 (.seq (.region 0 [] [
 ⟨(some 2),.mov (.cst (.c (.int .i64 0))),none,0⟩])
 .ret))))))⟩
def f31 : AFunc:=⟨42,[.cell 4 none,.cell 5 none,.cell 6 none],false,
 (.seq (.region 5 [] [
 ⟨(some 2),.box (.tmp 0),none,0⟩,
 ⟨(some 3),.box (.tmp 1),none,1⟩,
 ⟨(some 4),.alloc [(.int .i64 0)],none,2⟩,
 ⟨(some 5),.alloc [.nils],none,3⟩,
 ⟨(some 6),.alloc [(.bool false)],none,4⟩])
 (.seq .skip
 (.seq (.seq (.region 0 [] [
 ⟨(some 12),.load (some 7) (.tmp 2),none,0⟩,
 ⟨(some 13),.call 50 false [(.tmp 12)],none,0⟩])
 (.block 0 (.range (.tmp 13) [14]
 (.region 0 [] [
 ⟨(some 7),.mov (.tmp 14),none,0⟩])
 (.block 1 (.seq (.region 1 [] [
 ⟨(some 16),.load (some 7) (.tmp 2),none,0⟩,
 ⟨(some 17),.load none (.tmp 3),none,0⟩,
 ⟨(some 18),.mov (.tmp 7),none,0⟩,
 ⟨(some 19),.call 29 true [(.tmp 16),(.tmp 17),(.tmp 18)],none,0⟩,
 ⟨(some 15),.mov (.tmp 19),none,0⟩,
 ⟨(some 20),.extract 0 (.tmp 15),none,0⟩,
 ⟨(some 21),.extract 1 (.tmp 15),none,0⟩,
 ⟨(some 22),.extract 2 (.tmp 15),none,0⟩,
 ⟨(some 9),.alloc [(.int .i64 0),(.int .i64 0),(.int .i64 0),(.int .i64 0),(.int .i64 0),(.int .i64 0),(.int .i64 0),(.int .i64 0),(.int .i64 0),(.int .i64 0),(.int .i64 0)],none,0⟩,
 ⟨(some 8),.mov (.tmp 20),none,1⟩,
 ⟨none,.store (some 11) (.tmp 9) (.tmp 21),none,1⟩,
 ⟨(some 10),.mov (.tmp 22),none,1⟩])
 (.seq (.seq (.region 0 [] [
 ⟨(some 23),.mov (.tmp 10),none,0⟩,
 ⟨(some 24),.not (.tmp 23),none,0⟩])
 (.cond (.tmp 24)
 (.seq (.region 0 [] [
 ⟨none,.store none (.tmp 6) (.cst (.c (.bool false))),none,0⟩])
 (.exit 0))
 .skip))
 (.seq (.region 0 [] [
 ⟨(some 25),.faddr 2 (.tmp 9),none,0⟩,
 ⟨(some 26),.load none (.tmp 25),none,0⟩,
 ⟨(some 27),.faddr 2 (.tmp 2),none,0⟩,
 ⟨(some 28),.load none (.tmp 27),none,0⟩,
 ⟨(some 29),.bin .sub (.tmp 26) (.tmp 28),none,0⟩,
 ⟨(some 11),.mov (.tmp 29),none,0⟩])
 (.seq (.region 0 [] [
 ⟨(some 30),.load none (.tmp 6),none,0⟩,
 ⟨(some 31),.not (.tmp 30),none,0⟩,
 ⟨(some 32),.mov (.tmp 31),none,0⟩,
 ⟨(some 33),.mov (.tmp 11),some (32,false),0⟩,
 ⟨(some 34),.load none (.tmp 4),some (32,false),0⟩,
 ⟨(some 35),.bin .lss (.tmp 33) (.tmp 34),some (32,false),0⟩,
 ⟨(some 36),.pick (.tmp 32) (.cst (.c (.bool true))) (.tmp 35),none,0⟩])
 (.cond (.tmp 36)
 (.region 0 [] [
 ⟨(some 37),.mov (.tmp 11),none,0⟩,
 ⟨(some 38),.mov (.tmp 7),none,0⟩,
 ⟨none,.store none (.tmp 4) (.tmp 37),none,0⟩,
 ⟨none,.store none (.tmp 5) (.tmp 38),none,0⟩,
 ⟨none,.store none (.tmp 6) (.cst (.c (.bool true))),none,0⟩])
 .skip)))))))))
 (.seq (.region 0 [(0,1),(0,2),(1,2),(1,3),(2,3),(2,4)] [
 ⟨(some 39),.load none (.tmp 4),none,0⟩,
 ⟨(some 40),.load none (.tmp 5),none,0⟩,
 ⟨(some 41),.load none (.tmp 6),none,0⟩,
 ⟨none,.store none (.tmp 4) (.tmp 39),none,0⟩,
 ⟨none,.store none (.tmp 5) (.tmp 40),none,0⟩,
 ⟨none,.store none (.tmp 6) (.tmp 41),none,0⟩])
 .ret))))⟩
def f32 : AFunc:=⟨14,[.cell 4 none,.cell 5 none,.cell 6 none],false,
 (.seq (.region 4 [] [
 ⟨(some 2),.box (.tmp 0),none,0⟩,
 ⟨(some 4),.alloc [.nils],none,1⟩,
 ⟨(some 5),.alloc [(.int .i64 0)],none,2⟩,
 ⟨(some 6),.alloc [(.bool false)],none,3⟩])
 (.seq (.region 0 [] [
 ⟨(some 7),.load (some 7) (.tmp 2),none,0⟩,
 ⟨(some 8),.mov (.tmp 1),none,0⟩,
 ⟨(some 9),.mkfn 51 none [(.tmp 2),(.tmp 6),(.tmp 5),(.tmp 4)],none,0⟩,
 ⟨(some 10),.call 33 false [(.tmp 7),(.tmp 8),(.tmp 9)],none,0⟩])
 (.seq (.region 0 [(0,1),(0,2),(1,2),(1,3),(2,3),(2,4)] [
 ⟨(some 11),.load none (.tmp 4),none,0⟩,
 ⟨(some 12),.load none (.tmp 5),none,0⟩,
 ⟨(some 13),.load none (.tmp 6),none,0⟩,
 ⟨none,.store none (.tmp 4) (.tmp 11),none,0⟩,
 ⟨none,.store none (.tmp 5) (.tmp 12),none,0⟩,
 ⟨none,.store none (.tmp 6) (.tmp 13),none,0⟩])
 .ret)))⟩
def f33 : AFunc:=⟨15,[],false,
 (.seq (.region 3 [] [
 ⟨(some 3),.box (.tmp 0),none,0⟩,
 ⟨(some 4),.box (.tmp 1),none,1⟩,
 ⟨(some 5),.box (.tmp 2),none,2⟩])
 (.seq (.region 2 [] [
 ⟨(some 8),.faddr 0 (.tmp 3),none,0⟩,
 ⟨(some 9),.load none (.tmp 8),none,0⟩,
 ⟨(some 10),.bin .add (.tmp 9) (.cst (.c (.int .i64 1))),none,0⟩,
 ⟨(some 11),.mkslice 1 8 [(.int .i64 0)] (.tmp 10),none,0⟩,
 ⟨(some 6),.alloc [.nils],none,1⟩,
 ⟨none,.store none (.tmp 6) (.tmp 11),none,2⟩])
 (.seq (.region 1 [] [
 ⟨(some 7),.alloc [.nilfn],none,0⟩])
 (.seq (.region 0 [] [
 ⟨(some 12),.mkfn 53 none [(.tmp 3),(.tmp 5),(.tmp 6),(.tmp 4),(.tmp 7)],none,0⟩,
 ⟨none,.store none (.tmp 7) (.tmp 12),none,0⟩])
 (.region 0 [] [
 ⟨(some 13),.load none (.tmp 7),none,0⟩,
 ⟨(some 14),.callv (.tmp 13) [(.cst (.c (.int .i64 0)))],none,0⟩])))))⟩
def f34 : AFunc:=⟨26,[],false,
 (.seq (.region 0 [] [
 ⟨(some 9),.load (some 7) (.tmp 1),none,0⟩,
 ⟨(some 10),.mov (.tmp 0),none,0⟩,
 ⟨(some 11),.call 31 true [(.tmp 9),(.tmp 10)],none,0⟩,
 ⟨(some 8),.mov (.tmp 11),none,0⟩,
 ⟨(some 12),.extract 0 (.tmp 8),none,0⟩,
 ⟨(some 13),.extract 1 (.tmp 8),none,0⟩,
 ⟨(some 14),.extract 2 (.tmp 8),none,0⟩,
 ⟨(some 5),.mov (.tmp 12),none,0⟩,
 ⟨(some 6),.mov (.tmp 13),none,0⟩,
 ⟨(some 7),.mov (.tmp 14),none,0⟩])
 (.seq (.region 0 [] [
 ⟨(some 15),.mov (.tmp 7),none,0⟩,
 ⟨(some 16),.mov (.tmp 15),none,0⟩,
 ⟨(some 17),.mov (.tmp 5),some (16,true),0⟩,
 ⟨(some 18),.load none (.tmp 2),some (16,true),0⟩,
 ⟨(some 19),.bin .eql (.tmp 17) (.tmp 18),some (16,true),0⟩,
 ⟨(some 20),.pick (.tmp 16) (.tmp 19) (.cst (.c (.bool false))),none,0⟩])
 (.cond (.tmp 20)
 (.region 0 [(0,1),(0,2),(1,2),(0,3)] [
 ⟨(some 21),.load none (.tmp 3),none,0⟩,
 ⟨(some 22),.load (some 7) (.tmp 1),none,0⟩,
 ⟨(some 23),.mov (.tmp 0),none,0⟩,
 ⟨(some 24),.call 35 true [(.tmp 22),(.tmp 23)],none,0⟩,
 ⟨(some 25),.mm true (.tmp 21) (.tmp 24),none,0⟩,
 ⟨none,.store none (.tmp 3) (.tmp 25),none,0⟩])
 .skip)))⟩
def f35 : AFunc:=⟨25,[.tmp 4],false,
 (.seq (.region 1 [] [
 ⟨(some 2),.box (.tmp 0),none,0⟩,
 ⟨(some 4),.mov (.cst (.c (.int .i64 0))),none,1⟩])
 (.seq (.region 0 [] [
 ⟨(some 8),.faddr 1 (.tmp 2),none,0⟩,
 ⟨(some 9),.load none (.tmp 8),none,0⟩,
 ⟨(some 5),.mov (.tmp 9),none,0⟩])
 (.seq (.seq (.region 0 [] [
 ⟨(some 10),.mov (.tmp 1),none,0⟩,
 ⟨(some 11),.len (.tmp 10),none,0⟩,
 ⟨(some 12),.mov (.cst (.c (.int .i64 0))),none,0⟩])
 (.block 0 (.loop ⟨[4,6,7,13,14,15,16,17,18,19,20,21],false,[]⟩
 (.seq (.region 0 [] [
 ⟨(some 13),.bin .lss (.tmp 12) (.tmp 11),none,0⟩])
 (.seq (.cond (.tmp 13)
 .skip
 (.exit 0))
 (.seq (.block 1 (.seq (.region 0 [] [
 ⟨(some 14),.mov (.tmp 12),none,0⟩,
 ⟨(some 15),.iaddr 1 (.tmp 10) (.tmp 12),none,0⟩,
 ⟨(some 16),.load none (.tmp 15),none,0⟩,
 ⟨(some 6),.mov (.tmp 14),none,0⟩,
 ⟨(some 7),.mov (.tmp 16),none,0⟩])
 (.seq (.region 0 [] [
 ⟨(some 17),.mov (.tmp 7),none,0⟩,
 ⟨(some 18),.mov (.tmp 5),none,0⟩,
 ⟨(some 19),.bin .neq (.tmp 17) (.tmp 18),none,0⟩])
 (.cond (.tmp 19)
 (.seq (.region 0 [] [
 ⟨(some 20),.mov (.tmp 6),none,0⟩,
 ⟨(some 4),.mov (.tmp 20),none,0⟩])
 .ret)
 .skip))))
 (.region 0 [] [
 ⟨(some 21),.bin .add (.tmp 12) (.cst (.c (.int .i64 1))),none,0⟩,
 ⟨(some 12),.mov (.tmp 21),none,0⟩])))))))
 (.seq (.region 0 [] [
 ⟨(some 22),.faddr 0 (.tmp 2),none,0⟩,
 ⟨(some 23),.load none (.tmp 22),none,0⟩,
 ⟨(some 24),.bin .add (.tmp 23) (.cst (.c (.int .i64 1))),none,0⟩,
 ⟨(some 4),.mov (.tmp 24),none,0⟩])
 .ret))))⟩
def f36 : AFunc:=⟨11,[.tmp 4],true,
 (.seq (.region 1 [] [
 ⟨(some 2),.box (.tmp 0),none,0⟩,
 ⟨(some 4),.mov (.cst (.c (.bool false))),none,1⟩])
 (.seq (.region 0 [] [
 ⟨(some 5),.mov (.tmp 1),none,0⟩,
 ⟨(some 6),.faddr 5 (.tmp 2),none,0⟩,
 ⟨(some 7),.load none (.tmp 6),none,0⟩,
 ⟨(some 8),.len (.tmp 7),none,0⟩,
 ⟨(some 9),.bin .sub (.tmp 8) (.cst (.c (.int .i64 1))),none,0⟩,
 ⟨(some 10),.call 41 true [(.tmp 5),(.cst (.c (.int .i64 0))),(.tmp 9)],none,0⟩,
 ⟨(some 4),.mov (.tmp 10),none,0⟩])
 .ret))⟩
def f37 : AFunc:=⟨9,[.tmp 4],false,
 (.seq (.region 1 [] [
 ⟨(some 3),.box (.tmp 1),none,0⟩,
 ⟨(some 4),.mov (.cst (.c (.bool false))),none,1⟩])
 (.seq (.region 0 [] [
 ⟨(some 5),.mov (.tmp 0),none,0⟩,
 ⟨(some 6),.mkfn 55 none [(.tmp 3)],none,0⟩,
 ⟨(some 7),.call 54 false [(.tmp 5),(.tmp 6)],none,0⟩,
 ⟨(some 8),.not (.tmp 7),none,0⟩,
 ⟨(some 4),.mov (.tmp 8),none,0⟩])
 .ret))⟩
def f38 : AFunc:=⟨142,[.cell 4 (some 3)],false,
 (.seq (.region 2 [] [
 ⟨(some 3),.box (.tmp 1),none,0⟩,
 ⟨(some 4),.alloc [(.int .i64 0),(.int .i64 0),(.bool false)],none,1⟩])
 (.seq (.seq (.region 0 [(0,3),(1,3),(2,3),(0,4),(1,4),(2,4),(0,5),(1,5),(2,5),(0,6),(1,6),(2,6),(0,7),(1,7),(2,7)] [
 ⟨(some 14),.faddr 0 (.tmp 3),none,0⟩,
 ⟨(some 15),.faddr 0 (.tmp 14),none,0⟩,
 ⟨(some 16),.load none (.tmp 15),none,0⟩,
 ⟨(some 17),.mov (.tmp 0),none,0⟩,
 ⟨(some 18),.nilchk (.tmp 17),none,0⟩,
 ⟨(some 19),.faddr 0 (.tmp 18),none,0⟩,
 ⟨(some 20),.faddr 0 (.tmp 19),none,0⟩,
 ⟨(some 21),.load none (.tmp 20),none,0⟩,
 ⟨(some 22),.bin .gtr (.tmp 16) (.tmp 21),none,0⟩])
 (.cond (.tmp 22)
 (.seq (.region 0 [] [
 ⟨(some 23),.faddr 0 (.tmp 3),none,0⟩,
 ⟨(some 24),.faddr 2 (.tmp 23),none,0⟩,
 ⟨(some 25),.load none (.tmp 24),none,0⟩,
 ⟨(some 26),.build [(.int .i64 0),(.int .i64 0),(.bool false)] [(0,1,(.cst (.c (.int .i64 (-1))))),(1,1,(.tmp 25)),(2,1,(.cst (.c (.bool true))))],none,0⟩,
 ⟨none,.store (some 3) (.tmp 4) (.tmp 26),none,0⟩])
 .ret)
 .skip))
 (.seq (.seq (.region 1 [(0,4),(1,4),(2,4),(3,4),(7,8),(0,9),(1,9),(2,9),(3,9),(4,9),(5,9),(6,9),(7,9),(8,9),(8,10)] [
 ⟨(some 28),.mov (.tmp 0),none,0⟩,
 ⟨(some 29),.nilchk (.tmp 28),none,0⟩,
 ⟨(some 30),.faddr 7 (.tmp 29),none,0⟩,
 ⟨(some 31),.load none (.tmp 30),none,0⟩,
 ⟨(some 32),.load (some 12) (.tmp 3),none,0⟩,
 ⟨(some 33),.lookup true true [(some .i64),(some .i64),(some .i64),(some .i64),(some .i64),(some .i64),(some .i64),(some .i64),(some .i64),(some .i64),(some .i64),(some .i64)] (.agg [(.int .i64 0),(.int .i64 0),(.bool false)]) true (.tmp 31) (.tmp 32),none,0⟩,
 ⟨(some 27),.mov (.tmp 33),none,0⟩,
 ⟨(some 34),.extract 0 (.tmp 27),none,0⟩,
 ⟨(some 35),.extract 1 (.tmp 27),none,0⟩,
 ⟨(some 5),.alloc [(.int .i64 0),(.int .i64 0),(.bool false)],none,0⟩,
 ⟨none,.store (some 3) (.tmp 5) (.tmp 34),none,1⟩,
 ⟨(some 6),.mov (.tmp 35),none,1⟩])
 (.seq (.region 0 [] [
 ⟨(some 36),.mov (.tmp 6),none,0⟩])
 (.cond (.tmp 36)
 (.seq (.region 0 [] [
 ⟨(some 37),.load (some 3) (.tmp 5),none,0⟩,
 ⟨none,.store (some 3) (.tmp 4) (.tmp 37),none,0⟩])
 .ret)
 .skip)))
 (.seq (.seq (.region 0 [] [
 ⟨(some 38),.mov (.tmp 0),none,0⟩,
 ⟨(some 39),.nilchk (.tmp 38),none,0⟩,
 ⟨(some 40),.faddr 0 (.tmp 39),none,0⟩,
 ⟨(some 41),.faddr 5 (.tmp 40),none,0⟩,
 ⟨(some 42),.load none (.tmp 41),none,0⟩,
 ⟨(some 43),.len (.tmp 42),none,0⟩,
 ⟨(some 44),.mov (.cst (.c (.int .i64 0))),none,0⟩])
 (.block 0 (.loop ⟨[7,8,9,10,11,12,13,45,46,47,48,49,50,51,52,53,54,55,56,57,58,59,60,61,62,63,64,65,66,67,68,69,70,71,72,73,74,75,76,77,78,79,80,81,82,83,84,85,86,87,88,89,90,91,92,93,94,95,96,97,98,99,100,101,102,103,104,105,106,107,108,109,110,111,112,113,114,115,116,117,118,119,120,121,122,123,124,125,126,127,128,129,130],false,[]⟩
 (.seq (.region 0 [] [
 ⟨(some 45),.bin .lss (.tmp 44) (.tmp 43),none,0⟩])
 (.seq (.cond (.tmp 45)
 .skip
 (.exit 0))
 (.seq (.block 1 (.seq (.region 0 [] [
 ⟨(some 46),.mov (.tmp 44),none,0⟩,
 ⟨(some 7),.mov (.tmp 46),none,0⟩])
 (.seq (.seq (.region 0 [(0,4),(1,4),(2,4),(3,4),(0,5),(1,5),(2,5),(3,5),(0,6),(1,6),(2,6),(3,6),(4,6),(5,6),(9,10),(10,11)] [
 ⟨(some 48),.mov (.tmp 0),none,0⟩,
 ⟨(some 49),.nilchk (.tmp 48),none,0⟩,
 ⟨(some 50),.faddr 0 (.tmp 49),none,0⟩,
 ⟨(some 51),.load (some 7) (.tmp 50),none,0⟩,
 ⟨(some 52),.faddr 0 (.tmp 3),none,0⟩,
 ⟨(some 53),.load (some 11) (.tmp 52),none,0⟩,
 ⟨(some 54),.mov (.tmp 7),none,0⟩,
 ⟨(some 55),.call 46 true [(.tmp 51),(.tmp 53),(.tmp 54)],none,0⟩,
 ⟨(some 47),.mov (.tmp 55),none,0⟩,
 ⟨(some 56),.extract 0 (.tmp 47),none,0⟩,
 ⟨(some 57),.extract 1 (.tmp 47),none,0⟩,
 ⟨(some 8),.mov (.tmp 56),none,0⟩,
 ⟨(some 9),.mov (.tmp 57),none,0⟩])
 (.seq (.region 0 [] [
 ⟨(some 58),.mov (.tmp 9),none,0⟩,
 ⟨(some 59),.not (.tmp 58),none,0⟩])
 (.cond (.tmp 59)
 (.exit 1)
 .skip)))
 (.seq (.region 2 [(0,4),(1,4),(2,4),(3,4),(0,5),(1,5),(2,5),(3,5),(0,6),(1,6),(2,6),(3,6),(4,6),(5,6),(9,10),(0,11),(1,11),(2,11),(3,11),(4,11),(5,11),(6,11),(7,11),(8,11),(9,11),(10,11),(0,12),(1,12),(2,12),(3,12),(4,12),(5,12),(6,12),(7,12),(8,12),(9,12),(10,12),(11,12),(10,13)] [
 ⟨(some 61),.mov (.tmp 0),none,0⟩,
 ⟨(some 62),.nilchk (.tmp 61),none,0⟩,
 ⟨(some 63),.faddr 0 (.tmp 62),none,0⟩,
 ⟨(some 64),.load (some 7) (.tmp 63),none,0⟩,
 ⟨(some 65),.faddr 0 (.tmp 3),none,0⟩,
 ⟨(some 66),.load (some 11) (.tmp 65),none,0⟩,
 ⟨(some 67),.mov (.tmp 7),none,0⟩,
 ⟨(some 68),.call 47 true [(.tmp 64),(.tmp 66),(.tmp 67),(.cst (.c (.bool false)))],none,0⟩,
 ⟨(some 60),.mov (.tmp 68),none,0⟩,
 ⟨(some 69),.extract 0 (.tmp 60),none,0⟩,
 ⟨(some 70),.extract 1 (.tmp 60),none,0⟩,
 ⟨(some 10),.alloc [(.int .i64 0),(.int .i64 0),(.int .i64 0),(.int .i64 0),(.int .i64 0),(.int .i64 0),(.int .i64 0),(.int .i64 0),(.int .i64 0),(.int .i64 0),(.int .i64 0)],none,0⟩,
 ⟨(some 11),.alloc [(.int .i64 0),(.int .i64 0),(.int .i64 0)],none,1⟩,
 ⟨none,.store (some 11) (.tmp 10) (.tmp 69),none,2⟩,
 ⟨none,.store (some 3) (.tmp 11) (.tmp 70),none,2⟩])
 (.seq (.region 1 [] [
 ⟨(some 71),.mov (.tmp 0),none,0⟩,
 ⟨(some 72),.load (some 11) (.tmp 10),none,0⟩,
 ⟨(some 73),.faddr 11 (.tmp 3),none,0⟩,
 ⟨(some 74),.load none (.tmp 73),none,0⟩,
 ⟨(some 75),.build [(.int .i64 0),(.int .i64 0),(.int .i64 0),(.int .i64 0),(.int .i64 0),(.int .i64 0),(.int .i64 0),(.int .i64 0),(.int .i64 0),(.int .i64 0),(.int .i64 0),(.int .i64 0)] [(0,11,(.tmp 72)),(11,1,(.tmp 74))],none,0⟩,
 ⟨(some 76),.call 38 false [(.tmp 71),(.tmp 75)],none,0⟩,
 ⟨(some 12),.alloc [(.int .i64 0),(.int .i64 0),(.bool false)],none,0⟩,
 ⟨none,.store (some 3) (.tmp 12) (.tmp 76),none,1⟩])
 (.seq (.seq (.region 0 [] [
 ⟨(some 77),.faddr 2 (.tmp 12),none,0⟩,
 ⟨(some 78),.load none (.tmp 77),none,0⟩,
 ⟨(some 79),.mov (.tmp 78),none,0⟩,
 ⟨(some 80),.faddr 11 (.tmp 3),some (79,true),0⟩,
 ⟨(some 81),.load none (.tmp 80),some (79,true),0⟩,
 ⟨(some 82),.bin .gtr (.tmp 81) (.cst (.c (.int .i64 0))),some (79,true),0⟩,
 ⟨(some 83),.pick (.tmp 79) (.tmp 82) (.cst (.c (.bool false))),none,0⟩])
 (.cond (.tmp 83)
 (.seq (.region 0 [(0,4),(1,4),(2,4),(3,4),(0,5),(1,5),(2,5),(3,5),(0,6),(1,6),(2,6),(3,6),(4,6),(5,6),(9,10),(10,11)] [
 ⟨(some 85),.mov (.tmp 0),none,0⟩,
 ⟨(some 86),.nilchk (.tmp 85),none,0⟩,
 ⟨(some 87),.faddr 0 (.tmp 86),none,0⟩,
 ⟨(some 88),.load (some 7) (.tmp 87),none,0⟩,
 ⟨(some 89),.faddr 0 (.tmp 3),none,0⟩,
 ⟨(some 90),.load (some 11) (.tmp 89),none,0⟩,
 ⟨(some 91),.mov (.tmp 7),none,0⟩,
 ⟨(some 92),.call 47 true [(.tmp 88),(.tmp 90),(.tmp 91),(.cst (.c (.bool true)))],none,0⟩,
 ⟨(some 84),.mov (.tmp 92),none,0⟩,
 ⟨(some 93),.extract 0 (.tmp 84),none,0⟩,
 ⟨(some 94),.extract 1 (.tmp 84),none,0⟩,
 ⟨none,.store (some 11) (.tmp 10) (.tmp 93),none,0⟩])
 (.seq (.region 1 [] [
 ⟨(some 95),.mov (.tmp 0),none,0⟩,
 ⟨(some 96),.load (some 11) (.tmp 10),none,0⟩,
 ⟨(some 97),.faddr 11 (.tmp 3),none,0⟩,
 ⟨(some 98),.load none (.tmp 97),none,0⟩,
 ⟨(some 99),.bin .sub (.tmp 98) (.cst (.c (.int .i64 1))),none,0⟩,
 ⟨(some 100),.build [(.int .i64 0),(.int .i64 0),(.int .i64 0),(.int .i64 0),(.int .i64 0),(.int .i64 0),(.int .i64 0),(.int .i64 0),(.int .i64 0),(.int .i64 0),(.int .i64 0),(.int .i64 0)] [(0,11,(.tmp 96)),(11,1,(.tmp 99))],none,0⟩,
 ⟨(some 101),.call 38 false [(.tmp 95),(.tmp 100)],none,0⟩,
 ⟨(some 13),.alloc [(.int .i64 0),(.int .i64 0),(.bool false)],none,0⟩,
 ⟨none,.store (some 3) (.tmp 13) (.tmp 101),none,1⟩])
 (.region 1 [(0,1),(0,2),(0,3),(1,3),(2,3),(0,4),(1,4),(2,4),(0,5),(0,6),(0,7),(1,7),(2,7),(3,7),(4,7),(5,7),(6,7),(0,8),(1,8),(2,8),(3,8),(4,8),(5,8),(6,8)] [
 ⟨(some 102),.mov (.tmp 7),none,0⟩,
 ⟨(some 103),.faddr 1 (.tmp 12),none,0⟩,
 ⟨(some 104),.load none (.tmp 103),none,0⟩,
 ⟨(some 105),.faddr 1 (.tmp 13),none,0⟩,
 ⟨(some 106),.load none (.tmp 105),none,0⟩,
 ⟨(some 107),.bslice 1 2 [(.int .i64 0)] [(0,(.tmp 104)),(1,(.tmp 106))],none,0⟩,
 ⟨(some 108),.call 56 true [(.tmp 107)],none,1⟩,
 ⟨(some 109),.faddr 2 (.tmp 13),none,1⟩,
 ⟨(some 110),.load none (.tmp 109),none,1⟩,
 ⟨(some 111),.build [(.int .i64 0),(.int .i64 0),(.bool false)] [(0,1,(.tmp 102)),(1,1,(.tmp 108)),(2,1,(.tmp 110))],none,1⟩,
 ⟨none,.store (some 3) (.tmp 12) (.tmp 111),none,1⟩])))
 .skip))
 (.seq (.region 0 [] [
 ⟨(some 112),.faddr 2 (.tmp 12),none,0⟩,
 ⟨(some 113),.load none (.tmp 112),none,0⟩,
 ⟨(some 114),.mov (.tmp 113),none,0⟩,
 ⟨(some 115),.faddr 2 (.tmp 4),some (114,true),0⟩,
 ⟨(some 116),.load none (.tmp 115),some (114,true),0⟩,
 ⟨(some 117),.not (.tmp 116),some (114,true),0⟩,
 ⟨(some 118),.mov (.tmp 117),some (114,true),0⟩,
 ⟨(some 119),.faddr 1 (.tmp 12),some (118,false),0⟩,
 ⟨(some 120),.load none (.tmp 119),some (118,false),0⟩,
 ⟨(some 121),.faddr 1 (.tmp 4),some (118,false),0⟩,
 ⟨(some 122),.load none (.tmp 121),some (118,false),0⟩,
 ⟨(some 123),.bin .gtr (.tmp 120) (.tmp 122),some (118,false),0⟩,
 ⟨(some 124),.pick (.tmp 118) (.cst (.c (.bool true))) (.tmp 123),some (114,true),0⟩,
 ⟨(some 125),.pick (.tmp 114) (.tmp 124) (.cst (.c (.bool false))),none,0⟩])
 (.cond (.tmp 125)
 (.region 0 [] [
 ⟨(some 126),.mov (.tmp 7),none,0⟩,
 ⟨(some 127),.faddr 1 (.tmp 12),none,0⟩,
 ⟨(some 128),.load none (.tmp 127),none,0⟩,
 ⟨(some 129),.build [(.int .i64 0),(.int .i64 0),(.bool false)] [(0,1,(.tmp 126)),(1,1,(.tmp 128)),(2,1,(.cst (.c (.bool true))))],none,0⟩,
 ⟨none,.store (some 3) (.tmp 4) (.tmp 129),none,0⟩])
 .skip))))))))
 (.region 0 [] [
 ⟨(some 130),.bin .add (.tmp 44) (.cst (.c (.int .i64 1))),none,0⟩,
 ⟨(some 44),.mov (.tmp 130),none,0⟩])))))))
 (.seq (.seq (.region 0 [] [
 ⟨(some 131),.faddr 2 (.tmp 4),none,0⟩,
 ⟨(some 132),.load none (.tmp 131),none,0⟩,
 ⟨(some 133),.not (.tmp 132),none,0⟩])
 (.cond (.tmp 133)
 (.region 0 [] [
 ⟨(some 134),.build [(.int .i64 0),(.int .i64 0),(.bool false)] [],none,0⟩,
 ⟨none,.store (some 3) (.tmp 4) (.tmp 134),none,0⟩])
 .skip))
 (.seq (.region 0 [(0,4),(1,4),(2,4),(3,4),(0,5),(1,5),(2,5),(3,5),(4,5)] [
 ⟨(some 135),.mov (.tmp 0),none,0⟩,
 ⟨(some 136),.nilchk (.tmp 135),none,0⟩,
 ⟨(some 137),.faddr 7 (.tmp 136),none,0⟩,
 ⟨(some 138),.load none (.tmp 137),none,0⟩,
 ⟨(some 139),.load (some 12) (.tmp 3),none,0⟩,
 ⟨(some 140),.load (some 3) (.tmp 4),none,0⟩,
 ⟨none,.mapupd true true [(some .i64),(some .i64),(some .i64),(some .i64),(some .i64),(some .i64),(some .i64),(some .i64),(some .i64),(some .i64),(some .i64),(some .i64)] (.tmp 138) (.tmp 139) (.tmp 140),none,0⟩])
 (.seq (.region 0 [] [
 ⟨(some 141),.load (some 3) (.tmp 4),none,0⟩,
 ⟨none,.store (some 3) (.tmp 4) (.tmp 141),none,0⟩])
 .ret)))))))⟩
def f39 : AFunc:=⟨23,[.tmp 2],false,
 (.seq (.region 0 [] [
 ⟨(some 2),.mov (.cst (.c .nils)),none,0⟩])
 (.seq (.region 0 [] [
 ⟨(some 3),.mov (.cst (.c .nils)),none,0⟩])
 (.seq (.seq (.region 0 [] [
 ⟨(some 4),.mov (.cst (.c (.int .i64 0))),none,0⟩])
 (.block 0 (.loop ⟨[5,6,7,8,9,10,11,12,13,14,15,16,17,18,19,20,21],true,[(3,none,1)]⟩
 (.seq (.seq (.region 0 [] [
 ⟨(some 5),.mov (.tmp 0),none,0⟩,
 ⟨(some 6),.mov (.tmp 4),none,0⟩,
 ⟨(some 7),.conv .u64 (.tmp 6),none,0⟩,
 ⟨(some 8),.bin .shr (.tmp 5) (.tmp 7),none,0⟩,
 ⟨(some 9),.bin .gtr (.tmp 8) (.cst (.c (.int .i64 0))),none,0⟩])
 (.cond (.tmp 9)
 .skip
 (.exit 0)))
 (.seq (.block 1 (.seq (.region 0 [] [
 ⟨(some 12),.mov (.tmp 0),none,0⟩,
 ⟨(some 13),.mov (.tmp 4),none,0⟩,
 ⟨(some 14),.conv .u64 (.tmp 13),none,0⟩,
 ⟨(some 15),.bin .shr (.tmp 12) (.tmp 14),none,0⟩,
 ⟨(some 16),.bin .rem (.tmp 15) (.cst (.c (.int .i64 2))),none,0⟩,
 ⟨(some 17),.bin .eql (.tmp 16) (.cst (.c (.int .i64 1))),none,0⟩])
 (.cond (.tmp 17)
 (.region 2 [] [
 ⟨(some 18),.mov (.tmp 3),none,0⟩,
 ⟨(some 19),.mov (.tmp 4),none,0⟩,
 ⟨(some 20),.bslice 1 1 [(.int .i64 0)] [(0,(.tmp 19))],none,0⟩,
 ⟨(some 21),.append 1 8 (.tmp 18) (.tmp 20),none,1⟩,
 ⟨(some 3),.mov (.tmp 21),none,2⟩])
 .skip)))
 (.region 0 [] [
 ⟨(some 10),.mov (.tmp 4),none,0⟩,
 ⟨(some 11),.bin .add (.tmp 10) (.cst (.c (.int .i64 1))),none,0⟩,
 ⟨(some 4),.mov (.tmp 11),none,0⟩]))))))
 (.seq (.region 0 [] [
 ⟨(some 22),.mov (.tmp 3),none,0⟩,
 ⟨(some 2),.mov (.tmp 22),none,0⟩])
 .ret))))⟩
def f40 : AFunc:=⟨25,[.tmp 4],true,
 (.seq (.region 2 [] [
 ⟨(some 2),.box (.tmp 0),none,0⟩,
 ⟨(some 3),.box (.tmp 1),none,1⟩,
 ⟨(some 4),.mov (.cst (.c (.bool false))),none,2⟩])
 (.seq (.region 0 [] [
 ⟨(some 5),.faddr 0 (.tmp 3),none,0⟩,
 ⟨(some 6),.load none (.tmp 5),none,0⟩,
 ⟨(some 7),.call 57 true [(.tmp 6)],none,0⟩,
 ⟨(some 8),.mov (.tmp 7),none,0⟩,
 ⟨(some 9),.faddr 1 (.tmp 3),some (8,true),0⟩,
 ⟨(some 10),.load none (.tmp 9),some (8,true),0⟩,
 ⟨(some 11),.call 57 true [(.tmp 10)],some (8,true),0⟩,
 ⟨(some 12),.pick (.tmp 8) (.tmp 11) (.cst (.c (.bool false))),none,0⟩,
 ⟨(some 13),.mov (.tmp 12),none,0⟩,
 ⟨(some 14),.faddr 2 (.tmp 3),some (13,true),0⟩,
 ⟨(some 15),.load none (.tmp 14),some (13,true),0⟩,
 ⟨(some 16),.call 57 true [(.tmp 15)],some (13,true),0⟩,
 ⟨(some 17),.pick (.tmp 13) (.tmp 16) (.cst (.c (.bool false))),none,0⟩,
 ⟨(some 18),.mov (.tmp 17),none,0⟩,
 ⟨(some 19),.faddr 1 (.tmp 3),some (18,true),0⟩,
 ⟨(some 20),.load none (.tmp 19),some (18,true),0⟩,
 ⟨(some 21),.faddr 0 (.tmp 3),some (18,true),0⟩,
 ⟨(some 22),.load none (.tmp 21),some (18,true),0⟩,
 ⟨(some 23),.bin .leq (.tmp 20) (.tmp 22),some (18,true),0⟩,
 ⟨(some 24),.pick (.tmp 18) (.tmp 23) (.cst (.c (.bool false))),none,0⟩,
 ⟨(some 4),.mov (.tmp 24),none,0⟩])
 .ret))⟩
def f41 : AFunc:=⟨15,[.tmp 6],false,
 (.seq (.region 0 [] [
 ⟨(some 6),.mov (.cst (.c (.bool false))),none,0⟩])
 (.seq (.region 0 [] [
 ⟨(some 7),.mov (.tmp 1),none,0⟩,
 ⟨(some 8),.mov (.tmp 0),none,0⟩,
 ⟨(some 9),.bin .leq (.tmp 7) (.tmp 8),none,0⟩,
 ⟨(some 10),.mov (.tmp 9),none,0⟩,
 ⟨(some 11),.mov (.tmp 0),some (10,true),0⟩,
 ⟨(some 12),.mov (.tmp 2),some (10,true),0⟩,
 ⟨(some 13),.bin .leq (.tmp 11) (.tmp 12),some (10,true),0⟩,
 ⟨(some 14),.pick (.tmp 10) (.tmp 13) (.cst (.c (.bool false))),none,0⟩,
 ⟨(some 6),.mov (.tmp 14),none,0⟩])
 .ret))⟩
def f42 : AFunc:=⟨9,[.tmp 4],false,
 (.seq (.region 1 [] [
 ⟨(some 3),.box (.tmp 1),none,0⟩,
 ⟨(some 4),.mov (.cst (.c (.bool false))),none,1⟩])
 (.seq (.region 0 [] [
 ⟨(some 5),.mov (.tmp 0),none,0⟩,
 ⟨(some 6),.mkfn 59 none [(.tmp 3)],none,0⟩,
 ⟨(some 7),.call 58 false [(.tmp 5),(.tmp 6)],none,0⟩,
 ⟨(some 8),.not (.tmp 7),none,0⟩,
 ⟨(some 4),.mov (.tmp 8),none,0⟩])
 .ret))⟩
def f43 : AFunc:=⟨43,[.tmp 2],false,
 (.seq (.region 1 [] [
 ⟨(some 1),.box (.tmp 0),none,0⟩,
 ⟨(some 2),.mov (.cst (.c (.bool false))),none,1⟩])
 (.seq (.seq (.region 0 [] [
 ⟨(some 5),.faddr 6 (.tmp 1),none,0⟩,
 ⟨(some 6),.load none (.tmp 5),none,0⟩,
 ⟨(some 7),.len (.tmp 6),none,0⟩,
 ⟨(some 8),.mov (.cst (.c (.int .i64 0))),none,0⟩])
 (.block 0 (.loop ⟨[2,3,4,9,10,11,12,13,14,15,16,17,18,19,20,21,22,23,24,25,26,27,28,29,30,31,32,33,34,35],true,[]⟩
 (.seq (.region 0 [] [
 ⟨(some 9),.bin .lss (.tmp 8) (.tmp 7),none,0⟩])
 (.seq (.cond (.tmp 9)
 .skip
 (.exit 0))
 (.seq (.block 1 (.seq (.region 0 [] [
 ⟨(some 10),.mov (.tmp 8),none,0⟩,
 ⟨(some 11),.iaddr 1 (.tmp 6) (.tmp 8),none,0⟩,
 ⟨(some 12),.load none (.tmp 11),none,0⟩,
 ⟨(some 3),.mov (.tmp 10),none,0⟩,
 ⟨(some 4),.mov (.tmp 12),none,0⟩])
 (.seq (.region 0 [] [
 ⟨(some 13),.mov (.tmp 4),none,0⟩,
 ⟨(some 14),.len (.tmp 13),none,0⟩,
 ⟨(some 15),.faddr 5 (.tmp 1),none,0⟩,
 ⟨(some 16),.load none (.tmp 15),none,0⟩,
 ⟨(some 17),.len (.tmp 16),none,0⟩,
 ⟨(some 18),.bin .neq (.tmp 14) (.tmp 17),none,0⟩,
 ⟨(some 19),.mov (.tmp 18),none,0⟩,
 ⟨(some 20),.mov (.tmp 4),some (19,false),0⟩,
 ⟨(some 21),.call 37 false [(.tmp 20),(.cst (.c (.fn 57 false [] [])))],some (19,false),0⟩,
 ⟨(some 22),.not (.tmp 21),some (19,false),0⟩,
 ⟨(some 23),.pick (.tmp 19) (.cst (.c (.bool true))) (.tmp 22),none,0⟩,
 ⟨(some 24),.mov (.tmp 23),none,0⟩,
 ⟨(some 25),.mov (.tmp 4),some (24,false),0⟩,
 ⟨(some 26),.mov (.tmp 3),some (24,false),0⟩,
 ⟨(some 27),.mov (.tmp 4),some (24,false),0⟩,
 ⟨(some 28),.len (.tmp 27),some (24,false),0⟩,
 ⟨(some 29),.bin .sub (.tmp 28) (.cst (.c (.int .i64 1))),some (24,false),0⟩,
 ⟨(some 30),.mm false (.tmp 26) (.tmp 29),some (24,false),0⟩,
 ⟨(some 31),.iaddr 1 (.tmp 25) (.tmp 30),some (24,false),0⟩,
 ⟨(some 32),.load none (.tmp 31),some (24,false),0⟩,
 ⟨(some 33),.bin .neq (.tmp 32) (.cst (.c (.int .i64 0))),some (24,false),0⟩,
 ⟨(some 34),.pick (.tmp 24) (.cst (.c (.bool true))) (.tmp 33),none,0⟩])
 (.cond (.tmp 34)
 (.seq (.region 0 [] [
 ⟨(some 2),.mov (.cst (.c (.bool false))),none,0⟩])
 .ret)
 .skip))))
 (.region 0 [] [
 ⟨(some 35),.bin .add (.tmp 8) (.cst (.c (.int .i64 1))),none,0⟩,
 ⟨(some 8),.mov (.tmp 35),none,0⟩])))))))
 (.seq (.region 0 [] [
 ⟨(some 36),.faddr 6 (.tmp 1),none,0⟩,
 ⟨(some 37),.load none (.tmp 36),none,0⟩,
 ⟨(some 38),.len (.tmp 37),none,0⟩,
 ⟨(some 39),.faddr 5 (.tmp 1),none,0⟩,
 ⟨(some 40),.load none (.tmp 39),none,0⟩,
 ⟨(some 41),.len (.tmp 40),none,0⟩,
 ⟨(some 42),.bin .eql (.tmp 38) (.tmp 41),none,0⟩,
 ⟨(some 2),.mov (.tmp 42),none,0⟩])
 .ret)))⟩
def f44 : AFunc:=⟨14,[.tmp 4],false,
 (.seq (.region 0 [] [
 ⟨(some 4),.mov (.cst (.c (.bool false))),none,0⟩])
 (.seq (.region 0 [] [
 ⟨(some 6),.mov (.tmp 0),none,0⟩,
 ⟨(some 7),.load none (.tmp 1),none,0⟩,
 ⟨(some 8),.bin .add (.tmp 7) (.cst (.c (.int .i64 1))),none,0⟩,
 ⟨(some 9),.load none (.tmp 2),none,0⟩,
 ⟨(some 10),.bin .sub (.tmp 9) (.cst (.c (.int .i64 1))),none,0⟩,
 ⟨(some 11),.call 41 true [(.tmp 6),(.tmp 8),(.tmp 10)],none,0⟩,
 ⟨(some 5),.mov (.tmp 11),none,0⟩])
 (.seq (.region 0 [] [
 ⟨(some 12),.mov (.tmp 0),none,0⟩,
 ⟨none,.store none (.tmp 1) (.tmp 12),none,0⟩])
 (.seq (.region 0 [] [
 ⟨(some 13),.mov (.tmp 5),none,0⟩,
 ⟨(some 4),.mov (.tmp 13),none,0⟩])
 .ret))))⟩
def f45 : AFunc:=⟨8,[.cell 2 (some 11)],false,
 (.seq (.region 2 [] [
 ⟨(some 1),.box (.tmp 0),none,0⟩,
 ⟨(some 2),.alloc [(.int .i64 0),(.int .i64 0),(.int .i64 0),(.int .i64 0),(.int .i64 0),(.int .i64 0),(.int .i64 0),(.int .i64 0),(.int .i64 0),(.int .i64 0),(.int .i64 0)],none,1⟩])
 (.seq (.region 0 [] [
 ⟨(some 3),.faddr 1 (.tmp 1),none,0⟩,
 ⟨(some 4),.load none (.tmp 3),none,0⟩,
 ⟨(some 5),.faddr 2 (.tmp 1),none,0⟩,
 ⟨(some 6),.load none (.tmp 5),none,0⟩,
 ⟨(some 7),.build [(.int .i64 0),(.int .i64 0),(.int .i64 0),(.int .i64 0),(.int .i64 0),(.int .i64 0),(.int .i64 0),(.int .i64 0),(.int .i64 0),(.int .i64 0),(.int .i64 0)] [(1,1,(.tmp 4)),(2,1,(.tmp 6))],none,0⟩,
 ⟨none,.store (some 11) (.tmp 2) (.tmp 7),none,0⟩])
 .ret))⟩
def f46 : AFunc:=⟨29,[.tmp 6,.tmp 7],false,
 (.seq (.region 2 [] [
 ⟨(some 3),.box (.tmp 0),none,0⟩,
 ⟨(some 4),.box (.tmp 1),none,1⟩,
 ⟨(some 6),.mov (.cst (.c (.int .i64 0))),none,2⟩,
 ⟨(some 7),.mov (.cst (.c (.bool false))),none,2⟩])
 (.seq (.region 0 [(0,2),(1,2),(0,3),(1,3),(0,6),(1,6),(2,6),(3,6),(4,6),(5,6),(0,9),(1,9),(2,9),(3,9),(4,9),(5,9),(6,9),(7,9),(8,9),(0,10),(1,10),(2,10),(3,10),(4,10),(5,10),(6,10),(7,10),(8,10),(0,11),(1,11),(2,11),(3,11),(4,11),(5,11),(6,11),(7,11),(8,11),(9,11),(10,11),(0,12),(1,12),(2,12),(3,12),(4,12),(5,12),(6,12),(7,12),(8,12),(0,13),(1,13),(2,13),(3,13),(4,13),(5,13),(6,13),(7,13),(8,13),(0,14),(1,14),(2,14),(3,14),(4,14),(5,14),(6,14),(7,14),(8,14)] [
 ⟨(some 8),.faddr 6 (.tmp 3),none,0⟩,
 ⟨(some 9),.load none (.tmp 8),none,0⟩,
 ⟨(some 10),.faddr 1 (.tmp 4),none,0⟩,
 ⟨(some 11),.load none (.tmp 10),none,0⟩,
 ⟨(some 12),.iaddr 1 (.tmp 9) (.tmp 11),none,0⟩,
 ⟨(some 13),.load none (.tmp 12),none,0⟩,
 ⟨(some 14),.mov (.tmp 2),none,0⟩,
 ⟨(some 15),.iaddr 1 (.tmp 13) (.tmp 14),none,0⟩,
 ⟨(some 16),.load none (.tmp 15),none,0⟩,
 ⟨(some 17),.faddr 5 (.tmp 3),none,0⟩,
 ⟨(some 18),.load none (.tmp 17),none,0⟩,
 ⟨(some 19),.mov (.tmp 2),none,0⟩,
 ⟨(some 20),.iaddr 3 (.tmp 18) (.tmp 19),none,0⟩,
 ⟨(some 21),.faddr 2 (.tmp 20),none,0⟩,
 ⟨(some 22),.load none (.tmp 21),none,0⟩,
 ⟨(some 23),.bin .add (.tmp 16) (.tmp 22),none,0⟩,
 ⟨(some 6),.mov (.tmp 23),none,0⟩])
 (.seq (.region 0 [(0,1),(0,2),(1,2),(0,3),(1,3),(0,4),(2,5),(3,5),(4,5)] [
 ⟨(some 24),.mov (.tmp 6),none,0⟩,
 ⟨(some 25),.mov (.tmp 6),none,0⟩,
 ⟨(some 26),.faddr 2 (.tmp 4),none,0⟩,
 ⟨(some 27),.load none (.tmp 26),none,0⟩,
 ⟨(some 28),.bin .leq (.tmp 25) (.tmp 27),none,0⟩,
 ⟨(some 6),.mov (.tmp 24),none,0⟩,
 ⟨(some 7),.mov (.tmp 28),none,0⟩])
 .ret)))⟩
def f47 : AFunc:=⟨52,[.cell 8 (some 11),.cell 9 (some 3)],false,
 (.seq (.region 4 [] [
 ⟨(some 4),.box (.tmp 0),none,0⟩,
 ⟨(some 5),.box (.tmp 1),none,1⟩,
 ⟨(some 8),.alloc [(.int .i64 0),(.int .i64 0),(.int .i64 0),(.int .i64 0),(.int .i64 0),(.int .i64 0),(.int .i64 0),(.int .i64 0),(.int .i64 0),(.int .i64 0),(.int .i64 0)],none,2⟩,
 ⟨(some 9),.alloc [(.int .i64 0),(.int .i64 0),(.int .i64 0)],none,3⟩])
 (.seq (.region 1 [] [
 ⟨(some 11),.load (some 7) (.tmp 4),none,0⟩,
 ⟨(some 12),.faddr 3 (.tmp 5),none,0⟩,
 ⟨(some 13),.load (some 8) (.tmp 12),none,0⟩,
 ⟨(some 14),.mov (.tmp 2),none,0⟩,
 ⟨(some 15),.call 60 true [(.tmp 11),(.tmp 13),(.tmp 14)],none,0⟩,
 ⟨(some 16),.build [(.int .i64 0),(.int .i64 0),(.int .i64 0)] [(0,1,(.tmp 15))],none,0⟩,
 ⟨(some 10),.alloc [(.int .i64 0),(.int .i64 0),(.int .i64 0)],none,0⟩,
 ⟨none,.store (some 3) (.tmp 10) (.tmp 16),none,1⟩])
 (.seq (.region 0 [] [
 ⟨(some 18),.load (some 7) (.tmp 4),none,0⟩,
 ⟨(some 19),.load (some 11) (.tmp 5),none,0⟩,
 ⟨(some 20),.mov (.tmp 2),none,0⟩,
 ⟨(some 21),.call 46 true [(.tmp 18),(.tmp 19),(.tmp 20)],none,0⟩,
 ⟨(some 17),.mov (.tmp 21),none,0⟩,
 ⟨(some 22),.extract 0 (.tmp 17),none,0⟩,
 ⟨(some 23),.extract 1 (.tmp 17),none,0⟩,
 ⟨(some 24),.faddr 1 (.tmp 10),none,0⟩,
 ⟨none,.store none (.tmp 24) (.tmp 22),none,0⟩])
 (.seq (.seq (.region 0 [] [
 ⟨(some 25),.mov (.tmp 3),none,0⟩])
 (.cond (.tmp 25)
 (.region 0 [] [
 ⟨(some 26),.faddr 0 (.tmp 10),none,0⟩,
 ⟨(some 27),.load none (.tmp 26),none,0⟩,
 ⟨(some 28),.bin .quo (.tmp 27) (.cst (.c (.int .i64 2))),none,0⟩,
 ⟨(some 29),.faddr 0 (.tmp 10),none,0⟩,
 ⟨none,.store none (.tmp 29) (.tmp 28),none,0⟩])
 .skip))
 (.seq (.region 0 [] [
 ⟨(some 30),.faddr 2 (.tmp 5),none,0⟩,
 ⟨(some 31),.load none (.tmp 30),none,0⟩,
 ⟨(some 32),.faddr 1 (.tmp 10),none,0⟩,
 ⟨(some 33),.load none (.tmp 32),none,0⟩,
 ⟨(some 34),.bin .sub (.tmp 31) (.tmp 33),none,0⟩,
 ⟨(some 35),.faddr 0 (.tmp 10),none,0⟩,
 ⟨(some 36),.load none (.tmp 35),none,0⟩,
 ⟨(some 37),.bin .add (.tmp 34) (.tmp 36),none,0⟩,
 ⟨(some 38),.faddr 2 (.tmp 10),none,0⟩,
 ⟨none,.store none (.tmp 38) (.tmp 37),none,0⟩])
 (.seq (.region 0 [(0,3),(1,3),(2,3),(0,4),(1,4),(2,4),(3,4),(0,5),(1,5),(2,5),(3,5),(0,6),(1,6),(2,6),(3,6),(4,6),(5,6),(0,7),(1,7),(2,7),(3,7),(4,7),(5,7),(0,8),(1,8),(2,8),(3,8),(4,8),(5,8),(6,8),(7,8),(0,9),(1,9),(2,9),(3,9),(4,9),(5,9),(6,9),(7,9),(8,9),(0,10),(1,10),(2,10),(3,10),(4,10),(5,10),(0,12),(1,12),(2,12),(3,12),(4,12),(5,12),(6,12),(7,12),(8,12),(9,12),(10,12),(11,12),(12,13)] [
 ⟨(some 39),.faddr 0 (.tmp 5),none,0⟩,
 ⟨(some 40),.load none (.tmp 39),none,0⟩,
 ⟨(some 41),.bin .add (.tmp 40) (.cst (.c (.int .i64 1))),none,0⟩,
 ⟨(some 42),.mov (.tmp 2),none,0⟩,
 ⟨(some 43),.faddr 2 (.tmp 10),none,0⟩,
 ⟨(some 44),.load none (.tmp 43),none,0⟩,
 ⟨(some 45),.faddr 3 (.tmp 5),none,0⟩,
 ⟨(some 46),.load (some 8) (.tmp 45),none,0⟩,
 ⟨(some 47),.load (some 7) (.tmp 4),none,0⟩,
 ⟨(some 48),.mov (.tmp 2),none,0⟩,
 ⟨(some 49),.call 61 true [(.tmp 46),(.tmp 47),(.tmp 48)],none,0⟩,
 ⟨(some 50),.build [(.int .i64 0),(.int .i64 0),(.int .i64 0),(.int .i64 0),(.int .i64 0),(.int .i64 0),(.int .i64 0),(.int .i64 0),(.int .i64 0),(.int .i64 0),(.int .i64 0)] [(0,1,(.tmp 41)),(1,1,(.tmp 42)),(2,1,(.tmp 44)),(3,8,(.tmp 49))],none,0⟩,
 ⟨(some 51),.load (some 3) (.tmp 10),none,0⟩,
 ⟨none,.store (some 11) (.tmp 8) (.tmp 50),none,0⟩,
 ⟨none,.store (some 3) (.tmp 9) (.tmp 51),none,0⟩])
 .ret))))))⟩
def f48 : AFunc:=⟨9,[.tmp 4],false,
 (.seq (.region 0 [] [
 ⟨(some 4),.mov (.cst (.c (.bool false))),none,0⟩])
 (.seq (.region 0 [] [
 ⟨(some 5),.mov (.tmp 0),none,0⟩,
 ⟨(some 6),.mov (.tmp 1),none,0⟩,
 ⟨(some 7),.call 62 true [(.tmp 5),(.tmp 6)],none,0⟩,
 ⟨(some 8),.bin .geq (.tmp 7) (.cst (.c (.int .i64 0))),none,0⟩,
 ⟨(some 4),.mov (.tmp 8),none,0⟩])
 .ret))⟩
def f49 : AFunc:=⟨15,[.tmp 6],false,
 (.seq (.region 0 [] [
 ⟨(some 6),.mov (.cst (.c (.bool false))),none,0⟩])
 (.seq (.region 0 [] [
 ⟨(some 7),.mov (.tmp 0),none,0⟩,
 ⟨(some 8),.mov (.tmp 1),none,0⟩,
 ⟨(some 9),.bin .geq (.tmp 7) (.tmp 8),none,0⟩,
 ⟨(some 10),.mov (.tmp 9),none,0⟩,
 ⟨(some 11),.mov (.tmp 0),some (10,true),0⟩,
 ⟨(some 12),.mov (.tmp 2),some (10,true),0⟩,
 ⟨(some 13),.bin .leq (.tmp 11) (.tmp 12),some (10,true),0⟩,
 ⟨(some 14),.pick (.tmp 10) (.tmp 13) (.cst (.c (.bool false))),none,0⟩,
 ⟨(some 6),.mov (.tmp 14),none,0⟩])
 .ret))⟩
def f50 : AFunc:=⟨4,[.tmp 2],false,
 (.seq (.region 1 [] [
 ⟨(some 1),.box (.tmp 0),none,0⟩,
 ⟨(some 2),.mov (.cst (.c .nilfn)),none,1⟩])
 (.seq (.region 0 [] [
 ⟨(some 3),.mkfn 63 none [(.tmp 1)],none,0⟩,
 ⟨(some 2),.mov (.tmp 3),none,0⟩])
 .ret))⟩
def f51 : AFunc:=⟨29,[],false,
 (.seq (.region 0 [] [
 ⟨(some 10),.load (some 7) (.tmp 1),none,0⟩,
 ⟨(some 11),.mov (.tmp 0),none,0⟩,
 ⟨(some 12),.call 31 true [(.tmp 10),(.tmp 11)],none,0⟩,
 ⟨(some 9),.mov (.tmp 12),none,0⟩,
 ⟨(some 13),.extract 0 (.tmp 9),none,0⟩,
 ⟨(some 14),.extract 1 (.tmp 9),none,0⟩,
 ⟨(some 15),.extract 2 (.tmp 9),none,0⟩,
 ⟨(some 6),.mov (.tmp 13),none,0⟩,
 ⟨(some 7),.mov (.tmp 14),none,0⟩,
 ⟨(some 8),.mov (.tmp 15),none,0⟩])
 (.seq (.region 0 [] [
 ⟨(some 16),.mov (.tmp 8),none,0⟩,
 ⟨(some 17),.mov (.tmp 16),none,0⟩,
 ⟨(some 18),.load none (.tmp 2),some (17,true),0⟩,
 ⟨(some 19),.not (.tmp 18),some (17,true),0⟩,
 ⟨(some 20),.mov (.tmp 19),some (17,true),0⟩,
 ⟨(some 21),.mov (.tmp 6),some (20,false),0⟩,
 ⟨(some 22),.load none (.tmp 3),some (20,false),0⟩,
 ⟨(some 23),.bin .gtr (.tmp 21) (.tmp 22),some (20,false),0⟩,
 ⟨(some 24),.pick (.tmp 20) (.cst (.c (.bool true))) (.tmp 23),some (17,true),0⟩,
 ⟨(some 25),.pick (.tmp 17) (.tmp 24) (.cst (.c (.bool false))),none,0⟩])
 (.cond (.tmp 25)
 (.region 1 [] [
 ⟨(some 26),.mov (.tmp 0),none,0⟩,
 ⟨(some 27),.clone 52 1 8 (.tmp 26),none,0⟩,
 ⟨(some 28),.mov (.tmp 6),none,1⟩,
 ⟨none,.store none (.tmp 4) (.tmp 27),none,1⟩,
 ⟨none,.store none (.tmp 3) (.tmp 28),none,1⟩,
 ⟨none,.store none (.tmp 2) (.cst (.c (.bool true))),none,1⟩])
 .skip)))⟩
def f52 : AFunc:=⟨8,[.tmp 2],false,
 (.seq (.region 0 [] [
 ⟨(some 2),.mov (.cst (.c .nils)),none,0⟩])
 (.seq (.seq (.region 0 [] [
 ⟨(some 3),.mov (.tmp 0),none,0⟩,
 ⟨(some 4),.isnil false (.tmp 3),none,0⟩])
 (.cond (.tmp 4)
 (.seq (.region 0 [] [
 ⟨(some 2),.mov (.cst (.c .nils)),none,0⟩])
 .ret)
 .skip))
 (.seq (.region 2 [] [
 ⟨(some 5),.bslice 1 0 [(.int .i64 0)] [],none,0⟩,
 ⟨(some 6),.mov (.tmp 0),none,1⟩,
 ⟨(some 7),.append 1 8 (.tmp 5) (.tmp 6),none,1⟩,
 ⟨(some 2),.mov (.tmp 7),none,2⟩])
 .ret)))⟩
def f53 : AFunc:=⟨33,[],false,
 (.seq (.seq (.region 0 [] [
 ⟨(some 8),.mov (.tmp 0),none,0⟩,
 ⟨(some 9),.faddr 0 (.tmp 1),none,0⟩,
 ⟨(some 10),.load none (.tmp 9),none,0⟩,
 ⟨(some 11),.bin .gtr (.tmp 8) (.tmp 10),none,0⟩])
 (.cond (.tmp 11)
 (.seq (.region 0 [] [
 ⟨(some 12),.load none (.tmp 2),none,0⟩,
 ⟨(some 13),.load none (.tmp 3),none,0⟩,
 ⟨(some 14),.callv (.tmp 12) [(.tmp 13)],none,0⟩])
 .ret)
 .skip))
 (.seq (.region 0 [] [
 ⟨(some 15),.faddr 5 (.tmp 1),none,0⟩,
 ⟨(some 16),.load none (.tmp 15),none,0⟩,
 ⟨(some 17),.len (.tmp 16),none,0⟩,
 ⟨(some 18),.mov (.cst (.c (.int .i64 0))),none,0⟩])
 (.block 0 (.loop ⟨[7,19,20,21,22,23,24,25,26,27,28,29,30,31,32],false,[]⟩
 (.seq (.region 0 [] [
 ⟨(some 19),.bin .lss (.tmp 18) (.tmp 17),none,0⟩])
 (.seq (.cond (.tmp 19)
 .skip
 (.exit 0))
 (.seq (.block 1 (.seq (.region 0 [] [
 ⟨(some 20),.mov (.tmp 18),none,0⟩,
 ⟨(some 7),.mov (.tmp 20),none,0⟩])
 (.seq (.region 0 [] [
 ⟨(some 21),.load none (.tmp 3),none,0⟩,
 ⟨(some 22),.mov (.tmp 0),none,0⟩,
 ⟨(some 23),.mov (.tmp 7),none,0⟩,
 ⟨(some 24),.iaddr 1 (.tmp 21) (.tmp 22),none,0⟩,
 ⟨none,.store none (.tmp 24) (.tmp 23),none,0⟩])
 (.seq (.region 0 [] [
 ⟨(some 25),.mov (.tmp 7),none,0⟩,
 ⟨(some 26),.load none (.tmp 4),none,0⟩,
 ⟨(some 27),.bin .neq (.tmp 25) (.tmp 26),none,0⟩])
 (.cond (.tmp 27)
 (.region 0 [] [
 ⟨(some 28),.load none (.tmp 5),none,0⟩,
 ⟨(some 29),.mov (.tmp 0),none,0⟩,
 ⟨(some 30),.bin .add (.tmp 29) (.cst (.c (.int .i64 1))),none,0⟩,
 ⟨(some 31),.callv (.tmp 28) [(.tmp 30)],none,0⟩])
 .skip)))))
 (.region 0 [] [
 ⟨(some 32),.bin .add (.tmp 18) (.cst (.c (.int .i64 1))),none,0⟩,
 ⟨(some 18),.mov (.tmp 32),none,0⟩]))))))))⟩
def f54 : AFunc:=⟨9,[.tmp 4],false,
 (.seq (.region 0 [] [
 ⟨(some 4),.mov (.cst (.c (.bool false))),none,0⟩])
 (.seq (.region 0 [] [
 ⟨(some 5),.mov (.tmp 0),none,0⟩,
 ⟨(some 6),.mov (.tmp 1),none,0⟩,
 ⟨(some 7),.call 65 false [(.tmp 5),(.tmp 6)],none,0⟩,
 ⟨(some 8),.bin .geq (.tmp 7) (.cst (.c (.int .i64 0))),none,0⟩,
 ⟨(some 4),.mov (.tmp 8),none,0⟩])
 .ret))⟩
def f55 : AFunc:=⟨8,[.tmp 3],false,
 (.seq (.region 0 [] [
 ⟨(some 3),.mov (.cst (.c (.bool false))),none,0⟩])
 (.seq (.region 0 [] [
 ⟨(some 4),.load none (.tmp 1),none,0⟩,
 ⟨(some 5),.mov (.tmp 0),none,0⟩,
 ⟨(some 6),.callv (.tmp 4) [(.tmp 5)],none,0⟩,
 ⟨(some 7),.not (.tmp 6),none,0⟩,
 ⟨(some 3),.mov (.tmp 7),none,0⟩])
 .ret))⟩
def f56 : AFunc:=⟨5,[.tmp 2],false,
 (.seq (.region 0 [] [
 ⟨(some 2),.mov (.cst (.c (.int .i64 0))),none,0⟩])
 (.seq (.region 0 [] [
 ⟨(some 3),.mov (.tmp 0),none,0⟩,
 ⟨(some 4),.call 66 true [(.tmp 3)],none,0⟩,
 ⟨(some 2),.mov (.tmp 4),none,0⟩])
 .ret))⟩
def f57 : AFunc:=⟨5,[.tmp 2],false,
 (.seq (.region 0 [] [
 ⟨(some 2),.mov (.cst (.c (.bool false))),none,0⟩])
 (.seq (.region 0 [] [
 ⟨(some 3),.mov (.tmp 0),none,0⟩,
 ⟨(some 4),.call 41 true [(.tmp 3),(.cst (.c (.int .i64 0))),(.cst (.c (.int .i64 99)))],none,0⟩,
 ⟨(some 2),.mov (.tmp 4),none,0⟩])
 .ret))⟩
def f58 : AFunc:=⟨9,[.tmp 4],false,
 (.seq (.region 0 [] [
 ⟨(some 4),.mov (.cst (.c (.bool false))),none,0⟩])
 (.seq (.region 0 [] [
 ⟨(some 5),.mov (.tmp 0),none,0⟩,
 ⟨(some 6),.mov (.tmp 1),none,0⟩,
 ⟨(some 7),.call 67 false [(.tmp 5),(.tmp 6)],none,0⟩,
 ⟨(some 8),.bin .geq (.tmp 7) (.cst (.c (.int .i64 0))),none,0⟩,
 ⟨(some 4),.mov (.tmp 8),none,0⟩])
 .ret))⟩
def f59 : AFunc:=⟨8,[.tmp 3],true,
 (.seq (.region 1 [] [
 ⟨(some 2),.box (.tmp 0),none,0⟩,
 ⟨(some 3),.mov (.cst (.c (.bool false))),none,1⟩])
 (.seq (.region 0 [] [
 ⟨(some 4),.load none (.tmp 1),none,0⟩,
 ⟨(some 5),.load (some 3) (.tmp 2),none,0⟩,
 ⟨(some 6),.callv (.tmp 4) [(.tmp 5)],none,0⟩,
 ⟨(some 7),.not (.tmp 6),none,0⟩,
 ⟨(some 3),.mov (.tmp 7),none,0⟩])
 .ret))⟩
def f60 : AFunc:=⟨36,[.tmp 6],false,
 (.seq (.region 2 [] [
 ⟨(some 3),.box (.tmp 0),none,0⟩,
 ⟨(some 4),.box (.tmp 1),none,1⟩,
 ⟨(some 6),.mov (.cst (.c (.int .i64 0))),none,2⟩])
 (.seq (.seq (.region 0 [] [
 ⟨(some 8),.load (some 8) (.tmp 4),none,0⟩,
 ⟨(some 9),.build [(.int .i64 0),(.int .i64 0),(.int .i64 0),(.int .i64 0),(.int .i64 0),(.int .i64 0),(.int .i64 0),(.int .i64 0)] [],none,0⟩,
 ⟨(some 10),.eqA false [(some .i64),(some .i64),(some .i64),(some .i64),(some .i64),(some .i64),(some .i64),(some .i64)] (.tmp 8) (.tmp 9),none,0⟩])
 (.cond (.tmp 10)
 (.seq (.region 0 [] [
 ⟨(some 11),.faddr 5 (.tmp 3),none,0⟩,
 ⟨(some 12),.load none (.tmp 11),none,0⟩,
 ⟨(some 13),.mov (.tmp 2),none,0⟩,
 ⟨(some 14),.iaddr 3 (.tmp 12) (.tmp 13),none,0⟩,
 ⟨(some 15),.faddr 0 (.tmp 14),none,0⟩,
 ⟨(some 16),.load none (.tmp 15),none,0⟩,
 ⟨(some 6),.mov (.tmp 16),none,0⟩])
 .ret)
 .skip))
 (.seq (.region 1 [] [
 ⟨(some 17),.build [.nilfn] [(0,1,(.cst (.c (.fn 68 false [] []))))],none,0⟩,
 ⟨(some 18),.build [.nilfn] [(0,1,(.cst (.c (.fn 69 false [] []))))],none,0⟩,
 ⟨(some 19),.build [.nilfn] [(0,1,(.cst (.c (.fn 70 false [] []))))],none,0⟩,
 ⟨(some 20),.build [.nilfn,.nilfn,.nilfn] [(0,1,(.tmp 17)),(1,1,(.tmp 18)),(2,1,(.tmp 19))],none,0⟩,
 ⟨(some 7),.alloc [.nilfn,.nilfn,.nilfn],none,0⟩,
 ⟨none,.store (some 3) (.tmp 7) (.tmp 20),none,1⟩])
 (.seq (.region 1 [(0,9),(1,9),(2,9),(3,9),(4,9),(5,9),(6,9),(7,9),(8,9),(0,10),(1,10),(2,10),(3,10),(4,10),(5,10),(6,10),(7,10),(8,10),(0,11),(1,11),(2,11),(3,11),(4,11),(5,11),(6,11),(7,11),(8,11),(9,11),(10,11),(0,12),(1,12),(2,12),(3,12),(4,12),(5,12),(6,12),(7,12),(8,12),(0,13),(1,13),(2,13),(3,13),(4,13),(5,13),(6,13),(7,13),(8,13)] [
 ⟨(some 21),.mov (.tmp 2),none,0⟩,
 ⟨(some 22),.iaddrA 4 2 (.tmp 4) (.tmp 21),none,0⟩,
 ⟨(some 23),.faddr 0 (.tmp 22),none,0⟩,
 ⟨(some 24),.load none (.tmp 23),none,0⟩,
 ⟨(some 25),.bslice 1 2 [(.int .i64 0)] [(0,(.tmp 24)),(1,(.cst (.c (.int .i64 2))))],none,0⟩,
 ⟨(some 26),.call 56 true [(.tmp 25)],none,1⟩,
 ⟨(some 27),.iaddrA 3 1 (.tmp 7) (.tmp 26),none,1⟩,
 ⟨(some 28),.faddr 0 (.tmp 27),none,1⟩,
 ⟨(some 29),.load none (.tmp 28),none,1⟩,
 ⟨(some 30),.faddr 5 (.tmp 3),none,1⟩,
 ⟨(some 31),.load none (.tmp 30),none,1⟩,
 ⟨(some 32),.mov (.tmp 2),none,1⟩,
 ⟨(some 33),.iaddr 3 (.tmp 31) (.tmp 32),none,1⟩,
 ⟨(some 34),.load (some 3) (.tmp 33),none,1⟩,
 ⟨(some 35),.callv (.tmp 29) [(.tmp 34)],none,1⟩,
 ⟨(some 6),.mov (.tmp 35),none,1⟩])
 .ret))))⟩
def f61 : AFunc:=⟨41,[.cell 6 (some 8)],false,
 (.seq (.region 3 [] [
 ⟨(some 3),.box (.tmp 0),none,0⟩,
 ⟨(some 4),.box (.tmp 1),none,1⟩,
 ⟨(some 6),.alloc [(.int .i64 0),(.int .i64 0),(.int .i64 0),(.int .i64 0),(.int .i64 0),(.int .i64 0),(.int .i64 0),(.int .i64 0)],none,2⟩])
 (.seq (.seq (.region 0 [] [
 ⟨(some 8),.mov (.cst (.c (.int .i64 0))),none,0⟩])
 (.block 0 (.loop ⟨[7,9,10,11,12,13,14,15,16,17,18,19,20,21,22,23,24,25,26,27,28,29,30,31,32,33,34,35,36,37,38,39],false,[]⟩
 (.seq (.region 0 [] [
 ⟨(some 9),.bin .lss (.tmp 8) (.cst (.c (.int .i64 4))),none,0⟩])
 (.seq (.cond (.tmp 9)
 .skip
 (.exit 0))
 (.seq (.block 1 (.seq (.region 0 [] [
 ⟨(some 10),.mov (.tmp 8),none,0⟩,
 ⟨(some 7),.mov (.tmp 10),none,0⟩])
 (.seq (.seq (.region 0 [] [
 ⟨(some 11),.mov (.tmp 7),none,0⟩,
 ⟨(some 12),.mov (.tmp 2),none,0⟩,
 ⟨(some 13),.bin .eql (.tmp 11) (.tmp 12),none,0⟩])
 (.cond (.tmp 13)
 (.seq (.region 0 [] [
 ⟨(some 14),.mov (.tmp 7),none,0⟩,
 ⟨(some 15),.mov (.tmp 7),none,0⟩,
 ⟨(some 16),.iaddrA 4 2 (.tmp 3) (.tmp 15),none,0⟩,
 ⟨(some 17),.faddr 0 (.tmp 16),none,0⟩,
 ⟨(some 18),.load none (.tmp 17),none,0⟩,
 ⟨(some 19),.bin .add (.tmp 18) (.cst (.c (.int .i64 1))),none,0⟩,
 ⟨(some 20),.build [(.int .i64 0),(.int .i64 0)] [(0,1,(.tmp 19)),(1,1,(.cst (.c (.int .i64 0))))],none,0⟩,
 ⟨(some 21),.iaddrA 4 2 (.tmp 3) (.tmp 14),none,0⟩,
 ⟨none,.store (some 2) (.tmp 21) (.tmp 20),none,0⟩])
 (.exit 1))
 .skip))
 (.seq (.region 0 [] [
 ⟨(some 22),.mov (.tmp 7),none,0⟩,
 ⟨(some 23),.iaddrA 4 2 (.tmp 3) (.tmp 22),none,0⟩,
 ⟨(some 24),.faddr 1 (.tmp 23),none,0⟩,
 ⟨(some 25),.load none (.tmp 24),none,0⟩,
 ⟨(some 26),.bin .add (.tmp 25) (.cst (.c (.int .i64 1))),none,0⟩,
 ⟨(some 27),.iaddrA 4 2 (.tmp 3) (.tmp 22),none,0⟩,
 ⟨(some 28),.faddr 1 (.tmp 27),none,0⟩,
 ⟨none,.store none (.tmp 28) (.tmp 26),none,0⟩])
 (.seq (.region 0 [(0,4),(1,4),(2,4),(3,4),(0,5),(1,5),(2,5),(3,5)] [
 ⟨(some 29),.mov (.tmp 7),none,0⟩,
 ⟨(some 30),.iaddrA 4 2 (.tmp 3) (.tmp 29),none,0⟩,
 ⟨(some 31),.faddr 1 (.tmp 30),none,0⟩,
 ⟨(some 32),.load none (.tmp 31),none,0⟩,
 ⟨(some 33),.faddr 4 (.tmp 4),none,0⟩,
 ⟨(some 34),.load none (.tmp 33),none,0⟩,
 ⟨(some 35),.bin .geq (.tmp 32) (.tmp 34),none,0⟩])
 (.cond (.tmp 35)
 (.region 0 [] [
 ⟨(some 36),.mov (.tmp 7),none,0⟩,
 ⟨(some 37),.iaddrA 4 2 (.tmp 3) (.tmp 36),none,0⟩,
 ⟨(some 38),.faddr 0 (.tmp 37),none,0⟩,
 ⟨none,.store none (.tmp 38) (.cst (.c (.int .i64 0))),none,0⟩])
 .skip))))))
 (.region 0 [] [
 ⟨(some 39),.bin .add (.tmp 8) (.cst (.c (.int .i64 1))),none,0⟩,
 ⟨(some 8),.mov (.tmp 39),none,0⟩])))))))
 (.seq (.region 0 [] [
 ⟨(some 40),.load (some 8) (.tmp 3),none,0⟩,
 ⟨none,.store (some 8) (.tmp 6) (.tmp 40),none,0⟩])
 .ret)))⟩
def f62 : AFunc:=⟨19,[.tmp 4],false,
 (.seq (.region 0 [] [
 ⟨(some 4),.mov (.cst (.c (.int .i64 0))),none,0⟩])
 (.seq (.seq (.region 0 [] [
 ⟨(some 6),.mov (.tmp 0),none,0⟩,
 ⟨(some 7),.len (.tmp 6),none,0⟩,
 ⟨(some 8),.mov (.cst (.c (.int .i64 0))),none,0⟩])
 (.block 0 (.loop ⟨[4,5,9,10,11,12,13,14,15,16,17,18],false,[]⟩
 (.seq (.region 0 [] [
 ⟨(some 9),.bin .lss (.tmp 8) (.tmp 7),none,0⟩])
 (.seq (.cond (.tmp 9)
 .skip
 (.exit 0))
 (.seq (.block 1 (.seq (.region 0 [] [
 ⟨(some 10),.mov (.tmp 8),none,0⟩,
 ⟨(some 5),.mov (.tmp 10),none,0⟩])
 (.seq (.region 0 [] [
 ⟨(some 11),.mov (.tmp 1),none,0⟩,
 ⟨(some 12),.mov (.tmp 0),none,0⟩,
 ⟨(some 13),.mov (.tmp 5),none,0⟩,
 ⟨(some 14),.iaddr 1 (.tmp 12) (.tmp 13),none,0⟩,
 ⟨(some 15),.load none (.tmp 14),none,0⟩,
 ⟨(some 16),.bin .eql (.tmp 11) (.tmp 15),none,0⟩])
 (.cond (.tmp 16)
 (.seq (.region 0 [] [
 ⟨(some 17),.mov (.tmp 5),none,0⟩,
 ⟨(some 4),.mov (.tmp 17),none,0⟩])
 .ret)
 .skip))))
 (.region 0 [] [
 ⟨(some 18),.bin .add (.tmp 8) (.cst (.c (.int .i64 1))),none,0⟩,
 ⟨(some 8),.mov (.tmp 18),none,0⟩])))))))
 (.seq (.region 0 [] [
 ⟨(some 4),.mov (.cst (.c (.int .i64 (-1)))),none,0⟩])
 .ret)))⟩
def f63 : AFunc:=⟨17,[],false,
 (.seq (.region 1 [] [
 ⟨(some 2),.box (.tmp 0),none,0⟩])
 (.seq (.region 1 [] [
 ⟨(some 3),.alloc [.nilfn],none,0⟩])
 (.seq (.region 0 [] [
 ⟨(some 5),.mkfn 64 none [(.tmp 2),(.tmp 1),(.tmp 3)],none,0⟩,
 ⟨none,.store none (.tmp 3) (.tmp 5),none,0⟩])
 (.seq (.region 0 [] [
 ⟨(some 6),.faddr 3 (.tmp 1),none,0⟩,
 ⟨(some 7),.load none (.tmp 6),none,0⟩,
 ⟨(some 8),.bin .add (.tmp 7) (.cst (.c (.int .i64 1))),none,0⟩,
 ⟨(some 9),.mov (.cst (.c (.int .i64 0))),none,0⟩])
 (.block 0 (.loop ⟨[4,10,11,12,13,14,15,16],false,[]⟩
 (.seq (.region 0 [] [
 ⟨(some 10),.bin .lss (.tmp 9) (.tmp 8),none,0⟩])
 (.seq (.cond (.tmp 10)
 .skip
 (.exit 0))
 (.seq (.block 1 (.seq (.region 0 [] [
 ⟨(some 11),.mov (.tmp 9),none,0⟩,
 ⟨(some 4),.mov (.tmp 11),none,0⟩])
 (.seq (.region 0 [] [
 ⟨(some 12),.load none (.tmp 3),none,0⟩,
 ⟨(some 13),.mov (.tmp 4),none,0⟩,
 ⟨(some 14),.callv (.tmp 12) [(.cst (.c .nils)),(.cst (.c (.int .i64 0))),(.tmp 13)],none,0⟩,
 ⟨(some 15),.not (.tmp 14),none,0⟩])
 (.cond (.tmp 15)
 .ret
 .skip))))
 (.region 0 [] [
 ⟨(some 16),.bin .add (.tmp 9) (.cst (.c (.int .i64 1))),none,0⟩,
 ⟨(some 9),.mov (.tmp 16),none,0⟩]))))))))))⟩
def f64 : AFunc:=⟨38,[.tmp 9],false,
 (.seq (.region 0 [] [
 ⟨(some 9),.mov (.cst (.c (.bool false))),none,0⟩])
 (.seq (.seq (.region 0 [] [
 ⟨(some 11),.mov (.tmp 2),none,0⟩,
 ⟨(some 12),.bin .eql (.tmp 11) (.cst (.c (.int .i64 0))),none,0⟩])
 (.cond (.tmp 12)
 (.seq (.region 0 [] [
 ⟨(some 13),.load none (.tmp 3),none,0⟩,
 ⟨(some 14),.mov (.tmp 0),none,0⟩,
 ⟨(some 15),.callv (.tmp 13) [(.tmp 14)],none,0⟩,
 ⟨(some 9),.mov (.tmp 15),none,0⟩])
 .ret)
 .skip))
 (.seq (.seq (.region 0 [] [
 ⟨(some 16),.mov (.tmp 1),none,0⟩,
 ⟨(some 10),.mov (.tmp 16),none,0⟩])
 (.block 0 (.loop ⟨[9,17,18,19,20,21,22,23,24,25,26,27,28,29,30,31,32,33,34,35,36,37],false,[]⟩
 (.seq (.seq (.region 0 [] [
 ⟨(some 17),.mov (.tmp 10),none,0⟩,
 ⟨(some 18),.faddr 0 (.tmp 4),none,0⟩,
 ⟨(some 19),.load none (.tmp 18),none,0⟩,
 ⟨(some 20),.bin .add (.tmp 19) (.cst (.c (.int .i64 1))),none,0⟩,
 ⟨(some 21),.mov (.tmp 2),none,0⟩,
 ⟨(some 22),.bin .sub (.tmp 20) (.tmp 21),none,0⟩,
 ⟨(some 23),.bin .leq (.tmp 17) (.tmp 22),none,0⟩])
 (.cond (.tmp 23)
 .skip
 (.exit 0)))
 (.seq (.block 1 (.seq (.region 3 [(0,1),(0,2),(0,3),(1,3),(2,3),(0,4),(1,4),(2,4),(0,5),(0,6),(1,6),(2,6),(3,6),(4,6),(5,6),(0,7),(1,7),(2,7),(3,7),(4,7),(5,7),(0,8),(1,8),(2,8),(3,8),(4,8),(5,8),(6,8),(7,8),(0,9),(1,9),(2,9),(3,9),(4,9),(5,9),(6,9),(7,9)] [
 ⟨(some 26),.load none (.tmp 5),none,0⟩,
 ⟨(some 27),.mov (.tmp 0),none,0⟩,
 ⟨(some 28),.clone 52 1 8 (.tmp 27),none,0⟩,
 ⟨(some 29),.mov (.tmp 10),none,1⟩,
 ⟨(some 30),.bslice 1 1 [(.int .i64 0)] [(0,(.tmp 29))],none,1⟩,
 ⟨(some 31),.append 1 8 (.tmp 28) (.tmp 30),none,2⟩,
 ⟨(some 32),.mov (.tmp 10),none,3⟩,
 ⟨(some 33),.bin .add (.tmp 32) (.cst (.c (.int .i64 1))),none,3⟩,
 ⟨(some 34),.mov (.tmp 2),none,3⟩,
 ⟨(some 35),.bin .sub (.tmp 34) (.cst (.c (.int .i64 1))),none,3⟩,
 ⟨(some 36),.callv (.tmp 26) [(.tmp 31),(.tmp 33),(.tmp 35)],none,3⟩,
 ⟨(some 37),.not (.tmp 36),none,3⟩])
 (.cond (.tmp 37)
 (.seq (.region 0 [] [
 ⟨(some 9),.mov (.cst (.c (.bool false))),none,0⟩])
 .ret)
 .skip)))
 (.region 0 [] [
 ⟨(some 24),.mov (.tmp 10),none,0⟩,
 ⟨(some 25),.bin .add (.tmp 24) (.cst (.c (.int .i64 1))),none,0⟩,
 ⟨(some 10),.mov (.tmp 25),none,0⟩]))))))
 (.seq (.region 0 [] [
 ⟨(some 9),.mov (.cst (.c (.bool true))),none,0⟩])
 .ret))))⟩
def f65 : AFunc:=⟨19,[.tmp 4],false,
 (.seq (.region 0 [] [
 ⟨(some 4),.mov (.cst (.c (.int .i64 0))),none,0⟩])
 (.seq (.seq (.region 0 [] [
 ⟨(some 6),.mov (.tmp 0),none,0⟩,
 ⟨(some 7),.len (.tmp 6),none,0⟩,
 ⟨(some 8),.mov (.cst (.c (.int .i64 0))),none,0⟩])
 (.block 0 (.loop ⟨[4,5,9,10,11,12,13,14,15,16,17,18],false,[]⟩
 (.seq (.region 0 [] [
 ⟨(some 9),.bin .lss (.tmp 8) (.tmp 7),none,0⟩])
 (.seq (.cond (.tmp 9)
 .skip
 (.exit 0))
 (.seq (.block 1 (.seq (.region 0 [] [
 ⟨(some 10),.mov (.tmp 8),none,0⟩,
 ⟨(some 5),.mov (.tmp 10),none,0⟩])
 (.seq (.region 0 [] [
 ⟨(some 11),.mov (.tmp 1),none,0⟩,
 ⟨(some 12),.mov (.tmp 0),none,0⟩,
 ⟨(some 13),.mov (.tmp 5),none,0⟩,
 ⟨(some 14),.iaddr 1 (.tmp 12) (.tmp 13),none,0⟩,
 ⟨(some 15),.load none (.tmp 14),none,0⟩,
 ⟨(some 16),.callv (.tmp 11) [(.tmp 15)],none,0⟩])
 (.cond (.tmp 16)
 (.seq (.region 0 [] [
 ⟨(some 17),.mov (.tmp 5),none,0⟩,
 ⟨(some 4),.mov (.tmp 17),none,0⟩])
 .ret)
 .skip))))
 (.region 0 [] [
 ⟨(some 18),.bin .add (.tmp 8) (.cst (.c (.int .i64 1))),none,0⟩,
 ⟨(some 8),.mov (.tmp 18),none,0⟩])))))))
 (.seq (.region 0 [] [
 ⟨(some 4),.mov (.cst (.c (.int .i64 (-1)))),none,0⟩])
 .ret)))⟩
def f66 : AFunc:=⟨25,[.tmp 2],false,
 (.seq (.region 0 [] [
 ⟨(some 2),.mov (.cst (.c (.int .i64 0))),none,0⟩])
 (.seq (.seq (.region 0 [] [
 ⟨(some 5),.mov (.tmp 0),none,0⟩,
 ⟨(some 6),.len (.tmp 5),none,0⟩,
 ⟨(some 7),.bin .lss (.tmp 6) (.cst (.c (.int .i64 1))),none,0⟩])
 (.cond (.tmp 7)
 (.region 0 [] [
 ⟨(some 8),.pick (.cst (.c .any)) (.cst (.c .any)) (.cst (.c .any)),none,0⟩,
 ⟨none,.pick (.cst (.c .any)) (.cst (.c .any)) (.cst (.c .any)),none,0⟩])
 .skip))
 (.seq (.region 0 [] [
 ⟨(some 9),.mov (.tmp 0),none,0⟩,
 ⟨(some 10),.iaddr 1 (.tmp 9) (.cst (.c (.int .i64 0))),none,0⟩,
 ⟨(some 11),.load none (.tmp 10),none,0⟩,
 ⟨(some 3),.mov (.tmp 11),none,0⟩])
 (.seq (.seq (.region 0 [] [
 ⟨(some 4),.mov (.cst (.c (.int .i64 1))),none,0⟩])
 (.block 0 (.loop ⟨[12,13,14,15,16,17,18,19,20,21,22,23],false,[]⟩
 (.seq (.seq (.region 0 [] [
 ⟨(some 12),.mov (.tmp 4),none,0⟩,
 ⟨(some 13),.mov (.tmp 0),none,0⟩,
 ⟨(some 14),.len (.tmp 13),none,0⟩,
 ⟨(some 15),.bin .lss (.tmp 12) (.tmp 14),none,0⟩])
 (.cond (.tmp 15)
 .skip
 (.exit 0)))
 (.seq (.block 1 (.region 0 [] [
 ⟨(some 18),.mov (.tmp 3),none,0⟩,
 ⟨(some 19),.mov (.tmp 0),none,0⟩,
 ⟨(some 20),.mov (.tmp 4),none,0⟩,
 ⟨(some 21),.iaddr 1 (.tmp 19) (.tmp 20),none,0⟩,
 ⟨(some 22),.load none (.tmp 21),none,0⟩,
 ⟨(some 23),.mm false (.tmp 18) (.tmp 22),none,0⟩,
 ⟨(some 3),.mov (.tmp 23),none,0⟩]))
 (.region 0 [] [
 ⟨(some 16),.mov (.tmp 4),none,0⟩,
 ⟨(some 17),.bin .add (.tmp 16) (.cst (.c (.int .i64 1))),none,0⟩,
 ⟨(some 4),.mov (.tmp 17),none,0⟩]))))))
 (.seq (.region 0 [] [
 ⟨(some 24),.mov (.tmp 3),none,0⟩,
 ⟨(some 2),.mov (.tmp 24),none,0⟩])
 .ret)))))⟩
def f67 : AFunc:=⟨19,[.tmp 4],false,
 (.seq (.region 0 [] [
 ⟨(some 4),.mov (.cst (.c (.int .i64 0))),none,0⟩])
 (.seq (.seq (.region 0 [] [
 ⟨(some 6),.mov (.tmp 0),none,0⟩,
 ⟨(some 7),.len (.tmp 6),none,0⟩,
 ⟨(some 8),.mov (.cst (.c (.int .i64 0))),none,0⟩])
 (.block 0 (.loop ⟨[4,5,9,10,11,12,13,14,15,16,17,18],false,[]⟩
 (.seq (.region 0 [] [
 ⟨(some 9),.bin .lss (.tmp 8) (.tmp 7),none,0⟩])
 (.seq (.cond (.tmp 9)
 .skip
 (.exit 0))
 (.seq (.block 1 (.seq (.region 0 [] [
 ⟨(some 10),.mov (.tmp 8),none,0⟩,
 ⟨(some 5),.mov (.tmp 10),none,0⟩])
 (.seq (.region 0 [] [
 ⟨(some 11),.mov (.tmp 1),none,0⟩,
 ⟨(some 12),.mov (.tmp 0),none,0⟩,
 ⟨(some 13),.mov (.tmp 5),none,0⟩,
 ⟨(some 14),.iaddr 3 (.tmp 12) (.tmp 13),none,0⟩,
 ⟨(some 15),.load (some 3) (.tmp 14),none,0⟩,
 ⟨(some 16),.callv (.tmp 11) [(.tmp 15)],none,0⟩])
 (.cond (.tmp 16)
 (.seq (.region 0 [] [
 ⟨(some 17),.mov (.tmp 5),none,0⟩,
 ⟨(some 4),.mov (.tmp 17),none,0⟩])
 .ret)
 .skip))))
 (.region 0 [] [
 ⟨(some 18),.bin .add (.tmp 8) (.cst (.c (.int .i64 1))),none,0⟩,
 ⟨(some 8),.mov (.tmp 18),none,0⟩])))))))
 (.seq (.region 0 [] [
 ⟨(some 4),.mov (.cst (.c (.int .i64 (-1)))),none,0⟩])
 .ret)))⟩
def f68 : AFunc:=⟨5,[.tmp 2],true,
 (.seq (.region 1 [] [
 ⟨(some 1),.box (.tmp 0),none,0⟩,
 ⟨(some 2),.mov (.cst (.c (.int .i64 0))),none,1⟩])
 (.seq (.region 0 [] [
 ⟨(some 3),.faddr 0 (.tmp 1),none,0⟩,
 ⟨(some 4),.load none (.tmp 3),none,0⟩,
 ⟨(some 2),.mov (.tmp 4),none,0⟩])
 .ret))⟩
def f69 : AFunc:=⟨5,[.tmp 2],true,
 (.seq (.region 1 [] [
 ⟨(some 1),.box (.tmp 0),none,0⟩,
 ⟨(some 2),.mov (.cst (.c (.int .i64 0))),none,1⟩])
 (.seq (.region 0 [] [
 ⟨(some 3),.faddr 1 (.tmp 1),none,0⟩,
 ⟨(some 4),.load none (.tmp 3),none,0⟩,
 ⟨(some 2),.mov (.tmp 4),none,0⟩])
 .ret))⟩
def f70 : AFunc:=⟨3,[.tmp 2],true,
 (.seq (.region 1 [] [
 ⟨(some 1),.box (.tmp 0),none,0⟩,
 ⟨(some 2),.mov (.cst (.c (.int .i64 0))),none,1⟩])
 (.seq (.region 0 [] [
 ⟨(some 2),.mov (.cst (.c (.int .i64 0))),none,0⟩])
 .ret))⟩
def tabL : List (Option AFunc):=[none,none,none,some f3,some f4,some f5,some f6,some f7,some f8,some f9,some f10,some f11,some f12,some f13,some f14,some f15,some f16,some f17,some f18,some f19,some f20,some f21,some f22,some f23,some f24,some f25,some f26,some f27,some f28,some f29,some f30,some f31,some f32,some f33,some f34,some f35,some f36,some f37,some f38,some f39,some f40,some f41,some f42,some f43,some f44,some f45,some f46,some f47,some f48,some f49,some f50,some f51,some f52,some f53,some f54,some f55,some f56,some f57,some f58,some f59,some f60,some f61,some f62,some f63,some f64,some f65,some f66,some f67,some f68,some f69,some f70,none,none,none,none,none,none,none,none,none,none,none,none,none,none,none,none,none]
def litcL : List (Nat × Nat):=[(14,10),(3,74)]
def litL : List (Nat × Nat):=[]
def frzL : List (Nat × Nat × Nat):=[(3,127,12)]
def tab (k:Nat):Option AFunc:=(nth tabL k).join
def annL : List (Nat × Nat × Ann):=[(3,0,⟨[58,59,60,61,62,63,64,65,66,67,68,69,70,71,72,73,74,75],false,[]⟩),(3,2,⟨[8,228,229,230,231,232,233,234,235,236,237,238,239,240,241,242,243,244,245,246,247,248,249,250,251,252,253,254,255,256,257,258,259,260,261,262,263,264,265,266,267,268,269,270],false,[]⟩),(10,0,⟨[5,18,19,20,21,22,23,24,25,26,27,28,29,30,31,32,33,34,35,36,37,38,39,40,41],true,[(3,(some 5),3)]⟩),(10,2,⟨[42,43,44,45,46,47,48,49,50,51,52,53,54,55,56,57,58,59],true,[(3,(some 6),1)]⟩),(12,0,⟨[2,14,15,16,17,18,19,20,21,22,23,24,25,26,27],false,[]⟩),(22,0,⟨[4,11,12,13,14,15,16,17,18,19,20,21,22,23,24,25],false,[]⟩),(23,0,⟨[13,14,15,16,17,18,19,20,21,22,23,24,25,26,27,28,29],false,[]⟩),(24,0,⟨[5,6,7,8,9,10,11,12,13,14,15],false,[]⟩),(25,0,⟨[5,6,7,8,9,10,11,12,13,14,15,16,17,18,19,20,21,22,23,24,25],true,[(3,none,1)]⟩),(29,0,⟨[8,9,10,11,12,13,19,20,21,22,23,24,25,26,27,28,29,30,31,32,33,34,35,36,37,38,39,40,41,42,43,44,45,46,47],true,[(6,none,3)]⟩),(30,0,⟨[2,5,6,60,61,62,63,64,65,66,67,68,69,70,71,72,73,74,75,76,77,78,79,80,81,82,83,84,85,86,87,88,89,90,91,92,93,94,95,96,97,98,99,100,101,102,103,104,105,106,107,108,109,110,111,112,113,114,115,116,117,118,119,120,121,122,123],true,[]⟩),(30,2,⟨[2,109,110,111,112,113,114,115,116,117,118,119,120,121,122,123],false,[]⟩),(35,0,⟨[4,6,7,13,14,15,16,17,18,19,20,21],false,[]⟩),(38,0,⟨[7,8,9,10,11,12,13,45,46,47,48,49,50,51,52,53,54,55,56,57,58,59,60,61,62,63,64,65,66,67,68,69,70,71,72,73,74,75,76,77,78,79,80,81,82,83,84,85,86,87,88,89,90,91,92,93,94,95,96,97,98,99,100,101,102,103,104,105,106,107,108,109,110,111,112,113,114,115,116,117,118,119,120,121,122,123,124,125,126,127,128,129,130],false,[]⟩),(39,0,⟨[5,6,7,8,9,10,11,12,13,14,15,16,17,18,19,20,21],true,[(3,none,1)]⟩),(43,0,⟨[2,3,4,9,10,11,12,13,14,15,16,17,18,19,20,21,22,23,24,25,26,27,28,29,30,31,32,33,34,35],true,[]⟩),(53,0,⟨[7,19,20,21,22,23,24,25,26,27,28,29,30,31,32],false,[]⟩),(61,0,⟨[7,9,10,11,12,13,14,15,16,17,18,19,20,21,22,23,24,25,26,27,28,29,30,31,32,33,34,35,36,37,38,39],false,[]⟩),(62,0,⟨[4,5,9,10,11,12,13,14,15,16,17,18],false,[]⟩),(63,0,⟨[4,10,11,12,13,14,15,16],false,[]⟩),(64,0,⟨[9,17,18,19,20,21,22,23,24,25,26,27,28,29,30,31,32,33,34,35,36,37],false,[]⟩),(65,0,⟨[4,5,9,10,11,12,13,14,15,16,17,18],false,[]⟩),(66,0,⟨[12,13,14,15,16,17,18,19,20,21,22,23],false,[]⟩),(67,0,⟨[4,5,9,10,11,12,13,14,15,16,17,18],false,[]⟩)]
def dropL : List Nat:=[36,40,59,68,69,70]
def cloneL : List (Nat × Nat):=[(52,3)]
def growL : List (Nat × Nat):=[]
def pureL : List Nat:=[0,1,2,3,4,5,6,7,8,9,10,11,12,13,14,15,16,17,18,19,20,21,22,23,24,25,26,27,28,29,30,31,32,35,36,39,40,41,43,45,46,47,48,49,56,57,60,61,62,66,68,69,70,72]
def pinL : List (Nat × Nat × Nat × Bool):=[(3,73,8,false)]
end Am.Tm
