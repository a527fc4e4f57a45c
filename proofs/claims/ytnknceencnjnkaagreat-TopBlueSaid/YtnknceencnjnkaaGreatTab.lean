/-
  A part of the proof: the texts VtTab of this seat, joined.
-/
import Derived.Test.YtnknceencnjnkaaGreatTabA
namespace Am.Vt
open Go Am
set_option maxRecDepth 100000
def f57 : AFunc:=⟨43,[.tmp 4],false,
 (.seq (.region 1 [] [
 ⟨(some 2),.box (.tmp 0),none,0⟩,
 ⟨(some 4),.mov (.cst (.c (.bool false))),none,1⟩])
 (.seq (.seq (.region 0 [] [
 ⟨(some 5),.mov (.cst (.c (.int .i64 0))),none,0⟩])
 (.block 0 (.loop ⟨[4,6,7,8,9,10,11,12,13,14,15,16,17,18,19,20,21,22,23,24,25,26,27,28,29,30,31,32,33,34,35,36],false,[]⟩
 (.seq (.seq (.region 0 [] [
 ⟨(some 6),.mov (.tmp 5),none,0⟩,
 ⟨(some 7),.mov (.tmp 1),none,0⟩,
 ⟨(some 8),.len (.tmp 7),none,0⟩,
 ⟨(some 9),.bin .lss (.tmp 6) (.tmp 8),none,0⟩,
 ⟨(some 10),.mov (.tmp 9),none,0⟩,
 ⟨(some 11),.mov (.tmp 5),some (10,true),0⟩,
 ⟨(some 12),.faddr 0 (.tmp 2),some (10,true),0⟩,
 ⟨(some 13),.load none (.tmp 12),some (10,true),0⟩,
 ⟨(some 14),.len (.tmp 13),some (10,true),0⟩,
 ⟨(some 15),.bin .lss (.tmp 11) (.tmp 14),some (10,true),0⟩,
 ⟨(some 16),.pick (.tmp 10) (.tmp 15) (.cst (.c (.bool false))),none,0⟩])
 (.cond (.tmp 16)
 .skip
 (.exit 0)))
 (.seq (.block 1 (.seq (.region 0 [(0,1),(0,4),(1,4),(2,4),(3,4),(0,5),(1,5),(2,5),(3,5),(0,6),(1,6),(2,6),(3,6),(4,6),(5,6),(0,7),(1,7),(2,7),(3,7),(0,8),(1,8),(2,8),(3,8),(0,9),(1,9),(2,9),(3,9),(0,10),(1,10),(2,10),(3,10),(4,10),(5,10),(6,10),(7,10),(8,10),(9,10),(0,11),(1,11),(2,11),(3,11),(4,11),(5,11),(6,11),(7,11),(8,11),(9,11),(0,12),(1,12),(2,12),(3,12),(4,12),(5,12),(6,12),(7,12),(8,12),(9,12),(10,12),(11,12),(0,13),(1,13),(2,13),(3,13),(4,13),(5,13),(6,13),(7,13),(8,13),(9,13),(0,14),(1,14),(2,14),(3,14),(4,14),(5,14),(6,14),(7,14),(8,14),(9,14),(0,15),(1,15),(2,15),(3,15),(4,15),(5,15),(6,15),(7,15),(8,15),(9,15)] [
 ⟨(some 19),.mov (.tmp 1),none,0⟩,
 ⟨(some 20),.mov (.tmp 5),none,0⟩,
 ⟨(some 21),.iaddr 1 (.tmp 19) (.tmp 20),none,0⟩,
 ⟨(some 22),.load none (.tmp 21),none,0⟩,
 ⟨(some 23),.faddr 0 (.tmp 2),none,0⟩,
 ⟨(some 24),.load none (.tmp 23),none,0⟩,
 ⟨(some 25),.mov (.tmp 5),none,0⟩,
 ⟨(some 26),.iaddr 2 (.tmp 24) (.tmp 25),none,0⟩,
 ⟨(some 27),.faddr 0 (.tmp 26),none,0⟩,
 ⟨(some 28),.load none (.tmp 27),none,0⟩,
 ⟨(some 29),.faddr 0 (.tmp 2),none,0⟩,
 ⟨(some 30),.load none (.tmp 29),none,0⟩,
 ⟨(some 31),.mov (.tmp 5),none,0⟩,
 ⟨(some 32),.iaddr 2 (.tmp 30) (.tmp 31),none,0⟩,
 ⟨(some 33),.faddr 1 (.tmp 32),none,0⟩,
 ⟨(some 34),.load none (.tmp 33),none,0⟩,
 ⟨(some 35),.call 26 true [(.tmp 22),(.tmp 28),(.tmp 34)],none,0⟩,
 ⟨(some 36),.not (.tmp 35),none,0⟩])
 (.cond (.tmp 36)
 (.seq (.region 0 [] [
 ⟨(some 4),.mov (.cst (.c (.bool false))),none,0⟩])
 .ret)
 .skip)))
 (.region 0 [] [
 ⟨(some 17),.mov (.tmp 5),none,0⟩,
 ⟨(some 18),.bin .add (.tmp 17) (.cst (.c (.int .i64 1))),none,0⟩,
 ⟨(some 5),.mov (.tmp 18),none,0⟩]))))))
 (.seq (.region 0 [] [
 ⟨(some 37),.mov (.tmp 1),none,0⟩,
 ⟨(some 38),.len (.tmp 37),none,0⟩,
 ⟨(some 39),.faddr 0 (.tmp 2),none,0⟩,
 ⟨(some 40),.load none (.tmp 39),none,0⟩,
 ⟨(some 41),.len (.tmp 40),none,0⟩,
 ⟨(some 42),.bin .eql (.tmp 38) (.tmp 41),none,0⟩,
 ⟨(some 4),.mov (.tmp 42),none,0⟩])
 .ret)))⟩
def f58 : AFunc:=⟨28,[.tmp 6],false,
 (.seq (.region 2 [] [
 ⟨(some 3),.box (.tmp 0),none,0⟩,
 ⟨(some 5),.box (.tmp 2),none,1⟩,
 ⟨(some 6),.mov (.cst (.c (.bool false))),none,2⟩])
 (.seq (.region 0 [] [
 ⟨(some 8),.faddr 1 (.tmp 5),none,0⟩,
 ⟨(some 9),.load none (.tmp 8),none,0⟩,
 ⟨(some 7),.mov (.tmp 9),none,0⟩])
 (.seq (.seq (.region 0 [] [
 ⟨(some 10),.faddr 0 (.tmp 5),none,0⟩,
 ⟨(some 11),.load none (.tmp 10),none,0⟩])
 (.cond (.tmp 11)
 (.region 0 [] [
 ⟨(some 12),.mov (.tmp 7),none,0⟩,
 ⟨(some 13),.faddr 0 (.tmp 3),none,0⟩,
 ⟨(some 14),.load none (.tmp 13),none,0⟩,
 ⟨(some 15),.len (.tmp 14),none,0⟩,
 ⟨(some 16),.bin .add (.tmp 12) (.tmp 15),none,0⟩,
 ⟨(some 7),.mov (.tmp 16),none,0⟩])
 .skip))
 (.seq (.region 0 [(0,1),(0,2),(1,2),(0,4),(1,4),(2,4),(3,4),(0,5),(1,5),(2,5),(3,5),(0,6),(1,6),(2,6),(3,6),(0,7),(1,7),(2,7),(3,7),(4,7),(5,7),(6,7),(0,8),(1,8),(2,8),(3,8),(4,8),(5,8),(6,8),(0,9),(1,9),(2,9),(3,9),(4,9),(5,9),(6,9)] [
 ⟨(some 17),.load (some 3) (.tmp 3),none,0⟩,
 ⟨(some 18),.mov (.tmp 1),none,0⟩,
 ⟨(some 19),.mov (.tmp 7),none,0⟩,
 ⟨(some 20),.call 93 true [(.tmp 17),(.tmp 18),(.tmp 19)],none,0⟩,
 ⟨(some 21),.faddr 2 (.tmp 5),none,0⟩,
 ⟨(some 22),.faddr 0 (.tmp 21),none,0⟩,
 ⟨(some 23),.load none (.tmp 22),none,0⟩,
 ⟨(some 24),.faddr 2 (.tmp 5),none,0⟩,
 ⟨(some 25),.faddr 1 (.tmp 24),none,0⟩,
 ⟨(some 26),.load none (.tmp 25),none,0⟩,
 ⟨(some 27),.call 26 true [(.tmp 20),(.tmp 23),(.tmp 26)],none,0⟩,
 ⟨(some 6),.mov (.tmp 27),none,0⟩])
 .ret))))⟩
def f59 : AFunc:=⟨6,[.tmp 4],false,
 (.seq (.region 2 [] [
 ⟨(some 2),.box (.tmp 0),none,0⟩,
 ⟨(some 3),.box (.tmp 1),none,1⟩,
 ⟨(some 4),.mov (.cst (.c .nilfn)),none,2⟩])
 (.seq (.region 0 [] [
 ⟨(some 5),.mkfn 94 none [(.tmp 2),(.tmp 3)],none,0⟩,
 ⟨(some 4),.mov (.tmp 5),none,0⟩])
 .ret))⟩
def f60 : AFunc:=⟨26,[.tmp 6],false,
 (.seq (.region 2 [] [
 ⟨(some 3),.box (.tmp 0),none,0⟩,
 ⟨(some 4),.box (.tmp 1),none,1⟩,
 ⟨(some 6),.mov (.cst (.c (.int .i64 0))),none,2⟩])
 (.seq (.seq (.region 0 [] [
 ⟨(some 8),.faddr 0 (.tmp 3),none,0⟩,
 ⟨(some 9),.load none (.tmp 8),none,0⟩,
 ⟨(some 10),.len (.tmp 9),none,0⟩,
 ⟨(some 7),.mov (.tmp 10),none,0⟩])
 (.seq (.region 0 [] [
 ⟨(some 11),.mov (.tmp 2),none,0⟩,
 ⟨(some 12),.mov (.tmp 7),none,0⟩,
 ⟨(some 13),.bin .geq (.tmp 11) (.tmp 12),none,0⟩])
 (.cond (.tmp 13)
 (.seq (.region 0 [(0,1),(0,2),(0,3),(1,3),(2,3),(0,4),(1,4),(2,4),(3,4),(0,5),(1,5),(2,5),(0,6),(0,7)] [
 ⟨(some 14),.load (some 3) (.tmp 4),none,0⟩,
 ⟨(some 15),.faddr 1 (.tmp 3),none,0⟩,
 ⟨(some 16),.load none (.tmp 15),none,0⟩,
 ⟨(some 17),.mov (.tmp 2),none,0⟩,
 ⟨(some 18),.mov (.tmp 7),none,0⟩,
 ⟨(some 19),.bin .sub (.tmp 17) (.tmp 18),none,0⟩,
 ⟨(some 20),.iaddr 1 (.tmp 16) (.tmp 19),none,0⟩,
 ⟨(some 21),.load none (.tmp 20),none,0⟩,
 ⟨(some 22),.call 38 true [(.tmp 14),(.tmp 21)],none,0⟩,
 ⟨(some 6),.mov (.tmp 22),none,0⟩])
 .ret)
 .skip)))
 (.seq (.region 0 [] [
 ⟨(some 23),.mov (.tmp 2),none,0⟩,
 ⟨(some 24),.iaddrA 3 1 (.tmp 4) (.tmp 23),none,0⟩,
 ⟨(some 25),.load none (.tmp 24),none,0⟩,
 ⟨(some 6),.mov (.tmp 25),none,0⟩])
 .ret)))⟩
def f61 : AFunc:=⟨15,[.cell 4 (some 2)],false,
 (.seq (.region 2 [] [
 ⟨(some 2),.box (.tmp 0),none,0⟩,
 ⟨(some 4),.alloc [(.int .i64 0),(.int .i64 0)],none,1⟩])
 (.seq (.region 1 [(0,2),(1,2),(0,5),(1,5),(2,5),(3,5),(4,5),(0,6),(1,6),(2,6),(3,6),(4,6),(0,7),(1,7),(2,7),(3,7),(4,7),(5,7),(6,7),(0,8),(1,8),(2,8),(3,8),(4,8)] [
 ⟨(some 5),.faddr 0 (.tmp 2),none,0⟩,
 ⟨(some 6),.load none (.tmp 5),none,0⟩,
 ⟨(some 7),.mov (.tmp 1),none,0⟩,
 ⟨(some 8),.bslice 1 2 [(.int .i64 0)] [(0,(.tmp 6)),(1,(.tmp 7))],none,0⟩,
 ⟨(some 9),.call 68 true [(.tmp 8)],none,1⟩,
 ⟨(some 10),.faddr 1 (.tmp 2),none,1⟩,
 ⟨(some 11),.load none (.tmp 10),none,1⟩,
 ⟨(some 12),.mov (.tmp 1),none,1⟩,
 ⟨(some 13),.mm true (.tmp 11) (.tmp 12),none,1⟩,
 ⟨(some 14),.build [(.int .i64 0),(.int .i64 0)] [(0,1,(.tmp 9)),(1,1,(.tmp 13))],none,1⟩,
 ⟨none,.store (some 2) (.tmp 4) (.tmp 14),none,1⟩])
 .ret))⟩
def f62 : AFunc:=⟨24,[.tmp 4],false,
 (.seq (.region 2 [] [
 ⟨(some 2),.box (.tmp 0),none,0⟩,
 ⟨(some 3),.box (.tmp 1),none,1⟩,
 ⟨(some 4),.mov (.cst (.c (.bool false))),none,2⟩])
 (.seq (.region 0 [] [
 ⟨(some 6),.faddr 0 (.tmp 2),none,0⟩,
 ⟨(some 7),.load none (.tmp 6),none,0⟩,
 ⟨(some 8),.len (.tmp 7),none,0⟩,
 ⟨(some 5),.mov (.tmp 8),none,0⟩])
 (.seq (.seq (.region 0 [] [
 ⟨(some 9),.faddr 0 (.tmp 3),none,0⟩,
 ⟨(some 10),.load none (.tmp 9),none,0⟩])
 (.cond (.tmp 10)
 (.region 0 [] [
 ⟨(some 11),.faddr 1 (.tmp 2),none,0⟩,
 ⟨(some 12),.load none (.tmp 11),none,0⟩,
 ⟨(some 13),.len (.tmp 12),none,0⟩,
 ⟨(some 5),.mov (.tmp 13),none,0⟩])
 .skip))
 (.seq (.region 0 [] [
 ⟨(some 14),.faddr 1 (.tmp 3),none,0⟩,
 ⟨(some 15),.load none (.tmp 14),none,0⟩,
 ⟨(some 16),.mov (.tmp 5),none,0⟩,
 ⟨(some 17),.bin .sub (.tmp 16) (.cst (.c (.int .i64 1))),none,0⟩,
 ⟨(some 18),.call 97 true [(.tmp 15),(.cst (.c (.int .i64 0))),(.tmp 17)],none,0⟩,
 ⟨(some 19),.mov (.tmp 18),none,0⟩,
 ⟨(some 20),.faddr 2 (.tmp 3),some (19,true),0⟩,
 ⟨(some 21),.load (some 2) (.tmp 20),some (19,true),0⟩,
 ⟨(some 22),.call 65 true [(.tmp 21)],some (19,true),0⟩,
 ⟨(some 23),.pick (.tmp 19) (.tmp 22) (.cst (.c (.bool false))),none,0⟩,
 ⟨(some 4),.mov (.tmp 23),none,0⟩])
 .ret))))⟩
def f63 : AFunc:=⟨13,[.tmp 4],false,
 (.seq (.region 1 [] [
 ⟨(some 2),.box (.tmp 0),none,0⟩,
 ⟨(some 4),.mov (.cst (.c (.bool false))),none,1⟩])
 (.seq (.region 0 [] [
 ⟨(some 5),.load (some 3) (.tmp 2),none,0⟩,
 ⟨(some 6),.mov (.tmp 1),none,0⟩,
 ⟨(some 7),.call 98 true [(.tmp 5),(.tmp 6)],none,0⟩,
 ⟨(some 8),.mov (.tmp 7),none,0⟩,
 ⟨(some 9),.mov (.tmp 1),some (8,true),0⟩,
 ⟨(some 10),.call 71 true [(.tmp 9)],some (8,true),0⟩,
 ⟨(some 11),.bin .gtr (.tmp 10) (.cst (.c (.int .i64 0))),some (8,true),0⟩,
 ⟨(some 12),.pick (.tmp 8) (.tmp 11) (.cst (.c (.bool false))),none,0⟩,
 ⟨(some 4),.mov (.tmp 12),none,0⟩])
 .ret))⟩
def f64 : AFunc:=⟨9,[.tmp 4],false,
 (.seq (.region 1 [] [
 ⟨(some 3),.box (.tmp 1),none,0⟩,
 ⟨(some 4),.mov (.cst (.c (.bool false))),none,1⟩])
 (.seq (.region 0 [] [
 ⟨(some 5),.mov (.tmp 0),none,0⟩,
 ⟨(some 6),.mkfn 100 none [(.tmp 3)],none,0⟩,
 ⟨(some 7),.call 99 false [(.tmp 5),(.tmp 6)],none,0⟩,
 ⟨(some 8),.not (.tmp 7),none,0⟩,
 ⟨(some 4),.mov (.tmp 8),none,0⟩])
 .ret))⟩
def f65 : AFunc:=⟨18,[.tmp 2],true,
 (.seq (.region 1 [] [
 ⟨(some 1),.box (.tmp 0),none,0⟩,
 ⟨(some 2),.mov (.cst (.c (.bool false))),none,1⟩])
 (.seq (.region 0 [] [
 ⟨(some 3),.faddr 0 (.tmp 1),none,0⟩,
 ⟨(some 4),.load none (.tmp 3),none,0⟩,
 ⟨(some 5),.bin .leq (.cst (.c (.int .i64 0))) (.tmp 4),none,0⟩,
 ⟨(some 6),.mov (.tmp 5),none,0⟩,
 ⟨(some 7),.faddr 0 (.tmp 1),some (6,true),0⟩,
 ⟨(some 8),.load none (.tmp 7),some (6,true),0⟩,
 ⟨(some 9),.faddr 1 (.tmp 1),some (6,true),0⟩,
 ⟨(some 10),.load none (.tmp 9),some (6,true),0⟩,
 ⟨(some 11),.bin .leq (.tmp 8) (.tmp 10),some (6,true),0⟩,
 ⟨(some 12),.pick (.tmp 6) (.tmp 11) (.cst (.c (.bool false))),none,0⟩,
 ⟨(some 13),.mov (.tmp 12),none,0⟩,
 ⟨(some 14),.faddr 1 (.tmp 1),some (13,true),0⟩,
 ⟨(some 15),.load none (.tmp 14),some (13,true),0⟩,
 ⟨(some 16),.bin .leq (.tmp 15) (.cst (.c (.int .i64 100))),some (13,true),0⟩,
 ⟨(some 17),.pick (.tmp 13) (.tmp 16) (.cst (.c (.bool false))),none,0⟩,
 ⟨(some 2),.mov (.tmp 17),none,0⟩])
 .ret))⟩
def f66 : AFunc:=⟨9,[.tmp 4],false,
 (.seq (.region 1 [] [
 ⟨(some 3),.box (.tmp 1),none,0⟩,
 ⟨(some 4),.mov (.cst (.c (.bool false))),none,1⟩])
 (.seq (.region 0 [] [
 ⟨(some 5),.mov (.tmp 0),none,0⟩,
 ⟨(some 6),.mkfn 102 none [(.tmp 3)],none,0⟩,
 ⟨(some 7),.call 101 false [(.tmp 5),(.tmp 6)],none,0⟩,
 ⟨(some 8),.not (.tmp 7),none,0⟩,
 ⟨(some 4),.mov (.tmp 8),none,0⟩])
 .ret))⟩
def f67 : AFunc:=⟨9,[.tmp 4],false,
 (.seq (.region 1 [] [
 ⟨(some 3),.box (.tmp 1),none,0⟩,
 ⟨(some 4),.mov (.cst (.c (.bool false))),none,1⟩])
 (.seq (.region 0 [] [
 ⟨(some 5),.mov (.tmp 0),none,0⟩,
 ⟨(some 6),.mkfn 104 none [(.tmp 3)],none,0⟩,
 ⟨(some 7),.call 103 false [(.tmp 5),(.tmp 6)],none,0⟩,
 ⟨(some 8),.not (.tmp 7),none,0⟩,
 ⟨(some 4),.mov (.tmp 8),none,0⟩])
 .ret))⟩
def f68 : AFunc:=⟨5,[.tmp 2],false,
 (.seq (.region 0 [] [
 ⟨(some 2),.mov (.cst (.c (.int .i64 0))),none,0⟩])
 (.seq (.region 0 [] [
 ⟨(some 3),.mov (.tmp 0),none,0⟩,
 ⟨(some 4),.call 105 true [(.tmp 3)],none,0⟩,
 ⟨(some 2),.mov (.tmp 4),none,0⟩])
 .ret))⟩
def f69 : AFunc:=⟨9,[.tmp 2],false,
 (.seq (.region 1 [] [
 ⟨(some 1),.box (.tmp 0),none,0⟩,
 ⟨(some 2),.mov (.cst (.c (.int .i64 0))),none,1⟩])
 (.seq (.region 0 [] [
 ⟨(some 3),.faddr 1 (.tmp 1),none,0⟩,
 ⟨(some 4),.load none (.tmp 3),none,0⟩,
 ⟨(some 5),.faddr 0 (.tmp 1),none,0⟩,
 ⟨(some 6),.load none (.tmp 5),none,0⟩,
 ⟨(some 7),.bin .sub (.tmp 4) (.tmp 6),none,0⟩,
 ⟨(some 8),.bin .add (.tmp 7) (.cst (.c (.int .i64 1))),none,0⟩,
 ⟨(some 2),.mov (.tmp 8),none,0⟩])
 .ret))⟩
def f70 : AFunc:=⟨11,[.tmp 4],false,
 (.seq (.region 1 [] [
 ⟨(some 2),.box (.tmp 0),none,0⟩,
 ⟨(some 4),.mov (.cst (.c (.bool false))),none,1⟩])
 (.seq (.region 0 [] [
 ⟨(some 5),.mov (.tmp 1),none,0⟩,
 ⟨(some 6),.faddr 0 (.tmp 2),none,0⟩,
 ⟨(some 7),.load none (.tmp 6),none,0⟩,
 ⟨(some 8),.faddr 1 (.tmp 2),none,0⟩,
 ⟨(some 9),.load none (.tmp 8),none,0⟩,
 ⟨(some 10),.call 97 true [(.tmp 5),(.tmp 7),(.tmp 9)],none,0⟩,
 ⟨(some 4),.mov (.tmp 10),none,0⟩])
 .ret))⟩
def f71 : AFunc:=⟨16,[.tmp 2],false,
 (.seq (.region 0 [] [
 ⟨(some 2),.mov (.cst (.c (.int .i64 0))),none,0⟩])
 (.seq (.seq (.region 0 [] [
 ⟨(some 5),.mov (.tmp 0),none,0⟩,
 ⟨(some 6),.len (.tmp 5),none,0⟩,
 ⟨(some 7),.mov (.cst (.c (.int .i64 0))),none,0⟩])
 (.block 0 (.loop ⟨[4,8,9,10,11,12,13,14],false,[]⟩
 (.seq (.region 0 [] [
 ⟨(some 8),.bin .lss (.tmp 7) (.tmp 6),none,0⟩])
 (.seq (.cond (.tmp 8)
 .skip
 (.exit 0))
 (.seq (.block 1 (.seq (.region 0 [] [
 ⟨(some 9),.iaddr 1 (.tmp 5) (.tmp 7),none,0⟩,
 ⟨(some 10),.load none (.tmp 9),none,0⟩,
 ⟨(some 4),.mov (.tmp 10),none,0⟩])
 (.region 0 [] [
 ⟨(some 11),.mov (.tmp 2),none,0⟩,
 ⟨(some 12),.mov (.tmp 4),none,0⟩,
 ⟨(some 13),.bin .add (.tmp 11) (.tmp 12),none,0⟩,
 ⟨(some 2),.mov (.tmp 13),none,0⟩])))
 (.region 0 [] [
 ⟨(some 14),.bin .add (.tmp 7) (.cst (.c (.int .i64 1))),none,0⟩,
 ⟨(some 7),.mov (.tmp 14),none,0⟩])))))))
 (.seq (.region 0 [] [
 ⟨(some 15),.mov (.tmp 2),none,0⟩,
 ⟨(some 2),.mov (.tmp 15),none,0⟩])
 .ret)))⟩
def f72 : AFunc:=⟨14,[.tmp 4],false,
 (.seq (.region 2 [] [
 ⟨(some 2),.box (.tmp 0),none,0⟩,
 ⟨(some 3),.box (.tmp 1),none,1⟩,
 ⟨(some 4),.mov (.cst (.c (.bool false))),none,2⟩])
 (.seq (.region 0 [] [
 ⟨(some 5),.load (some 12) (.tmp 2),none,0⟩,
 ⟨(some 6),.faddr 0 (.tmp 3),none,0⟩,
 ⟨(some 7),.load none (.tmp 6),none,0⟩,
 ⟨(some 8),.call 46 true [(.tmp 5),(.tmp 7)],none,0⟩,
 ⟨(some 9),.mov (.tmp 8),none,0⟩,
 ⟨(some 10),.faddr 2 (.tmp 3),some (9,true),0⟩,
 ⟨(some 11),.load (some 2) (.tmp 10),some (9,true),0⟩,
 ⟨(some 12),.call 106 true [(.tmp 11),(.cst (.c (.int .i64 (-5000)))),(.cst (.c (.int .i64 5000)))],some (9,true),0⟩,
 ⟨(some 13),.pick (.tmp 9) (.tmp 12) (.cst (.c (.bool false))),none,0⟩,
 ⟨(some 4),.mov (.tmp 13),none,0⟩])
 .ret))⟩
def f73 : AFunc:=⟨31,[.tmp 2],false,
 (.seq (.region 1 [] [
 ⟨(some 1),.box (.tmp 0),none,0⟩,
 ⟨(some 2),.mov (.cst (.c (.bool false))),none,1⟩])
 (.seq (.region 0 [] [
 ⟨(some 3),.faddr 0 (.tmp 1),none,0⟩,
 ⟨(some 4),.load none (.tmp 3),none,0⟩,
 ⟨(some 5),.bin .geq (.tmp 4) (.cst (.c (.int .i64 0))),none,0⟩,
 ⟨(some 6),.mov (.tmp 5),none,0⟩,
 ⟨(some 7),.faddr 1 (.tmp 1),some (6,true),0⟩,
 ⟨(some 8),.load none (.tmp 7),some (6,true),0⟩,
 ⟨(some 9),.call 86 true [(.tmp 8),(.cst (.c (.int .i64 0))),(.cst (.c (.int .i64 20)))],some (6,true),0⟩,
 ⟨(some 10),.pick (.tmp 6) (.tmp 9) (.cst (.c (.bool false))),none,0⟩,
 ⟨(some 11),.mov (.tmp 10),none,0⟩,
 ⟨(some 12),.faddr 2 (.tmp 1),some (11,true),0⟩,
 ⟨(some 13),.load (some 2) (.tmp 12),some (11,true),0⟩,
 ⟨(some 14),.call 106 true [(.tmp 13),(.cst (.c (.int .i64 (-50)))),(.cst (.c (.int .i64 50)))],some (11,true),0⟩,
 ⟨(some 15),.pick (.tmp 11) (.tmp 14) (.cst (.c (.bool false))),none,0⟩,
 ⟨(some 16),.mov (.tmp 15),none,0⟩,
 ⟨(some 17),.faddr 4 (.tmp 1),some (16,true),0⟩,
 ⟨(some 18),.load (some 2) (.tmp 17),some (16,true),0⟩,
 ⟨(some 19),.call 106 true [(.tmp 18),(.cst (.c (.int .i64 0))),(.cst (.c (.int .i64 999)))],some (16,true),0⟩,
 ⟨(some 20),.pick (.tmp 16) (.tmp 19) (.cst (.c (.bool false))),none,0⟩,
 ⟨(some 21),.mov (.tmp 20),none,0⟩,
 ⟨(some 22),.faddr 6 (.tmp 1),some (21,true),0⟩,
 ⟨(some 23),.load none (.tmp 22),some (21,true),0⟩,
 ⟨(some 24),.call 86 true [(.tmp 23),(.cst (.c (.int .i64 0))),(.cst (.c (.int .i64 50)))],some (21,true),0⟩,
 ⟨(some 25),.pick (.tmp 21) (.tmp 24) (.cst (.c (.bool false))),none,0⟩,
 ⟨(some 26),.mov (.tmp 25),none,0⟩,
 ⟨(some 27),.faddr 7 (.tmp 1),some (26,true),0⟩,
 ⟨(some 28),.load none (.tmp 27),some (26,true),0⟩,
 ⟨(some 29),.call 86 true [(.tmp 28),(.cst (.c (.int .i64 0))),(.cst (.c (.int .i64 50)))],some (26,true),0⟩,
 ⟨(some 30),.pick (.tmp 26) (.tmp 29) (.cst (.c (.bool false))),none,0⟩,
 ⟨(some 2),.mov (.tmp 30),none,0⟩])
 .ret))⟩
def f74 : AFunc:=⟨9,[.tmp 4],false,
 (.seq (.region 1 [] [
 ⟨(some 3),.box (.tmp 1),none,0⟩,
 ⟨(some 4),.mov (.cst (.c (.bool false))),none,1⟩])
 (.seq (.region 0 [] [
 ⟨(some 5),.mov (.tmp 0),none,0⟩,
 ⟨(some 6),.mkfn 108 none [(.tmp 3)],none,0⟩,
 ⟨(some 7),.call 107 false [(.tmp 5),(.tmp 6)],none,0⟩,
 ⟨(some 8),.not (.tmp 7),none,0⟩,
 ⟨(some 4),.mov (.tmp 8),none,0⟩])
 .ret))⟩
def f75 : AFunc:=⟨5,[.tmp 2],true,
 (.seq (.region 1 [] [
 ⟨(some 1),.box (.tmp 0),none,0⟩,
 ⟨(some 2),.mov (.cst (.c (.bool false))),none,1⟩])
 (.seq (.region 0 [] [
 ⟨(some 3),.load (some 2) (.tmp 1),none,0⟩,
 ⟨(some 4),.call 106 true [(.tmp 3),(.cst (.c (.int .i64 (-9)))),(.cst (.c (.int .i64 9)))],none,0⟩,
 ⟨(some 2),.mov (.tmp 4),none,0⟩])
 .ret))⟩
def f76 : AFunc:=⟨9,[.tmp 4],false,
 (.seq (.region 1 [] [
 ⟨(some 3),.box (.tmp 1),none,0⟩,
 ⟨(some 4),.mov (.cst (.c (.bool false))),none,1⟩])
 (.seq (.region 0 [] [
 ⟨(some 5),.mov (.tmp 0),none,0⟩,
 ⟨(some 6),.mkfn 110 none [(.tmp 3)],none,0⟩,
 ⟨(some 7),.call 109 false [(.tmp 5),(.tmp 6)],none,0⟩,
 ⟨(some 8),.not (.tmp 7),none,0⟩,
 ⟨(some 4),.mov (.tmp 8),none,0⟩])
 .ret))⟩
def f77 : AFunc:=⟨16,[.tmp 2],true,
 (.seq (.region 1 [] [
 ⟨(some 1),.box (.tmp 0),none,0⟩,
 ⟨(some 2),.mov (.cst (.c (.bool false))),none,1⟩])
 (.seq (.region 0 [] [
 ⟨(some 3),.faddr 0 (.tmp 1),none,0⟩,
 ⟨(some 4),.load none (.tmp 3),none,0⟩,
 ⟨(some 5),.call 111 true [(.tmp 4)],none,0⟩,
 ⟨(some 6),.mov (.tmp 5),none,0⟩,
 ⟨(some 7),.faddr 1 (.tmp 1),some (6,true),0⟩,
 ⟨(some 8),.load none (.tmp 7),some (6,true),0⟩,
 ⟨(some 9),.call 111 true [(.tmp 8)],some (6,true),0⟩,
 ⟨(some 10),.pick (.tmp 6) (.tmp 9) (.cst (.c (.bool false))),none,0⟩,
 ⟨(some 11),.mov (.tmp 10),none,0⟩,
 ⟨(some 12),.faddr 2 (.tmp 1),some (11,true),0⟩,
 ⟨(some 13),.load none (.tmp 12),some (11,true),0⟩,
 ⟨(some 14),.call 111 true [(.tmp 13)],some (11,true),0⟩,
 ⟨(some 15),.pick (.tmp 11) (.tmp 14) (.cst (.c (.bool false))),none,0⟩,
 ⟨(some 2),.mov (.tmp 15),none,0⟩])
 .ret))⟩
def f78 : AFunc:=⟨9,[.tmp 4],false,
 (.seq (.region 1 [] [
 ⟨(some 3),.box (.tmp 1),none,0⟩,
 ⟨(some 4),.mov (.cst (.c (.bool false))),none,1⟩])
 (.seq (.region 0 [] [
 ⟨(some 5),.mov (.tmp 0),none,0⟩,
 ⟨(some 6),.mkfn 113 none [(.tmp 3)],none,0⟩,
 ⟨(some 7),.call 112 false [(.tmp 5),(.tmp 6)],none,0⟩,
 ⟨(some 8),.not (.tmp 7),none,0⟩,
 ⟨(some 4),.mov (.tmp 8),none,0⟩])
 .ret))⟩
def f79 : AFunc:=⟨9,[.tmp 4],false,
 (.seq (.region 1 [] [
 ⟨(some 3),.box (.tmp 1),none,0⟩,
 ⟨(some 4),.mov (.cst (.c (.bool false))),none,1⟩])
 (.seq (.region 0 [] [
 ⟨(some 5),.mov (.tmp 0),none,0⟩,
 ⟨(some 6),.mkfn 115 none [(.tmp 3)],none,0⟩,
 ⟨(some 7),.call 114 false [(.tmp 5),(.tmp 6)],none,0⟩,
 ⟨(some 8),.not (.tmp 7),none,0⟩,
 ⟨(some 4),.mov (.tmp 8),none,0⟩])
 .ret))⟩
def f80 : AFunc:=⟨11,[.tmp 2],false,
 (.seq (.region 1 [] [
 ⟨(some 1),.box (.tmp 0),none,0⟩,
 ⟨(some 2),.mov (.cst (.c .nils)),none,1⟩])
 (.seq (.region 2 [] [
 ⟨(some 3),.faddr 2 (.tmp 1),none,0⟩,
 ⟨(some 4),.load (some 2) (.tmp 3),none,0⟩,
 ⟨(some 5),.faddr 4 (.tmp 1),none,0⟩,
 ⟨(some 6),.load (some 2) (.tmp 5),none,0⟩,
 ⟨(some 7),.bslice 2 2 [(.int .i64 0),(.int .i64 0)] [(0,(.tmp 4)),(1,(.tmp 6))],none,0⟩,
 ⟨(some 8),.faddr 8 (.tmp 1),none,1⟩,
 ⟨(some 9),.load none (.tmp 8),none,1⟩,
 ⟨(some 10),.append 2 16 (.tmp 7) (.tmp 9),none,1⟩,
 ⟨(some 2),.mov (.tmp 10),none,2⟩])
 .ret))⟩
def f81 : AFunc:=⟨5,[.tmp 2],false,
 (.seq (.region 0 [] [
 ⟨(some 2),.mov (.cst (.c (.int .i64 0))),none,0⟩])
 (.seq (.region 0 [] [
 ⟨(some 3),.mov (.tmp 0),none,0⟩,
 ⟨(some 4),.call 105 true [(.tmp 3)],none,0⟩,
 ⟨(some 2),.mov (.tmp 4),none,0⟩])
 .ret))⟩
def f82 : AFunc:=⟨9,[.tmp 2],false,
 (.seq (.region 1 [] [
 ⟨(some 1),.box (.tmp 0),none,0⟩,
 ⟨(some 2),.mov (.cst (.c (.int .i64 0))),none,1⟩])
 (.seq (.region 0 [] [
 ⟨(some 3),.faddr 1 (.tmp 1),none,0⟩,
 ⟨(some 4),.load none (.tmp 3),none,0⟩,
 ⟨(some 5),.faddr 0 (.tmp 1),none,0⟩,
 ⟨(some 6),.load none (.tmp 5),none,0⟩,
 ⟨(some 7),.bin .sub (.tmp 4) (.tmp 6),none,0⟩,
 ⟨(some 8),.bin .add (.tmp 7) (.cst (.c (.int .i64 1))),none,0⟩,
 ⟨(some 2),.mov (.tmp 8),none,0⟩])
 .ret))⟩
def f83 : AFunc:=⟨11,[.tmp 4],false,
 (.seq (.region 1 [] [
 ⟨(some 2),.box (.tmp 0),none,0⟩,
 ⟨(some 4),.mov (.cst (.c (.bool false))),none,1⟩])
 (.seq (.region 0 [] [
 ⟨(some 5),.mov (.tmp 1),none,0⟩,
 ⟨(some 6),.faddr 0 (.tmp 2),none,0⟩,
 ⟨(some 7),.load none (.tmp 6),none,0⟩,
 ⟨(some 8),.faddr 1 (.tmp 2),none,0⟩,
 ⟨(some 9),.load none (.tmp 8),none,0⟩,
 ⟨(some 10),.call 86 true [(.tmp 5),(.tmp 7),(.tmp 9)],none,0⟩,
 ⟨(some 4),.mov (.tmp 10),none,0⟩])
 .ret))⟩
def f84 : AFunc:=⟨5,[.tmp 2],false,
 (.seq (.region 0 [] [
 ⟨(some 2),.mov (.cst (.c .nils)),none,0⟩])
 (.seq (.region 0 [] [
 ⟨(some 3),.mov (.tmp 0),none,0⟩,
 ⟨(some 4),.call 116 false [(.cst (.c .nils)),(.tmp 3)],none,0⟩,
 ⟨(some 2),.mov (.tmp 4),none,0⟩])
 .ret))⟩
def f85 : AFunc:=⟨6,[.tmp 4],false,
 (.seq (.region 2 [] [
 ⟨(some 2),.box (.tmp 0),none,0⟩,
 ⟨(some 3),.box (.tmp 1),none,1⟩,
 ⟨(some 4),.mov (.cst (.c .nilfn)),none,2⟩])
 (.seq (.region 0 [] [
 ⟨(some 5),.mkfn 117 none [(.tmp 3),(.tmp 2)],none,0⟩,
 ⟨(some 4),.mov (.tmp 5),none,0⟩])
 .ret))⟩
def f86 : AFunc:=⟨15,[.tmp 6],false,
 (.seq (.region 0 [] [
 ⟨(some 6),.mov (.cst (.c (.bool false))),none,0⟩])
 (.seq (.region 0 [] [
 ⟨(some 7),.mov (.tmp 1),none,0⟩,
 ⟨(some 8),.mov (.tmp 0),none,0⟩,
 ⟨(some 9),.bin .leq (.tmp 7) (.tmp 8),none,0⟩,
 ⟨(some 10),.mov (.tmp 9),none,0⟩,
 ⟨(some 11),.mov (.tmp 0),some (10,true),0⟩,
 ⟨(some 12),.mov (.tmp 2),some (10,true),0⟩,
 ⟨(some 13),.bin .leq (.tmp 11) (.tmp 12),some (10,true),0⟩,
 ⟨(some 14),.pick (.tmp 10) (.tmp 13) (.cst (.c (.bool false))),none,0⟩,
 ⟨(some 6),.mov (.tmp 14),none,0⟩])
 .ret))⟩
def f87 : AFunc:=⟨12,[.tmp 4],false,
 (.seq (.region 1 [] [
 ⟨(some 2),.box (.tmp 0),none,0⟩,
 ⟨(some 4),.mov (.cst (.c (.bool false))),none,1⟩])
 (.seq (.region 0 [] [
 ⟨(some 5),.mov (.tmp 1),none,0⟩,
 ⟨(some 6),.faddr 1 (.tmp 2),none,0⟩,
 ⟨(some 7),.load none (.tmp 6),none,0⟩,
 ⟨(some 8),.neg (.tmp 7),none,0⟩,
 ⟨(some 9),.faddr 1 (.tmp 2),none,0⟩,
 ⟨(some 10),.load none (.tmp 9),none,0⟩,
 ⟨(some 11),.call 86 true [(.tmp 5),(.tmp 8),(.tmp 10)],none,0⟩,
 ⟨(some 4),.mov (.tmp 11),none,0⟩])
 .ret))⟩
def f88 : AFunc:=⟨44,[.tmp 4,.cell 5 (some 2)],false,
 (.seq (.region 2 [] [
 ⟨(some 3),.box (.tmp 1),none,0⟩,
 ⟨(some 4),.mov (.cst (.c (.int .i64 0))),none,1⟩,
 ⟨(some 5),.alloc [(.int .i64 0),(.bool false)],none,1⟩])
 (.seq (.region 0 [(0,4),(1,4),(2,4),(3,4),(7,8),(8,9)] [
 ⟨(some 9),.mov (.tmp 0),none,0⟩,
 ⟨(some 10),.nilchk (.tmp 9),none,0⟩,
 ⟨(some 11),.faddr 12 (.tmp 10),none,0⟩,
 ⟨(some 12),.load none (.tmp 11),none,0⟩,
 ⟨(some 13),.load (some 2) (.tmp 3),none,0⟩,
 ⟨(some 14),.lookup true false [(some .i64),none] (.c (.int .i64 0)) true (.tmp 12) (.tmp 13),none,0⟩,
 ⟨(some 8),.mov (.tmp 14),none,0⟩,
 ⟨(some 15),.extract 0 (.tmp 8),none,0⟩,
 ⟨(some 16),.extract 1 (.tmp 8),none,0⟩,
 ⟨(some 4),.mov (.tmp 15),none,0⟩,
 ⟨(some 6),.mov (.tmp 16),none,0⟩])
 (.seq (.seq (.region 0 [] [
 ⟨(some 17),.mov (.tmp 6),none,0⟩,
 ⟨(some 18),.not (.tmp 17),none,0⟩])
 (.cond (.tmp 18)
 (.seq (.region 0 [] [
 ⟨(some 7),.mov (.cst (.c (.int .i64 20))),none,0⟩])
 (.seq (.seq (.region 0 [] [
 ⟨(some 19),.faddr 1 (.tmp 3),none,0⟩,
 ⟨(some 20),.load none (.tmp 19),none,0⟩])
 (.cond (.tmp 20)
 (.region 0 [] [
 ⟨(some 7),.mov (.cst (.c (.int .i64 10))),none,0⟩])
 .skip))
 (.seq (.region 0 [] [
 ⟨(some 21),.faddr 0 (.tmp 3),none,0⟩,
 ⟨(some 22),.load none (.tmp 21),none,0⟩,
 ⟨(some 23),.mov (.tmp 7),none,0⟩,
 ⟨(some 24),.bin .quo (.tmp 22) (.tmp 23),none,0⟩,
 ⟨(some 4),.mov (.tmp 24),none,0⟩])
 (.region 0 [(0,4),(1,4),(2,4),(3,4),(0,5),(1,5),(2,5),(3,5),(4,5)] [
 ⟨(some 25),.mov (.tmp 0),none,0⟩,
 ⟨(some 26),.nilchk (.tmp 25),none,0⟩,
 ⟨(some 27),.faddr 12 (.tmp 26),none,0⟩,
 ⟨(some 28),.load none (.tmp 27),none,0⟩,
 ⟨(some 29),.load (some 2) (.tmp 3),none,0⟩,
 ⟨(some 30),.mov (.tmp 4),none,0⟩,
 ⟨none,.mapupd true false [(some .i64),none] (.tmp 28) (.tmp 29) (.tmp 30),none,0⟩]))))
 .skip))
 (.seq (.region 0 [(0,1),(0,2),(0,3),(1,3),(2,3),(0,4),(1,4),(2,4),(0,5),(1,5),(2,5),(0,6),(1,6),(2,6),(0,7),(1,7),(2,7),(0,8),(0,9),(0,10),(1,10),(2,10),(3,10),(4,10),(5,10),(6,10),(7,10),(8,10),(9,10),(0,11),(1,11),(2,11),(3,11),(4,11),(5,11),(6,11),(7,11),(8,11),(9,11),(0,12),(1,13),(2,13),(3,13),(4,13),(5,13),(6,13),(7,13),(8,13),(9,13),(10,13),(11,13),(12,13)] [
 ⟨(some 31),.mov (.tmp 4),none,0⟩,
 ⟨(some 32),.faddr 0 (.tmp 3),none,0⟩,
 ⟨(some 33),.load none (.tmp 32),none,0⟩,
 ⟨(some 34),.mov (.tmp 0),none,0⟩,
 ⟨(some 35),.nilchk (.tmp 34),none,0⟩,
 ⟨(some 36),.faddr 0 (.tmp 35),none,0⟩,
 ⟨(some 37),.faddr 7 (.tmp 36),none,0⟩,
 ⟨(some 38),.load none (.tmp 37),none,0⟩,
 ⟨(some 39),.bin .sub (.tmp 33) (.tmp 38),none,0⟩,
 ⟨(some 40),.mm true (.cst (.c (.int .i64 0))) (.tmp 39),none,0⟩,
 ⟨(some 41),.faddr 1 (.tmp 3),none,0⟩,
 ⟨(some 42),.load none (.tmp 41),none,0⟩,
 ⟨(some 43),.build [(.int .i64 0),(.bool false)] [(0,1,(.tmp 40)),(1,1,(.tmp 42))],none,0⟩,
 ⟨(some 4),.mov (.tmp 31),none,0⟩,
 ⟨none,.store (some 2) (.tmp 5) (.tmp 43),none,0⟩])
 .ret))))⟩
def f89 : AFunc:=⟨10,[.cell 4 none],false,
 (.seq (.region 1 [] [
 ⟨(some 4),.alloc [(.bool false)],none,0⟩])
 (.seq (.seq (.region 0 [] [
 ⟨(some 5),.mov (.tmp 0),none,0⟩,
 ⟨(some 6),.mov (.tmp 1),none,0⟩,
 ⟨(some 7),.call 91 false [(.tmp 5),(.tmp 6)],none,0⟩])
 (.block 0 (.range (.tmp 7) [8,9]
 .skip
 (.block 1 (.seq (.region 0 [] [
 ⟨none,.store none (.tmp 4) (.cst (.c (.bool true))),none,0⟩])
 .ret)))))
 (.seq (.region 0 [] [
 ⟨none,.store none (.tmp 4) (.cst (.c (.bool false))),none,0⟩])
 .ret)))⟩
def f90 : AFunc:=⟨12,[.tmp 4],false,
 (.seq (.region 0 [] [
 ⟨(some 4),.mov (.cst (.c (.int .i64 0))),none,0⟩])
 (.seq (.region 0 [(0,2),(1,2),(0,3),(1,3),(2,3),(0,4),(1,4),(0,5),(1,5)] [
 ⟨(some 5),.faddr 0 (.tmp 1),none,0⟩,
 ⟨(some 6),.load none (.tmp 5),none,0⟩,
 ⟨(some 7),.mov (.tmp 0),none,0⟩,
 ⟨(some 8),.load none (.tmp 2),none,0⟩,
 ⟨(some 9),.iaddr 2 (.tmp 7) (.tmp 8),none,0⟩,
 ⟨(some 10),.load (some 2) (.tmp 9),none,0⟩,
 ⟨(some 11),.callv (.tmp 6) [(.tmp 10)],none,0⟩,
 ⟨(some 4),.mov (.tmp 11),none,0⟩])
 .ret))⟩
def f91 : AFunc:=⟨6,[.tmp 4],false,
 (.seq (.region 2 [] [
 ⟨(some 2),.box (.tmp 0),none,0⟩,
 ⟨(some 3),.box (.tmp 1),none,1⟩,
 ⟨(some 4),.mov (.cst (.c .nilfn)),none,2⟩])
 (.seq (.region 0 [] [
 ⟨(some 5),.mkfn 118 none [(.tmp 2),(.tmp 3)],none,0⟩,
 ⟨(some 4),.mov (.tmp 5),none,0⟩])
 .ret))⟩
def f92 : AFunc:=⟨15,[.cell 4 (some 2)],false,
 (.seq (.region 2 [] [
 ⟨(some 2),.box (.tmp 0),none,0⟩,
 ⟨(some 4),.alloc [(.int .i64 0),(.int .i64 0)],none,1⟩])
 (.seq (.region 1 [(0,2),(1,2),(0,5),(1,5),(2,5),(3,5),(4,5),(0,6),(1,6),(2,6),(3,6),(4,6),(0,7),(1,7),(2,7),(3,7),(4,7),(5,7),(6,7),(0,8),(1,8),(2,8),(3,8),(4,8)] [
 ⟨(some 5),.faddr 0 (.tmp 2),none,0⟩,
 ⟨(some 6),.load none (.tmp 5),none,0⟩,
 ⟨(some 7),.mov (.tmp 1),none,0⟩,
 ⟨(some 8),.bslice 1 2 [(.int .i64 0)] [(0,(.tmp 6)),(1,(.tmp 7))],none,0⟩,
 ⟨(some 9),.call 81 true [(.tmp 8)],none,1⟩,
 ⟨(some 10),.faddr 1 (.tmp 2),none,1⟩,
 ⟨(some 11),.load none (.tmp 10),none,1⟩,
 ⟨(some 12),.mov (.tmp 1),none,1⟩,
 ⟨(some 13),.mm true (.tmp 11) (.tmp 12),none,1⟩,
 ⟨(some 14),.build [(.int .i64 0),(.int .i64 0)] [(0,1,(.tmp 9)),(1,1,(.tmp 13))],none,1⟩,
 ⟨none,.store (some 2) (.tmp 4) (.tmp 14),none,1⟩])
 .ret))⟩
def f93 : AFunc:=⟨25,[.tmp 6],false,
 (.seq (.region 1 [] [
 ⟨(some 3),.box (.tmp 0),none,0⟩,
 ⟨(some 6),.mov (.cst (.c (.int .i64 0))),none,1⟩])
 (.seq (.seq (.region 0 [] [
 ⟨(some 7),.mov (.tmp 2),none,0⟩,
 ⟨(some 8),.mov (.tmp 1),none,0⟩,
 ⟨(some 9),.len (.tmp 8),none,0⟩,
 ⟨(some 10),.bin .lss (.tmp 7) (.tmp 9),none,0⟩])
 (.cond (.tmp 10)
 (.seq (.region 0 [] [
 ⟨(some 11),.mov (.tmp 1),none,0⟩,
 ⟨(some 12),.mov (.tmp 2),none,0⟩,
 ⟨(some 13),.iaddr 1 (.tmp 11) (.tmp 12),none,0⟩,
 ⟨(some 14),.load none (.tmp 13),none,0⟩,
 ⟨(some 6),.mov (.tmp 14),none,0⟩])
 .ret)
 .skip))
 (.seq (.region 0 [] [
 ⟨(some 15),.mov (.tmp 1),none,0⟩,
 ⟨(some 16),.faddr 1 (.tmp 3),none,0⟩,
 ⟨(some 17),.load none (.tmp 16),none,0⟩,
 ⟨(some 18),.mov (.tmp 2),none,0⟩,
 ⟨(some 19),.mov (.tmp 1),none,0⟩,
 ⟨(some 20),.len (.tmp 19),none,0⟩,
 ⟨(some 21),.bin .sub (.tmp 18) (.tmp 20),none,0⟩,
 ⟨(some 22),.iaddr 1 (.tmp 17) (.tmp 21),none,0⟩,
 ⟨(some 23),.load none (.tmp 22),none,0⟩,
 ⟨(some 24),.call 122 true [(.tmp 15),(.tmp 23)],none,0⟩,
 ⟨(some 6),.mov (.tmp 24),none,0⟩])
 .ret)))⟩
def f94 : AFunc:=⟨9,[],false,
 (.seq (.region 1 [] [
 ⟨(some 3),.box (.tmp 0),none,0⟩])
 (.seq (.region 1 [] [
 ⟨(some 4),.alloc [(.int .i64 0),(.int .i64 0),(.int .i64 0)],none,0⟩])
 (.seq (.region 1 [] [
 ⟨(some 5),.alloc [.nilfn],none,0⟩])
 (.seq (.region 0 [] [
 ⟨(some 6),.mkfn 95 none [(.tmp 1),(.tmp 4),(.tmp 2),(.tmp 3),(.tmp 5)],none,0⟩,
 ⟨none,.store none (.tmp 5) (.tmp 6),none,0⟩])
 (.region 0 [] [
 ⟨(some 7),.load none (.tmp 5),none,0⟩,
 ⟨(some 8),.callv (.tmp 7) [(.cst (.c (.int .i64 0)))],none,0⟩])))))⟩
def f95 : AFunc:=⟨49,[.tmp 7],false,
 (.seq (.region 0 [] [
 ⟨(some 7),.mov (.cst (.c (.bool false))),none,0⟩])
 (.seq (.seq (.region 0 [] [
 ⟨(some 9),.mov (.tmp 0),none,0⟩,
 ⟨(some 10),.faddr 0 (.tmp 1),none,0⟩,
 ⟨(some 11),.load none (.tmp 10),none,0⟩,
 ⟨(some 12),.len (.tmp 11),none,0⟩,
 ⟨(some 13),.bin .eql (.tmp 9) (.tmp 12),none,0⟩])
 (.cond (.tmp 13)
 (.seq (.region 0 [] [
 ⟨(some 14),.load (some 3) (.tmp 1),none,0⟩,
 ⟨(some 15),.load (some 3) (.tmp 2),none,0⟩,
 ⟨(some 16),.load none (.tmp 3),none,0⟩,
 ⟨(some 17),.call 96 true [(.tmp 14),(.tmp 15),(.tmp 16)],none,0⟩,
 ⟨(some 18),.not (.tmp 17),none,0⟩,
 ⟨(some 19),.mov (.tmp 18),none,0⟩,
 ⟨(some 20),.load none (.tmp 4),some (19,false),0⟩,
 ⟨(some 21),.load (some 3) (.tmp 2),some (19,false),0⟩,
 ⟨(some 22),.callv (.tmp 20) [(.tmp 21)],some (19,false),0⟩,
 ⟨(some 23),.pick (.tmp 19) (.cst (.c (.bool true))) (.tmp 22),none,0⟩,
 ⟨(some 7),.mov (.tmp 23),none,0⟩])
 .ret)
 .skip))
 (.seq (.seq (.region 0 [] [
 ⟨(some 24),.faddr 0 (.tmp 1),none,0⟩,
 ⟨(some 25),.load none (.tmp 24),none,0⟩,
 ⟨(some 26),.mov (.tmp 0),none,0⟩,
 ⟨(some 27),.iaddr 2 (.tmp 25) (.tmp 26),none,0⟩,
 ⟨(some 28),.load (some 2) (.tmp 27),none,0⟩,
 ⟨(some 29),.call 69 true [(.tmp 28)],none,0⟩,
 ⟨(some 30),.mov (.cst (.c (.int .i64 0))),none,0⟩])
 (.block 0 (.loop ⟨[7,8,31,32,33,34,35,36,37,38,39,40,41,42,43,44,45,46,47,48],false,[]⟩
 (.seq (.region 0 [] [
 ⟨(some 31),.bin .lss (.tmp 30) (.tmp 29),none,0⟩])
 (.seq (.cond (.tmp 31)
 .skip
 (.exit 0))
 (.seq (.block 1 (.seq (.region 0 [] [
 ⟨(some 32),.mov (.tmp 30),none,0⟩,
 ⟨(some 8),.mov (.tmp 32),none,0⟩])
 (.seq (.region 0 [] [
 ⟨(some 33),.mov (.tmp 0),none,0⟩,
 ⟨(some 34),.faddr 0 (.tmp 1),none,0⟩,
 ⟨(some 35),.load none (.tmp 34),none,0⟩,
 ⟨(some 36),.mov (.tmp 0),none,0⟩,
 ⟨(some 37),.iaddr 2 (.tmp 35) (.tmp 36),none,0⟩,
 ⟨(some 38),.faddr 0 (.tmp 37),none,0⟩,
 ⟨(some 39),.load none (.tmp 38),none,0⟩,
 ⟨(some 40),.mov (.tmp 8),none,0⟩,
 ⟨(some 41),.bin .add (.tmp 39) (.tmp 40),none,0⟩,
 ⟨(some 42),.iaddrA 3 1 (.tmp 2) (.tmp 33),none,0⟩,
 ⟨none,.store none (.tmp 42) (.tmp 41),none,0⟩])
 (.seq (.region 0 [] [
 ⟨(some 43),.load none (.tmp 5),none,0⟩,
 ⟨(some 44),.mov (.tmp 0),none,0⟩,
 ⟨(some 45),.bin .add (.tmp 44) (.cst (.c (.int .i64 1))),none,0⟩,
 ⟨(some 46),.callv (.tmp 43) [(.tmp 45)],none,0⟩,
 ⟨(some 47),.not (.tmp 46),none,0⟩])
 (.cond (.tmp 47)
 (.seq (.region 0 [] [
 ⟨(some 7),.mov (.cst (.c (.bool false))),none,0⟩])
 .ret)
 .skip)))))
 (.region 0 [] [
 ⟨(some 48),.bin .add (.tmp 30) (.cst (.c (.int .i64 1))),none,0⟩,
 ⟨(some 30),.mov (.tmp 48),none,0⟩])))))))
 (.seq (.region 0 [] [
 ⟨(some 7),.mov (.cst (.c (.bool true))),none,0⟩])
 .ret))))⟩
def f96 : AFunc:=⟨34,[.tmp 6],false,
 (.seq (.region 2 [] [
 ⟨(some 3),.box (.tmp 0),none,0⟩,
 ⟨(some 4),.box (.tmp 1),none,1⟩,
 ⟨(some 6),.mov (.cst (.c (.bool false))),none,2⟩])
 (.seq (.seq (.region 0 [] [
 ⟨(some 9),.faddr 2 (.tmp 3),none,0⟩,
 ⟨(some 10),.load none (.tmp 9),none,0⟩,
 ⟨(some 11),.len (.tmp 10),none,0⟩,
 ⟨(some 12),.mov (.cst (.c (.int .i64 0))),none,0⟩])
 (.block 0 (.loop ⟨[6,7,8,13,14,15,16,17,18,19,20,21,22,23,24,25,26,27,28,29,30,31,32,33],true,[]⟩
 (.seq (.region 0 [] [
 ⟨(some 13),.bin .lss (.tmp 12) (.tmp 11),none,0⟩])
 (.seq (.cond (.tmp 13)
 .skip
 (.exit 0))
 (.seq (.block 1 (.seq (.region 1 [] [
 ⟨(some 14),.mov (.tmp 12),none,0⟩,
 ⟨(some 15),.iaddr 4 (.tmp 10) (.tmp 12),none,0⟩,
 ⟨(some 16),.load (some 4) (.tmp 15),none,0⟩,
 ⟨(some 8),.alloc [(.bool false),(.int .i64 0),(.int .i64 0),(.int .i64 0)],none,0⟩,
 ⟨(some 7),.mov (.tmp 14),none,1⟩,
 ⟨none,.store (some 4) (.tmp 8) (.tmp 16),none,1⟩])
 (.seq (.region 0 [(0,1),(5,7),(6,7),(5,8),(6,8),(7,8),(5,9),(6,9),(7,9),(8,9),(5,10),(6,10),(7,10),(8,10),(9,10),(5,11),(6,11),(7,11),(8,11),(5,12),(6,12)] [
 ⟨(some 17),.mov (.tmp 2),none,0⟩,
 ⟨(some 18),.mov (.tmp 7),none,0⟩,
 ⟨(some 19),.call 120 true [(.tmp 17),(.tmp 18)],none,0⟩,
 ⟨(some 20),.not (.tmp 19),none,0⟩,
 ⟨(some 21),.mov (.tmp 20),none,0⟩,
 ⟨(some 22),.faddr 2 (.tmp 8),some (21,true),0⟩,
 ⟨(some 23),.load (some 2) (.tmp 22),some (21,true),0⟩,
 ⟨(some 24),.load (some 3) (.tmp 3),some (21,true),0⟩,
 ⟨(some 25),.load (some 3) (.tmp 4),some (21,true),0⟩,
 ⟨(some 26),.load (some 3) (.tmp 3),some (21,true),0⟩,
 ⟨(some 27),.load (some 4) (.tmp 8),some (21,true),0⟩,
 ⟨(some 28),.call 123 true [(.tmp 26),(.tmp 27)],some (21,true),0⟩,
 ⟨(some 29),.call 60 true [(.tmp 24),(.tmp 25),(.tmp 28)],some (21,true),0⟩,
 ⟨(some 30),.call 70 true [(.tmp 23),(.tmp 29)],some (21,true),0⟩,
 ⟨(some 31),.not (.tmp 30),some (21,true),0⟩,
 ⟨(some 32),.pick (.tmp 21) (.tmp 31) (.cst (.c (.bool false))),none,0⟩])
 (.cond (.tmp 32)
 (.seq (.region 0 [] [
 ⟨(some 6),.mov (.cst (.c (.bool false))),none,0⟩])
 .ret)
 .skip))))
 (.region 0 [] [
 ⟨(some 33),.bin .add (.tmp 12) (.cst (.c (.int .i64 1))),none,0⟩,
 ⟨(some 12),.mov (.tmp 33),none,0⟩])))))))
 (.seq (.region 0 [] [
 ⟨(some 6),.mov (.cst (.c (.bool true))),none,0⟩])
 .ret)))⟩
def f97 : AFunc:=⟨15,[.tmp 6],false,
 (.seq (.region 0 [] [
 ⟨(some 6),.mov (.cst (.c (.bool false))),none,0⟩])
 (.seq (.region 0 [] [
 ⟨(some 7),.mov (.tmp 1),none,0⟩,
 ⟨(some 8),.mov (.tmp 0),none,0⟩,
 ⟨(some 9),.bin .leq (.tmp 7) (.tmp 8),none,0⟩,
 ⟨(some 10),.mov (.tmp 9),none,0⟩,
 ⟨(some 11),.mov (.tmp 0),some (10,true),0⟩,
 ⟨(some 12),.mov (.tmp 2),some (10,true),0⟩,
 ⟨(some 13),.bin .leq (.tmp 11) (.tmp 12),some (10,true),0⟩,
 ⟨(some 14),.pick (.tmp 10) (.tmp 13) (.cst (.c (.bool false))),none,0⟩,
 ⟨(some 6),.mov (.tmp 14),none,0⟩])
 .ret))⟩
def f98 : AFunc:=⟨15,[.tmp 4],false,
 (.seq (.region 1 [] [
 ⟨(some 2),.box (.tmp 0),none,0⟩,
 ⟨(some 4),.mov (.cst (.c (.bool false))),none,1⟩])
 (.seq (.region 0 [] [
 ⟨(some 5),.mov (.tmp 1),none,0⟩,
 ⟨(some 6),.len (.tmp 5),none,0⟩,
 ⟨(some 7),.faddr 0 (.tmp 2),none,0⟩,
 ⟨(some 8),.load none (.tmp 7),none,0⟩,
 ⟨(some 9),.len (.tmp 8),none,0⟩,
 ⟨(some 10),.bin .eql (.tmp 6) (.tmp 9),none,0⟩,
 ⟨(some 11),.mov (.tmp 10),none,0⟩,
 ⟨(some 12),.mov (.tmp 1),some (11,true),0⟩,
 ⟨(some 13),.call 124 false [(.tmp 12),(.cst (.c (.fn 125 false [] [])))],some (11,true),0⟩,
 ⟨(some 14),.pick (.tmp 11) (.tmp 13) (.cst (.c (.bool false))),none,0⟩,
 ⟨(some 4),.mov (.tmp 14),none,0⟩])
 .ret))⟩
def f99 : AFunc:=⟨9,[.tmp 4],false,
 (.seq (.region 0 [] [
 ⟨(some 4),.mov (.cst (.c (.bool false))),none,0⟩])
 (.seq (.region 0 [] [
 ⟨(some 5),.mov (.tmp 0),none,0⟩,
 ⟨(some 6),.mov (.tmp 1),none,0⟩,
 ⟨(some 7),.call 126 false [(.tmp 5),(.tmp 6)],none,0⟩,
 ⟨(some 8),.bin .geq (.tmp 7) (.cst (.c (.int .i64 0))),none,0⟩,
 ⟨(some 4),.mov (.tmp 8),none,0⟩])
 .ret))⟩
def f100 : AFunc:=⟨8,[.tmp 3],true,
 (.seq (.region 1 [] [
 ⟨(some 2),.box (.tmp 0),none,0⟩,
 ⟨(some 3),.mov (.cst (.c (.bool false))),none,1⟩])
 (.seq (.region 0 [] [
 ⟨(some 4),.load none (.tmp 1),none,0⟩,
 ⟨(some 5),.load (some 2) (.tmp 2),none,0⟩,
 ⟨(some 6),.callv (.tmp 4) [(.tmp 5)],none,0⟩,
 ⟨(some 7),.not (.tmp 6),none,0⟩,
 ⟨(some 3),.mov (.tmp 7),none,0⟩])
 .ret))⟩
def f101 : AFunc:=⟨9,[.tmp 4],false,
 (.seq (.region 0 [] [
 ⟨(some 4),.mov (.cst (.c (.bool false))),none,0⟩])
 (.seq (.region 0 [] [
 ⟨(some 5),.mov (.tmp 0),none,0⟩,
 ⟨(some 6),.mov (.tmp 1),none,0⟩,
 ⟨(some 7),.call 127 false [(.tmp 5),(.tmp 6)],none,0⟩,
 ⟨(some 8),.bin .geq (.tmp 7) (.cst (.c (.int .i64 0))),none,0⟩,
 ⟨(some 4),.mov (.tmp 8),none,0⟩])
 .ret))⟩
def f102 : AFunc:=⟨8,[.tmp 3],false,
 (.seq (.region 0 [] [
 ⟨(some 3),.mov (.cst (.c (.bool false))),none,0⟩])
 (.seq (.region 0 [] [
 ⟨(some 4),.load none (.tmp 1),none,0⟩,
 ⟨(some 5),.mov (.tmp 0),none,0⟩,
 ⟨(some 6),.callv (.tmp 4) [(.tmp 5)],none,0⟩,
 ⟨(some 7),.not (.tmp 6),none,0⟩,
 ⟨(some 3),.mov (.tmp 7),none,0⟩])
 .ret))⟩
def f103 : AFunc:=⟨9,[.tmp 4],false,
 (.seq (.region 0 [] [
 ⟨(some 4),.mov (.cst (.c (.bool false))),none,0⟩])
 (.seq (.region 0 [] [
 ⟨(some 5),.mov (.tmp 0),none,0⟩,
 ⟨(some 6),.mov (.tmp 1),none,0⟩,
 ⟨(some 7),.call 128 false [(.tmp 5),(.tmp 6)],none,0⟩,
 ⟨(some 8),.bin .geq (.tmp 7) (.cst (.c (.int .i64 0))),none,0⟩,
 ⟨(some 4),.mov (.tmp 8),none,0⟩])
 .ret))⟩
def f104 : AFunc:=⟨8,[.tmp 3],false,
 (.seq (.region 1 [] [
 ⟨(some 2),.box (.tmp 0),none,0⟩,
 ⟨(some 3),.mov (.cst (.c (.bool false))),none,1⟩])
 (.seq (.region 0 [] [
 ⟨(some 4),.load none (.tmp 1),none,0⟩,
 ⟨(some 5),.load (some 4) (.tmp 2),none,0⟩,
 ⟨(some 6),.callv (.tmp 4) [(.tmp 5)],none,0⟩,
 ⟨(some 7),.not (.tmp 6),none,0⟩,
 ⟨(some 3),.mov (.tmp 7),none,0⟩])
 .ret))⟩
def f105 : AFunc:=⟨25,[.tmp 2],false,
 (.seq (.region 0 [] [
 ⟨(some 2),.mov (.cst (.c (.int .i64 0))),none,0⟩])
 (.seq (.seq (.region 0 [] [
 ⟨(some 5),.mov (.tmp 0),none,0⟩,
 ⟨(some 6),.len (.tmp 5),none,0⟩,
 ⟨(some 7),.bin .lss (.tmp 6) (.cst (.c (.int .i64 1))),none,0⟩])
 (.cond (.tmp 7)
 (.region 0 [] [
 ⟨(some 8),.pick (.cst (.c .any)) (.cst (.c .any)) (.cst (.c .any)),none,0⟩,
 ⟨none,.pick (.cst (.c .any)) (.cst (.c .any)) (.cst (.c .any)),none,0⟩])
 .skip))
 (.seq (.region 0 [] [
 ⟨(some 9),.mov (.tmp 0),none,0⟩,
 ⟨(some 10),.iaddr 1 (.tmp 9) (.cst (.c (.int .i64 0))),none,0⟩,
 ⟨(some 11),.load none (.tmp 10),none,0⟩,
 ⟨(some 3),.mov (.tmp 11),none,0⟩])
 (.seq (.seq (.region 0 [] [
 ⟨(some 4),.mov (.cst (.c (.int .i64 1))),none,0⟩])
 (.block 0 (.loop ⟨[12,13,14,15,16,17,18,19,20,21,22,23],false,[]⟩
 (.seq (.seq (.region 0 [] [
 ⟨(some 12),.mov (.tmp 4),none,0⟩,
 ⟨(some 13),.mov (.tmp 0),none,0⟩,
 ⟨(some 14),.len (.tmp 13),none,0⟩,
 ⟨(some 15),.bin .lss (.tmp 12) (.tmp 14),none,0⟩])
 (.cond (.tmp 15)
 .skip
 (.exit 0)))
 (.seq (.block 1 (.region 0 [] [
 ⟨(some 18),.mov (.tmp 3),none,0⟩,
 ⟨(some 19),.mov (.tmp 0),none,0⟩,
 ⟨(some 20),.mov (.tmp 4),none,0⟩,
 ⟨(some 21),.iaddr 1 (.tmp 19) (.tmp 20),none,0⟩,
 ⟨(some 22),.load none (.tmp 21),none,0⟩,
 ⟨(some 23),.mm false (.tmp 18) (.tmp 22),none,0⟩,
 ⟨(some 3),.mov (.tmp 23),none,0⟩]))
 (.region 0 [] [
 ⟨(some 16),.mov (.tmp 4),none,0⟩,
 ⟨(some 17),.bin .add (.tmp 16) (.cst (.c (.int .i64 1))),none,0⟩,
 ⟨(some 4),.mov (.tmp 17),none,0⟩]))))))
 (.seq (.region 0 [] [
 ⟨(some 24),.mov (.tmp 3),none,0⟩,
 ⟨(some 2),.mov (.tmp 24),none,0⟩])
 .ret)))))⟩
def f106 : AFunc:=⟨24,[.tmp 6],false,
 (.seq (.region 1 [] [
 ⟨(some 3),.box (.tmp 0),none,0⟩,
 ⟨(some 6),.mov (.cst (.c (.bool false))),none,1⟩])
 (.seq (.region 0 [] [
 ⟨(some 7),.mov (.tmp 1),none,0⟩,
 ⟨(some 8),.faddr 0 (.tmp 3),none,0⟩,
 ⟨(some 9),.load none (.tmp 8),none,0⟩,
 ⟨(some 10),.bin .leq (.tmp 7) (.tmp 9),none,0⟩,
 ⟨(some 11),.mov (.tmp 10),none,0⟩,
 ⟨(some 12),.faddr 0 (.tmp 3),some (11,true),0⟩,
 ⟨(some 13),.load none (.tmp 12),some (11,true),0⟩,
 ⟨(some 14),.faddr 1 (.tmp 3),some (11,true),0⟩,
 ⟨(some 15),.load none (.tmp 14),some (11,true),0⟩,
 ⟨(some 16),.bin .leq (.tmp 13) (.tmp 15),some (11,true),0⟩,
 ⟨(some 17),.pick (.tmp 11) (.tmp 16) (.cst (.c (.bool false))),none,0⟩,
 ⟨(some 18),.mov (.tmp 17),none,0⟩,
 ⟨(some 19),.faddr 1 (.tmp 3),some (18,true),0⟩,
 ⟨(some 20),.load none (.tmp 19),some (18,true),0⟩,
 ⟨(some 21),.mov (.tmp 2),some (18,true),0⟩,
 ⟨(some 22),.bin .leq (.tmp 20) (.tmp 21),some (18,true),0⟩,
 ⟨(some 23),.pick (.tmp 18) (.tmp 22) (.cst (.c (.bool false))),none,0⟩,
 ⟨(some 6),.mov (.tmp 23),none,0⟩])
 .ret))⟩
def f107 : AFunc:=⟨9,[.tmp 4],false,
 (.seq (.region 0 [] [
 ⟨(some 4),.mov (.cst (.c (.bool false))),none,0⟩])
 (.seq (.region 0 [] [
 ⟨(some 5),.mov (.tmp 0),none,0⟩,
 ⟨(some 6),.mov (.tmp 1),none,0⟩,
 ⟨(some 7),.call 129 false [(.tmp 5),(.tmp 6)],none,0⟩,
 ⟨(some 8),.bin .geq (.tmp 7) (.cst (.c (.int .i64 0))),none,0⟩,
 ⟨(some 4),.mov (.tmp 8),none,0⟩])
 .ret))⟩
def f108 : AFunc:=⟨8,[.tmp 3],true,
 (.seq (.region 1 [] [
 ⟨(some 2),.box (.tmp 0),none,0⟩,
 ⟨(some 3),.mov (.cst (.c (.bool false))),none,1⟩])
 (.seq (.region 0 [] [
 ⟨(some 4),.load none (.tmp 1),none,0⟩,
 ⟨(some 5),.load (some 2) (.tmp 2),none,0⟩,
 ⟨(some 6),.callv (.tmp 4) [(.tmp 5)],none,0⟩,
 ⟨(some 7),.not (.tmp 6),none,0⟩,
 ⟨(some 3),.mov (.tmp 7),none,0⟩])
 .ret))⟩
def f109 : AFunc:=⟨9,[.tmp 4],false,
 (.seq (.region 0 [] [
 ⟨(some 4),.mov (.cst (.c (.bool false))),none,0⟩])
 (.seq (.region 0 [] [
 ⟨(some 5),.mov (.tmp 0),none,0⟩,
 ⟨(some 6),.mov (.tmp 1),none,0⟩,
 ⟨(some 7),.call 130 false [(.tmp 5),(.tmp 6)],none,0⟩,
 ⟨(some 8),.bin .geq (.tmp 7) (.cst (.c (.int .i64 0))),none,0⟩,
 ⟨(some 4),.mov (.tmp 8),none,0⟩])
 .ret))⟩
def f110 : AFunc:=⟨8,[.tmp 3],true,
 (.seq (.region 1 [] [
 ⟨(some 2),.box (.tmp 0),none,0⟩,
 ⟨(some 3),.mov (.cst (.c (.bool false))),none,1⟩])
 (.seq (.region 0 [] [
 ⟨(some 4),.load none (.tmp 1),none,0⟩,
 ⟨(some 5),.load (some 3) (.tmp 2),none,0⟩,
 ⟨(some 6),.callv (.tmp 4) [(.tmp 5)],none,0⟩,
 ⟨(some 7),.not (.tmp 6),none,0⟩,
 ⟨(some 3),.mov (.tmp 7),none,0⟩])
 .ret))⟩
def f111 : AFunc:=⟨5,[.tmp 2],false,
 (.seq (.region 0 [] [
 ⟨(some 2),.mov (.cst (.c (.bool false))),none,0⟩])
 (.seq (.region 0 [] [
 ⟨(some 3),.mov (.tmp 0),none,0⟩,
 ⟨(some 4),.call 86 true [(.tmp 3),(.cst (.c (.int .i64 0))),(.cst (.c (.int .i64 9)))],none,0⟩,
 ⟨(some 2),.mov (.tmp 4),none,0⟩])
 .ret))⟩
def f112 : AFunc:=⟨9,[.tmp 4],false,
 (.seq (.region 0 [] [
 ⟨(some 4),.mov (.cst (.c (.bool false))),none,0⟩])
 (.seq (.region 0 [] [
 ⟨(some 5),.mov (.tmp 0),none,0⟩,
 ⟨(some 6),.mov (.tmp 1),none,0⟩,
 ⟨(some 7),.call 131 false [(.tmp 5),(.tmp 6)],none,0⟩,
 ⟨(some 8),.bin .geq (.tmp 7) (.cst (.c (.int .i64 0))),none,0⟩,
 ⟨(some 4),.mov (.tmp 8),none,0⟩])
 .ret))⟩
def f113 : AFunc:=⟨8,[.tmp 3],false,
 (.seq (.region 0 [] [
 ⟨(some 3),.mov (.cst (.c (.bool false))),none,0⟩])
 (.seq (.region 0 [] [
 ⟨(some 4),.load none (.tmp 1),none,0⟩,
 ⟨(some 5),.mov (.tmp 0),none,0⟩,
 ⟨(some 6),.callv (.tmp 4) [(.tmp 5)],none,0⟩,
 ⟨(some 7),.not (.tmp 6),none,0⟩,
 ⟨(some 3),.mov (.tmp 7),none,0⟩])
 .ret))⟩
def f114 : AFunc:=⟨9,[.tmp 4],false,
 (.seq (.region 0 [] [
 ⟨(some 4),.mov (.cst (.c (.bool false))),none,0⟩])
 (.seq (.region 0 [] [
 ⟨(some 5),.mov (.tmp 0),none,0⟩,
 ⟨(some 6),.mov (.tmp 1),none,0⟩,
 ⟨(some 7),.call 132 false [(.tmp 5),(.tmp 6)],none,0⟩,
 ⟨(some 8),.bin .geq (.tmp 7) (.cst (.c (.int .i64 0))),none,0⟩,
 ⟨(some 4),.mov (.tmp 8),none,0⟩])
 .ret))⟩
def f115 : AFunc:=⟨8,[.tmp 3],false,
 (.seq (.region 1 [] [
 ⟨(some 2),.box (.tmp 0),none,0⟩,
 ⟨(some 3),.mov (.cst (.c (.bool false))),none,1⟩])
 (.seq (.region 0 [] [
 ⟨(some 4),.load none (.tmp 1),none,0⟩,
 ⟨(some 5),.load (some 4) (.tmp 2),none,0⟩,
 ⟨(some 6),.callv (.tmp 4) [(.tmp 5)],none,0⟩,
 ⟨(some 7),.not (.tmp 6),none,0⟩,
 ⟨(some 3),.mov (.tmp 7),none,0⟩])
 .ret))⟩
def f116 : AFunc:=⟨13,[.tmp 4],false,
 (.seq (.region 1 [] [
 ⟨(some 2),.box (.tmp 0),none,0⟩,
 ⟨(some 4),.mov (.cst (.c .nils)),none,1⟩])
 (.seq (.seq (.region 0 [] [
 ⟨(some 6),.mov (.tmp 1),none,0⟩])
 (.block 0 (.range (.tmp 6) [7]
 (.region 1 [] [
 ⟨(some 5),.alloc [(.int .i64 0),(.int .i64 0)],none,0⟩,
 ⟨none,.store (some 2) (.tmp 5) (.tmp 7),none,1⟩])
 (.block 1 (.region 2 [] [
 ⟨(some 8),.load none (.tmp 2),none,0⟩,
 ⟨(some 9),.load (some 2) (.tmp 5),none,0⟩,
 ⟨(some 10),.bslice 2 1 [(.int .i64 0),(.int .i64 0)] [(0,(.tmp 9))],none,0⟩,
 ⟨(some 11),.append 2 16 (.tmp 8) (.tmp 10),none,1⟩,
 ⟨none,.store none (.tmp 2) (.tmp 11),none,2⟩])))))
 (.seq (.region 0 [] [
 ⟨(some 12),.load none (.tmp 2),none,0⟩,
 ⟨(some 4),.mov (.tmp 12),none,0⟩])
 .ret)))⟩
def f117 : AFunc:=⟨83,[],false,
 (.seq (.region 1 [] [
 ⟨(some 8),.faddr 0 (.tmp 1),none,0⟩,
 ⟨(some 9),.load none (.tmp 8),none,0⟩,
 ⟨(some 10),.faddr 1 (.tmp 1),none,0⟩,
 ⟨(some 11),.load none (.tmp 10),none,0⟩,
 ⟨(some 12),.build [(.int .i64 0),(.int .i64 0)] [(0,1,(.tmp 9)),(1,1,(.tmp 11))],none,0⟩,
 ⟨(some 4),.alloc [(.int .i64 0),(.int .i64 0)],none,0⟩,
 ⟨none,.store (some 2) (.tmp 4) (.tmp 12),none,1⟩])
 (.seq (.region 0 [] [
 ⟨(some 13),.load none (.tmp 2),none,0⟩,
 ⟨(some 14),.nilchk (.tmp 13),none,0⟩,
 ⟨(some 15),.faddr 0 (.tmp 14),none,0⟩,
 ⟨(some 16),.faddr 9 (.tmp 15),none,0⟩,
 ⟨(some 17),.load none (.tmp 16),none,0⟩,
 ⟨(some 18),.len (.tmp 17),none,0⟩,
 ⟨(some 19),.mov (.cst (.c (.int .i64 0))),none,0⟩])
 (.block 0 (.loop ⟨[5,6,7,20,21,22,23,24,25,26,27,28,29,30,31,32,33,34,35,36,37,38,39,40,41,42,43,44,45,46,47,48,49,50,51,52,53,54,55,56,57,58,59,60,61,62,63,64,65,66,67,68,69,70,71,72,73,74,75,76,77,78,79,80,81,82],false,[]⟩
 (.seq (.region 0 [] [
 ⟨(some 20),.bin .lss (.tmp 19) (.tmp 18),none,0⟩])
 (.seq (.cond (.tmp 20)
 .skip
 (.exit 0))
 (.seq (.block 1 (.seq (.region 1 [] [
 ⟨(some 21),.mov (.tmp 19),none,0⟩,
 ⟨(some 22),.iaddr 3 (.tmp 17) (.tmp 19),none,0⟩,
 ⟨(some 23),.load (some 3) (.tmp 22),none,0⟩,
 ⟨(some 6),.alloc [(.int .i64 0),(.int .i64 0),(.int .i64 0)],none,0⟩,
 ⟨(some 5),.mov (.tmp 21),none,1⟩,
 ⟨none,.store (some 3) (.tmp 6) (.tmp 23),none,1⟩])
 (.seq (.region 0 [(0,2),(1,2),(0,3),(1,3),(0,4),(1,4),(2,4),(3,4),(0,5),(1,5),(2,5),(3,5),(0,6),(1,6),(0,7),(1,7),(2,7),(3,7),(4,7),(5,7),(6,7),(0,8),(1,8),(2,8),(3,8),(4,8),(5,8),(6,8),(0,9),(1,9),(2,9),(3,9),(4,9),(5,9),(6,9),(7,9),(8,9),(0,10),(1,10),(2,10),(3,10),(4,10),(5,10),(6,10),(0,11),(1,11),(2,11),(3,11),(4,11),(5,11),(6,11),(0,12),(1,12)] [
 ⟨(some 24),.faddr 0 (.tmp 4),none,0⟩,
 ⟨(some 25),.load none (.tmp 24),none,0⟩,
 ⟨(some 26),.faddr 0 (.tmp 6),none,0⟩,
 ⟨(some 27),.load none (.tmp 26),none,0⟩,
 ⟨(some 28),.faddr 1 (.tmp 6),none,0⟩,
 ⟨(some 29),.load none (.tmp 28),none,0⟩,
 ⟨(some 30),.bin .sub (.tmp 27) (.tmp 29),none,0⟩,
 ⟨(some 31),.faddr 2 (.tmp 1),none,0⟩,
 ⟨(some 32),.load none (.tmp 31),none,0⟩,
 ⟨(some 33),.mov (.tmp 5),none,0⟩,
 ⟨(some 34),.iaddr 1 (.tmp 32) (.tmp 33),none,0⟩,
 ⟨(some 35),.load none (.tmp 34),none,0⟩,
 ⟨(some 36),.bin .add (.tmp 30) (.tmp 35),none,0⟩,
 ⟨(some 37),.bin .add (.tmp 25) (.tmp 36),none,0⟩,
 ⟨(some 38),.faddr 0 (.tmp 4),none,0⟩,
 ⟨none,.store none (.tmp 38) (.tmp 37),none,0⟩])
 (.seq (.region 1 [(0,2),(1,2),(0,3),(1,3),(0,4),(1,4),(2,4),(3,4),(0,5),(1,5),(2,5),(3,5),(0,6),(1,6),(2,6),(3,6),(0,7),(1,7),(2,7),(3,7),(0,8),(1,8),(2,8),(3,8),(0,9),(1,9),(0,11),(1,11),(2,11),(3,11),(4,11),(5,11),(6,11),(7,11),(8,11),(9,11),(10,11),(0,12),(1,12),(2,12),(3,12),(4,12),(5,12),(6,12),(7,12),(8,12),(9,12),(10,12),(0,13),(1,13),(2,13),(3,13),(4,13),(5,13),(6,13),(7,13),(8,13),(9,13),(10,13),(0,14),(1,14),(2,14),(3,14),(4,14),(5,14),(6,14),(7,14),(8,14),(9,14),(10,14),(0,15),(1,15),(2,15),(3,15),(4,15),(5,15),(6,15),(7,15),(8,15),(9,15),(10,15),(11,15),(12,15),(13,15),(14,15),(0,16),(1,16),(2,16),(3,16),(4,16),(5,16),(6,16),(7,16),(8,16),(9,16),(10,16),(11,16),(12,16),(13,16),(14,16),(0,17),(1,17),(2,17),(3,17),(4,17),(5,17),(6,17),(7,17),(8,17),(9,17),(10,17),(0,19),(1,19),(2,19),(3,19),(4,19),(5,19),(6,19),(7,19),(8,19),(9,19),(10,19),(11,19),(12,19),(13,19),(14,19),(15,19),(16,19),(17,19),(18,19)] [
 ⟨(some 39),.faddr 1 (.tmp 4),none,0⟩,
 ⟨(some 40),.load none (.tmp 39),none,0⟩,
 ⟨(some 41),.faddr 2 (.tmp 6),none,0⟩,
 ⟨(some 42),.load none (.tmp 41),none,0⟩,
 ⟨(some 43),.load none (.tmp 2),none,0⟩,
 ⟨(some 44),.nilchk (.tmp 43),none,0⟩,
 ⟨(some 45),.faddr 0 (.tmp 44),none,0⟩,
 ⟨(some 46),.faddr 6 (.tmp 45),none,0⟩,
 ⟨(some 47),.load none (.tmp 46),none,0⟩,
 ⟨(some 48),.bin .mul (.tmp 42) (.tmp 47),none,0⟩,
 ⟨(some 49),.bin .add (.tmp 40) (.tmp 48),none,0⟩,
 ⟨(some 50),.load none (.tmp 2),none,0⟩,
 ⟨(some 51),.nilchk (.tmp 50),none,0⟩,
 ⟨(some 52),.faddr 0 (.tmp 51),none,0⟩,
 ⟨(some 53),.load (some 12) (.tmp 52),none,0⟩,
 ⟨(some 54),.faddr 0 (.tmp 4),none,0⟩,
 ⟨(some 55),.load none (.tmp 54),none,0⟩,
 ⟨(some 56),.call 87 true [(.tmp 53),(.tmp 55)],none,0⟩,
 ⟨(some 57),.build [(.int .i64 0),(.bool false)] [(0,1,(.tmp 49)),(1,1,(.tmp 56))],none,0⟩,
 ⟨(some 7),.alloc [(.int .i64 0),(.bool false)],none,0⟩,
 ⟨none,.store (some 2) (.tmp 7) (.tmp 57),none,1⟩])
 (.seq (.seq (.region 0 [] [
 ⟨(some 58),.load none (.tmp 2),none,0⟩,
 ⟨(some 59),.nilchk (.tmp 58),none,0⟩,
 ⟨(some 60),.faddr 0 (.tmp 59),none,0⟩,
 ⟨(some 61),.faddr 10 (.tmp 60),none,0⟩,
 ⟨(some 62),.load none (.tmp 61),none,0⟩,
 ⟨(some 63),.mov (.tmp 5),none,0⟩,
 ⟨(some 64),.iaddr 1 (.tmp 62) (.tmp 63),none,0⟩,
 ⟨(some 65),.load none (.tmp 64),none,0⟩,
 ⟨(some 66),.mov (.cst (.c (.int .i64 0))),none,0⟩])
 (.block 2 (.loop ⟨[67,68,69,70,71,72,73,74],false,[]⟩
 (.seq (.region 0 [] [
 ⟨(some 67),.bin .lss (.tmp 66) (.tmp 65),none,0⟩])
 (.seq (.cond (.tmp 67)
 .skip
 (.exit 2))
 (.seq (.block 3 (.region 0 [] [
 ⟨(some 69),.load none (.tmp 2),none,0⟩,
 ⟨(some 70),.load (some 2) (.tmp 7),none,0⟩,
 ⟨(some 71),.call 88 false [(.tmp 69),(.tmp 70)],none,0⟩,
 ⟨(some 68),.mov (.tmp 71),none,0⟩,
 ⟨(some 72),.extract 0 (.tmp 68),none,0⟩,
 ⟨(some 73),.extract 1 (.tmp 68),none,0⟩,
 ⟨none,.store (some 2) (.tmp 7) (.tmp 73),none,0⟩]))
 (.region 0 [] [
 ⟨(some 74),.bin .add (.tmp 66) (.cst (.c (.int .i64 1))),none,0⟩,
 ⟨(some 66),.mov (.tmp 74),none,0⟩])))))))
 (.seq (.region 0 [] [
 ⟨(some 75),.faddr 0 (.tmp 7),none,0⟩,
 ⟨(some 76),.load none (.tmp 75),none,0⟩,
 ⟨(some 77),.faddr 1 (.tmp 4),none,0⟩,
 ⟨none,.store none (.tmp 77) (.tmp 76),none,0⟩])
 (.seq (.region 0 [] [
 ⟨(some 78),.mov (.tmp 0),none,0⟩,
 ⟨(some 79),.load (some 2) (.tmp 4),none,0⟩,
 ⟨(some 80),.callv (.tmp 78) [(.tmp 79)],none,0⟩,
 ⟨(some 81),.not (.tmp 80),none,0⟩])
 (.cond (.tmp 81)
 .ret
 .skip))))))))
 (.region 0 [] [
 ⟨(some 82),.bin .add (.tmp 19) (.cst (.c (.int .i64 1))),none,0⟩,
 ⟨(some 19),.mov (.tmp 82),none,0⟩]))))))))⟩
def f118 : AFunc:=⟨60,[],false,
 (.seq (.region 1 [] [
 ⟨(some 3),.box (.tmp 0),none,0⟩])
 (.seq (.region 0 [] [
 ⟨(some 10),.load none (.tmp 1),none,0⟩,
 ⟨(some 11),.nilchk (.tmp 10),none,0⟩,
 ⟨(some 12),.faddr 0 (.tmp 11),none,0⟩,
 ⟨(some 13),.load (some 12) (.tmp 12),none,0⟩,
 ⟨(some 14),.call 80 true [(.tmp 13)],none,0⟩,
 ⟨(some 15),.call 119 false [(.tmp 14)],none,0⟩])
 (.block 0 (.range (.tmp 15) [16]
 (.region 0 [] [
 ⟨(some 4),.mov (.tmp 16),none,0⟩])
 (.block 1 (.seq (.region 1 [(0,3),(1,3),(2,3),(0,4),(1,4),(2,4),(0,5),(1,5),(2,5),(0,6),(1,6),(2,6),(3,6),(4,6),(5,6),(0,7),(1,7),(2,7),(3,7),(4,7),(5,7),(0,9),(1,9),(2,9),(3,9),(4,9),(5,9),(6,9),(7,9),(8,9)] [
 ⟨(some 17),.mov (.tmp 4),none,0⟩,
 ⟨(some 18),.iaddr 1 (.tmp 17) (.cst (.c (.int .i64 0))),none,0⟩,
 ⟨(some 19),.load none (.tmp 18),none,0⟩,
 ⟨(some 20),.mov (.tmp 4),none,0⟩,
 ⟨(some 21),.iaddr 1 (.tmp 20) (.cst (.c (.int .i64 1))),none,0⟩,
 ⟨(some 22),.load none (.tmp 21),none,0⟩,
 ⟨(some 23),.mov (.tmp 4),none,0⟩,
 ⟨(some 24),.slice 1 (.tmp 23) (some (.cst (.c (.int .i64 2)))) none,none,0⟩,
 ⟨(some 25),.build [(.int .i64 0),(.int .i64 0),.nils] [(0,1,(.tmp 19)),(1,1,(.tmp 22)),(2,1,(.tmp 24))],none,0⟩,
 ⟨(some 5),.alloc [(.int .i64 0),(.int .i64 0),.nils],none,0⟩,
 ⟨none,.store (some 3) (.tmp 5) (.tmp 25),none,1⟩])
 (.seq (.region 0 [] [
 ⟨(some 26),.load none (.tmp 1),none,0⟩,
 ⟨(some 27),.load (some 3) (.tmp 5),none,0⟩,
 ⟨(some 28),.call 43 false [(.tmp 26),(.tmp 27)],none,0⟩,
 ⟨(some 6),.mov (.tmp 28),none,0⟩])
 (.seq (.region 0 [] [
 ⟨(some 7),.mov (.cst (.c (.bool true))),none,0⟩])
 (.seq (.seq (.region 0 [] [
 ⟨(some 29),.load none (.tmp 1),none,0⟩,
 ⟨(some 30),.nilchk (.tmp 29),none,0⟩,
 ⟨(some 31),.faddr 0 (.tmp 30),none,0⟩,
 ⟨(some 32),.faddr 11 (.tmp 31),none,0⟩,
 ⟨(some 33),.load none (.tmp 32),none,0⟩,
 ⟨(some 34),.len (.tmp 33),none,0⟩,
 ⟨(some 35),.mov (.cst (.c (.int .i64 0))),none,0⟩])
 (.block 2 (.loop ⟨[8,9,36,37,38,39,40,41,42,43,44,45,46,47,48,49,50,51],false,[]⟩
 (.seq (.region 0 [] [
 ⟨(some 36),.bin .lss (.tmp 35) (.tmp 34),none,0⟩])
 (.seq (.cond (.tmp 36)
 .skip
 (.exit 2))
 (.seq (.block 3 (.seq (.region 1 [] [
 ⟨(some 37),.mov (.tmp 35),none,0⟩,
 ⟨(some 38),.iaddr 4 (.tmp 33) (.tmp 35),none,0⟩,
 ⟨(some 39),.load (some 4) (.tmp 38),none,0⟩,
 ⟨(some 9),.alloc [(.int .i64 0),(.bool false),(.int .i64 0),(.int .i64 0)],none,0⟩,
 ⟨(some 8),.mov (.tmp 37),none,1⟩,
 ⟨none,.store (some 4) (.tmp 9) (.tmp 39),none,1⟩])
 (.region 0 [] [
 ⟨(some 40),.mov (.tmp 7),none,0⟩,
 ⟨(some 41),.mov (.tmp 40),none,0⟩,
 ⟨(some 42),.load none (.tmp 2),some (41,true),0⟩,
 ⟨(some 43),.mov (.tmp 8),some (41,true),0⟩,
 ⟨(some 44),.call 120 true [(.tmp 42),(.tmp 43)],some (41,true),0⟩,
 ⟨(some 45),.mov (.tmp 44),some (41,true),0⟩,
 ⟨(some 46),.load (some 4) (.tmp 9),some (45,false),0⟩,
 ⟨(some 47),.mov (.tmp 6),some (45,false),0⟩,
 ⟨(some 48),.call 121 true [(.tmp 46),(.tmp 47)],some (45,false),0⟩,
 ⟨(some 49),.pick (.tmp 45) (.cst (.c (.bool true))) (.tmp 48),some (41,true),0⟩,
 ⟨(some 50),.pick (.tmp 41) (.tmp 49) (.cst (.c (.bool false))),none,0⟩,
 ⟨(some 7),.mov (.tmp 50),none,0⟩])))
 (.region 0 [] [
 ⟨(some 51),.bin .add (.tmp 35) (.cst (.c (.int .i64 1))),none,0⟩,
 ⟨(some 35),.mov (.tmp 51),none,0⟩])))))))
 (.seq (.region 0 [] [
 ⟨(some 52),.mov (.tmp 7),none,0⟩,
 ⟨(some 53),.mov (.tmp 52),none,0⟩,
 ⟨(some 54),.load none (.tmp 3),some (53,true),0⟩,
 ⟨(some 55),.load (some 3) (.tmp 5),some (53,true),0⟩,
 ⟨(some 56),.mov (.tmp 6),some (53,true),0⟩,
 ⟨(some 57),.callv (.tmp 54) [(.tmp 55),(.tmp 56)],some (53,true),0⟩,
 ⟨(some 58),.not (.tmp 57),some (53,true),0⟩,
 ⟨(some 59),.pick (.tmp 53) (.tmp 58) (.cst (.c (.bool false))),none,0⟩])
 (.cond (.tmp 59)
 .ret
 .skip)))))))))))⟩
def f119 : AFunc:=⟨4,[.tmp 2],false,
 (.seq (.region 1 [] [
 ⟨(some 1),.box (.tmp 0),none,0⟩,
 ⟨(some 2),.mov (.cst (.c .nilfn)),none,1⟩])
 (.seq (.region 0 [] [
 ⟨(some 3),.mkfn 133 none [(.tmp 1)],none,0⟩,
 ⟨(some 2),.mov (.tmp 3),none,0⟩])
 .ret))⟩
def f120 : AFunc:=⟨9,[.tmp 4],false,
 (.seq (.region 0 [] [
 ⟨(some 4),.mov (.cst (.c (.bool false))),none,0⟩])
 (.seq (.region 0 [] [
 ⟨(some 5),.mov (.tmp 0),none,0⟩,
 ⟨(some 6),.mov (.tmp 1),none,0⟩,
 ⟨(some 7),.call 135 true [(.tmp 5),(.tmp 6)],none,0⟩,
 ⟨(some 8),.bin .geq (.tmp 7) (.cst (.c (.int .i64 0))),none,0⟩,
 ⟨(some 4),.mov (.tmp 8),none,0⟩])
 .ret))⟩
def f121 : AFunc:=⟨25,[.tmp 4],false,
 (.seq (.region 1 [] [
 ⟨(some 2),.box (.tmp 0),none,0⟩,
 ⟨(some 4),.mov (.cst (.c (.bool false))),none,1⟩])
 (.seq (.seq (.region 0 [] [
 ⟨(some 5),.faddr 1 (.tmp 2),none,0⟩,
 ⟨(some 6),.load none (.tmp 5),none,0⟩])
 (.cond (.tmp 6)
 (.seq (.region 0 [(0,2),(1,2),(0,3),(1,3),(2,3),(0,4),(1,4),(2,4),(0,5),(1,5),(0,6),(1,6),(0,7),(1,7)] [
 ⟨(some 7),.faddr 2 (.tmp 2),none,0⟩,
 ⟨(some 8),.load (some 2) (.tmp 7),none,0⟩,
 ⟨(some 9),.mov (.tmp 1),none,0⟩,
 ⟨(some 10),.faddr 0 (.tmp 2),none,0⟩,
 ⟨(some 11),.load none (.tmp 10),none,0⟩,
 ⟨(some 12),.iaddr 2 (.tmp 9) (.tmp 11),none,0⟩,
 ⟨(some 13),.faddr 0 (.tmp 12),none,0⟩,
 ⟨(some 14),.load none (.tmp 13),none,0⟩,
 ⟨(some 15),.call 83 true [(.tmp 8),(.tmp 14)],none,0⟩,
 ⟨(some 4),.mov (.tmp 15),none,0⟩])
 .ret)
 .skip))
 (.seq (.region 0 [(0,2),(1,2),(0,3),(1,3),(2,3),(0,4),(1,4),(2,4),(0,5),(1,5),(0,6),(1,6),(0,7),(1,7)] [
 ⟨(some 16),.faddr 2 (.tmp 2),none,0⟩,
 ⟨(some 17),.load (some 2) (.tmp 16),none,0⟩,
 ⟨(some 18),.mov (.tmp 1),none,0⟩,
 ⟨(some 19),.faddr 0 (.tmp 2),none,0⟩,
 ⟨(some 20),.load none (.tmp 19),none,0⟩,
 ⟨(some 21),.iaddr 2 (.tmp 18) (.tmp 20),none,0⟩,
 ⟨(some 22),.faddr 1 (.tmp 21),none,0⟩,
 ⟨(some 23),.load none (.tmp 22),none,0⟩,
 ⟨(some 24),.call 83 true [(.tmp 17),(.tmp 23)],none,0⟩,
 ⟨(some 4),.mov (.tmp 24),none,0⟩])
 .ret)))⟩
def f122 : AFunc:=⟨28,[.tmp 4],false,
 (.seq (.region 0 [] [
 ⟨(some 4),.mov (.cst (.c (.int .i64 0))),none,0⟩])
 (.seq (.region 0 [] [
 ⟨(some 5),.mov (.cst (.c (.int .i64 0))),none,0⟩])
 (.seq (.seq (.region 0 [] [
 ⟨(some 6),.mov (.cst (.c (.int .i64 0))),none,0⟩])
 (.block 0 (.loop ⟨[7,8,9,10,11,12,13,14,15,16,17,18,19,20,21,22,23],false,[]⟩
 (.seq (.seq (.region 0 [] [
 ⟨(some 7),.mov (.tmp 6),none,0⟩,
 ⟨(some 8),.mov (.tmp 0),none,0⟩,
 ⟨(some 9),.len (.tmp 8),none,0⟩,
 ⟨(some 10),.bin .lss (.tmp 7) (.tmp 9),none,0⟩])
 (.cond (.tmp 10)
 .skip
 (.exit 0)))
 (.seq (.block 1 (.region 0 [(0,1),(0,2),(1,2),(0,3),(0,4),(0,5),(1,5),(2,5),(3,5),(4,5),(0,6),(1,6),(2,6),(3,6),(4,6),(5,6),(0,7),(1,7),(2,7),(3,7),(4,7),(0,8),(1,8),(2,8),(3,8),(4,8),(0,9)] [
 ⟨(some 13),.mov (.tmp 5),none,0⟩,
 ⟨(some 14),.mov (.tmp 1),none,0⟩,
 ⟨(some 15),.mov (.tmp 6),none,0⟩,
 ⟨(some 16),.iaddr 1 (.tmp 14) (.tmp 15),none,0⟩,
 ⟨(some 17),.load none (.tmp 16),none,0⟩,
 ⟨(some 18),.mov (.tmp 0),none,0⟩,
 ⟨(some 19),.mov (.tmp 6),none,0⟩,
 ⟨(some 20),.iaddr 1 (.tmp 18) (.tmp 19),none,0⟩,
 ⟨(some 21),.load none (.tmp 20),none,0⟩,
 ⟨(some 22),.bin .mul (.tmp 17) (.tmp 21),none,0⟩,
 ⟨(some 23),.bin .add (.tmp 13) (.tmp 22),none,0⟩,
 ⟨(some 5),.mov (.tmp 23),none,0⟩]))
 (.region 0 [] [
 ⟨(some 11),.mov (.tmp 6),none,0⟩,
 ⟨(some 12),.bin .add (.tmp 11) (.cst (.c (.int .i64 1))),none,0⟩,
 ⟨(some 6),.mov (.tmp 12),none,0⟩]))))))
 (.seq (.region 0 [] [
 ⟨(some 24),.mov (.tmp 5),none,0⟩,
 ⟨(some 25),.mov (.tmp 1),none,0⟩,
 ⟨(some 26),.call 25 true [(.tmp 25)],none,0⟩,
 ⟨(some 27),.bin .quo (.tmp 24) (.tmp 26),none,0⟩,
 ⟨(some 4),.mov (.tmp 27),none,0⟩])
 .ret))))⟩
def f123 : AFunc:=⟨15,[.tmp 4],false,
 (.seq (.region 2 [] [
 ⟨(some 2),.box (.tmp 0),none,0⟩,
 ⟨(some 3),.box (.tmp 1),none,1⟩,
 ⟨(some 4),.mov (.cst (.c (.int .i64 0))),none,2⟩])
 (.seq (.seq (.region 0 [] [
 ⟨(some 5),.faddr 0 (.tmp 3),none,0⟩,
 ⟨(some 6),.load none (.tmp 5),none,0⟩])
 (.cond (.tmp 6)
 (.seq (.region 0 [] [
 ⟨(some 7),.faddr 0 (.tmp 2),none,0⟩,
 ⟨(some 8),.load none (.tmp 7),none,0⟩,
 ⟨(some 9),.len (.tmp 8),none,0⟩,
 ⟨(some 10),.faddr 1 (.tmp 3),none,0⟩,
 ⟨(some 11),.load none (.tmp 10),none,0⟩,
 ⟨(some 12),.bin .add (.tmp 9) (.tmp 11),none,0⟩,
 ⟨(some 4),.mov (.tmp 12),none,0⟩])
 .ret)
 .skip))
 (.seq (.region 0 [] [
 ⟨(some 13),.faddr 1 (.tmp 3),none,0⟩,
 ⟨(some 14),.load none (.tmp 13),none,0⟩,
 ⟨(some 4),.mov (.tmp 14),none,0⟩])
 .ret)))⟩
def f124 : AFunc:=⟨9,[.tmp 4],false,
 (.seq (.region 1 [] [
 ⟨(some 3),.box (.tmp 1),none,0⟩,
 ⟨(some 4),.mov (.cst (.c (.bool false))),none,1⟩])
 (.seq (.region 0 [] [
 ⟨(some 5),.mov (.tmp 0),none,0⟩,
 ⟨(some 6),.mkfn 136 none [(.tmp 3)],none,0⟩,
 ⟨(some 7),.call 112 false [(.tmp 5),(.tmp 6)],none,0⟩,
 ⟨(some 8),.not (.tmp 7),none,0⟩,
 ⟨(some 4),.mov (.tmp 8),none,0⟩])
 .ret))⟩
def f125 : AFunc:=⟨5,[.tmp 2],false,
 (.seq (.region 0 [] [
 ⟨(some 2),.mov (.cst (.c (.bool false))),none,0⟩])
 (.seq (.region 0 [] [
 ⟨(some 3),.mov (.tmp 0),none,0⟩,
 ⟨(some 4),.call 97 true [(.tmp 3),(.cst (.c (.int .i64 0))),(.cst (.c (.int .i64 30)))],none,0⟩,
 ⟨(some 2),.mov (.tmp 4),none,0⟩])
 .ret))⟩
def f126 : AFunc:=⟨19,[.tmp 4],false,
 (.seq (.region 0 [] [
 ⟨(some 4),.mov (.cst (.c (.int .i64 0))),none,0⟩])
 (.seq (.seq (.region 0 [] [
 ⟨(some 6),.mov (.tmp 0),none,0⟩,
 ⟨(some 7),.len (.tmp 6),none,0⟩,
 ⟨(some 8),.mov (.cst (.c (.int .i64 0))),none,0⟩])
 (.block 0 (.loop ⟨[4,5,9,10,11,12,13,14,15,16,17,18],false,[]⟩
 (.seq (.region 0 [] [
 ⟨(some 9),.bin .lss (.tmp 8) (.tmp 7),none,0⟩])
 (.seq (.cond (.tmp 9)
 .skip
 (.exit 0))
 (.seq (.block 1 (.seq (.region 0 [] [
 ⟨(some 10),.mov (.tmp 8),none,0⟩,
 ⟨(some 5),.mov (.tmp 10),none,0⟩])
 (.seq (.region 0 [] [
 ⟨(some 11),.mov (.tmp 1),none,0⟩,
 ⟨(some 12),.mov (.tmp 0),none,0⟩,
 ⟨(some 13),.mov (.tmp 5),none,0⟩,
 ⟨(some 14),.iaddr 2 (.tmp 12) (.tmp 13),none,0⟩,
 ⟨(some 15),.load (some 2) (.tmp 14),none,0⟩,
 ⟨(some 16),.callv (.tmp 11) [(.tmp 15)],none,0⟩])
 (.cond (.tmp 16)
 (.seq (.region 0 [] [
 ⟨(some 17),.mov (.tmp 5),none,0⟩,
 ⟨(some 4),.mov (.tmp 17),none,0⟩])
 .ret)
 .skip))))
 (.region 0 [] [
 ⟨(some 18),.bin .add (.tmp 8) (.cst (.c (.int .i64 1))),none,0⟩,
 ⟨(some 8),.mov (.tmp 18),none,0⟩])))))))
 (.seq (.region 0 [] [
 ⟨(some 4),.mov (.cst (.c (.int .i64 (-1)))),none,0⟩])
 .ret)))⟩
def f127 : AFunc:=⟨19,[.tmp 4],false,
 (.seq (.region 0 [] [
 ⟨(some 4),.mov (.cst (.c (.int .i64 0))),none,0⟩])
 (.seq (.seq (.region 0 [] [
 ⟨(some 6),.mov (.tmp 0),none,0⟩,
 ⟨(some 7),.len (.tmp 6),none,0⟩,
 ⟨(some 8),.mov (.cst (.c (.int .i64 0))),none,0⟩])
 (.block 0 (.loop ⟨[4,5,9,10,11,12,13,14,15,16,17,18],false,[]⟩
 (.seq (.region 0 [] [
 ⟨(some 9),.bin .lss (.tmp 8) (.tmp 7),none,0⟩])
 (.seq (.cond (.tmp 9)
 .skip
 (.exit 0))
 (.seq (.block 1 (.seq (.region 0 [] [
 ⟨(some 10),.mov (.tmp 8),none,0⟩,
 ⟨(some 5),.mov (.tmp 10),none,0⟩])
 (.seq (.region 0 [] [
 ⟨(some 11),.mov (.tmp 1),none,0⟩,
 ⟨(some 12),.mov (.tmp 0),none,0⟩,
 ⟨(some 13),.mov (.tmp 5),none,0⟩,
 ⟨(some 14),.iaddr 1 (.tmp 12) (.tmp 13),none,0⟩,
 ⟨(some 15),.load none (.tmp 14),none,0⟩,
 ⟨(some 16),.callv (.tmp 11) [(.tmp 15)],none,0⟩])
 (.cond (.tmp 16)
 (.seq (.region 0 [] [
 ⟨(some 17),.mov (.tmp 5),none,0⟩,
 ⟨(some 4),.mov (.tmp 17),none,0⟩])
 .ret)
 .skip))))
 (.region 0 [] [
 ⟨(some 18),.bin .add (.tmp 8) (.cst (.c (.int .i64 1))),none,0⟩,
 ⟨(some 8),.mov (.tmp 18),none,0⟩])))))))
 (.seq (.region 0 [] [
 ⟨(some 4),.mov (.cst (.c (.int .i64 (-1)))),none,0⟩])
 .ret)))⟩
def f128 : AFunc:=⟨19,[.tmp 4],false,
 (.seq (.region 0 [] [
 ⟨(some 4),.mov (.cst (.c (.int .i64 0))),none,0⟩])
 (.seq (.seq (.region 0 [] [
 ⟨(some 6),.mov (.tmp 0),none,0⟩,
 ⟨(some 7),.len (.tmp 6),none,0⟩,
 ⟨(some 8),.mov (.cst (.c (.int .i64 0))),none,0⟩])
 (.block 0 (.loop ⟨[4,5,9,10,11,12,13,14,15,16,17,18],false,[]⟩
 (.seq (.region 0 [] [
 ⟨(some 9),.bin .lss (.tmp 8) (.tmp 7),none,0⟩])
 (.seq (.cond (.tmp 9)
 .skip
 (.exit 0))
 (.seq (.block 1 (.seq (.region 0 [] [
 ⟨(some 10),.mov (.tmp 8),none,0⟩,
 ⟨(some 5),.mov (.tmp 10),none,0⟩])
 (.seq (.region 0 [] [
 ⟨(some 11),.mov (.tmp 1),none,0⟩,
 ⟨(some 12),.mov (.tmp 0),none,0⟩,
 ⟨(some 13),.mov (.tmp 5),none,0⟩,
 ⟨(some 14),.iaddr 4 (.tmp 12) (.tmp 13),none,0⟩,
 ⟨(some 15),.load (some 4) (.tmp 14),none,0⟩,
 ⟨(some 16),.callv (.tmp 11) [(.tmp 15)],none,0⟩])
 (.cond (.tmp 16)
 (.seq (.region 0 [] [
 ⟨(some 17),.mov (.tmp 5),none,0⟩,
 ⟨(some 4),.mov (.tmp 17),none,0⟩])
 .ret)
 .skip))))
 (.region 0 [] [
 ⟨(some 18),.bin .add (.tmp 8) (.cst (.c (.int .i64 1))),none,0⟩,
 ⟨(some 8),.mov (.tmp 18),none,0⟩])))))))
 (.seq (.region 0 [] [
 ⟨(some 4),.mov (.cst (.c (.int .i64 (-1)))),none,0⟩])
 .ret)))⟩
def f129 : AFunc:=⟨19,[.tmp 4],false,
 (.seq (.region 0 [] [
 ⟨(some 4),.mov (.cst (.c (.int .i64 0))),none,0⟩])
 (.seq (.seq (.region 0 [] [
 ⟨(some 6),.mov (.tmp 0),none,0⟩,
 ⟨(some 7),.len (.tmp 6),none,0⟩,
 ⟨(some 8),.mov (.cst (.c (.int .i64 0))),none,0⟩])
 (.block 0 (.loop ⟨[4,5,9,10,11,12,13,14,15,16,17,18],false,[]⟩
 (.seq (.region 0 [] [
 ⟨(some 9),.bin .lss (.tmp 8) (.tmp 7),none,0⟩])
 (.seq (.cond (.tmp 9)
 .skip
 (.exit 0))
 (.seq (.block 1 (.seq (.region 0 [] [
 ⟨(some 10),.mov (.tmp 8),none,0⟩,
 ⟨(some 5),.mov (.tmp 10),none,0⟩])
 (.seq (.region 0 [] [
 ⟨(some 11),.mov (.tmp 1),none,0⟩,
 ⟨(some 12),.mov (.tmp 0),none,0⟩,
 ⟨(some 13),.mov (.tmp 5),none,0⟩,
 ⟨(some 14),.iaddr 2 (.tmp 12) (.tmp 13),none,0⟩,
 ⟨(some 15),.load (some 2) (.tmp 14),none,0⟩,
 ⟨(some 16),.callv (.tmp 11) [(.tmp 15)],none,0⟩])
 (.cond (.tmp 16)
 (.seq (.region 0 [] [
 ⟨(some 17),.mov (.tmp 5),none,0⟩,
 ⟨(some 4),.mov (.tmp 17),none,0⟩])
 .ret)
 .skip))))
 (.region 0 [] [
 ⟨(some 18),.bin .add (.tmp 8) (.cst (.c (.int .i64 1))),none,0⟩,
 ⟨(some 8),.mov (.tmp 18),none,0⟩])))))))
 (.seq (.region 0 [] [
 ⟨(some 4),.mov (.cst (.c (.int .i64 (-1)))),none,0⟩])
 .ret)))⟩
def f130 : AFunc:=⟨19,[.tmp 4],false,
 (.seq (.region 0 [] [
 ⟨(some 4),.mov (.cst (.c (.int .i64 0))),none,0⟩])
 (.seq (.seq (.region 0 [] [
 ⟨(some 6),.mov (.tmp 0),none,0⟩,
 ⟨(some 7),.len (.tmp 6),none,0⟩,
 ⟨(some 8),.mov (.cst (.c (.int .i64 0))),none,0⟩])
 (.block 0 (.loop ⟨[4,5,9,10,11,12,13,14,15,16,17,18],false,[]⟩
 (.seq (.region 0 [] [
 ⟨(some 9),.bin .lss (.tmp 8) (.tmp 7),none,0⟩])
 (.seq (.cond (.tmp 9)
 .skip
 (.exit 0))
 (.seq (.block 1 (.seq (.region 0 [] [
 ⟨(some 10),.mov (.tmp 8),none,0⟩,
 ⟨(some 5),.mov (.tmp 10),none,0⟩])
 (.seq (.region 0 [] [
 ⟨(some 11),.mov (.tmp 1),none,0⟩,
 ⟨(some 12),.mov (.tmp 0),none,0⟩,
 ⟨(some 13),.mov (.tmp 5),none,0⟩,
 ⟨(some 14),.iaddr 3 (.tmp 12) (.tmp 13),none,0⟩,
 ⟨(some 15),.load (some 3) (.tmp 14),none,0⟩,
 ⟨(some 16),.callv (.tmp 11) [(.tmp 15)],none,0⟩])
 (.cond (.tmp 16)
 (.seq (.region 0 [] [
 ⟨(some 17),.mov (.tmp 5),none,0⟩,
 ⟨(some 4),.mov (.tmp 17),none,0⟩])
 .ret)
 .skip))))
 (.region 0 [] [
 ⟨(some 18),.bin .add (.tmp 8) (.cst (.c (.int .i64 1))),none,0⟩,
 ⟨(some 8),.mov (.tmp 18),none,0⟩])))))))
 (.seq (.region 0 [] [
 ⟨(some 4),.mov (.cst (.c (.int .i64 (-1)))),none,0⟩])
 .ret)))⟩
def f131 : AFunc:=⟨19,[.tmp 4],false,
 (.seq (.region 0 [] [
 ⟨(some 4),.mov (.cst (.c (.int .i64 0))),none,0⟩])
 (.seq (.seq (.region 0 [] [
 ⟨(some 6),.mov (.tmp 0),none,0⟩,
 ⟨(some 7),.len (.tmp 6),none,0⟩,
 ⟨(some 8),.mov (.cst (.c (.int .i64 0))),none,0⟩])
 (.block 0 (.loop ⟨[4,5,9,10,11,12,13,14,15,16,17,18],false,[]⟩
 (.seq (.region 0 [] [
 ⟨(some 9),.bin .lss (.tmp 8) (.tmp 7),none,0⟩])
 (.seq (.cond (.tmp 9)
 .skip
 (.exit 0))
 (.seq (.block 1 (.seq (.region 0 [] [
 ⟨(some 10),.mov (.tmp 8),none,0⟩,
 ⟨(some 5),.mov (.tmp 10),none,0⟩])
 (.seq (.region 0 [] [
 ⟨(some 11),.mov (.tmp 1),none,0⟩,
 ⟨(some 12),.mov (.tmp 0),none,0⟩,
 ⟨(some 13),.mov (.tmp 5),none,0⟩,
 ⟨(some 14),.iaddr 1 (.tmp 12) (.tmp 13),none,0⟩,
 ⟨(some 15),.load none (.tmp 14),none,0⟩,
 ⟨(some 16),.callv (.tmp 11) [(.tmp 15)],none,0⟩])
 (.cond (.tmp 16)
 (.seq (.region 0 [] [
 ⟨(some 17),.mov (.tmp 5),none,0⟩,
 ⟨(some 4),.mov (.tmp 17),none,0⟩])
 .ret)
 .skip))))
 (.region 0 [] [
 ⟨(some 18),.bin .add (.tmp 8) (.cst (.c (.int .i64 1))),none,0⟩,
 ⟨(some 8),.mov (.tmp 18),none,0⟩])))))))
 (.seq (.region 0 [] [
 ⟨(some 4),.mov (.cst (.c (.int .i64 (-1)))),none,0⟩])
 .ret)))⟩
def f132 : AFunc:=⟨19,[.tmp 4],false,
 (.seq (.region 0 [] [
 ⟨(some 4),.mov (.cst (.c (.int .i64 0))),none,0⟩])
 (.seq (.seq (.region 0 [] [
 ⟨(some 6),.mov (.tmp 0),none,0⟩,
 ⟨(some 7),.len (.tmp 6),none,0⟩,
 ⟨(some 8),.mov (.cst (.c (.int .i64 0))),none,0⟩])
 (.block 0 (.loop ⟨[4,5,9,10,11,12,13,14,15,16,17,18],false,[]⟩
 (.seq (.region 0 [] [
 ⟨(some 9),.bin .lss (.tmp 8) (.tmp 7),none,0⟩])
 (.seq (.cond (.tmp 9)
 .skip
 (.exit 0))
 (.seq (.block 1 (.seq (.region 0 [] [
 ⟨(some 10),.mov (.tmp 8),none,0⟩,
 ⟨(some 5),.mov (.tmp 10),none,0⟩])
 (.seq (.region 0 [] [
 ⟨(some 11),.mov (.tmp 1),none,0⟩,
 ⟨(some 12),.mov (.tmp 0),none,0⟩,
 ⟨(some 13),.mov (.tmp 5),none,0⟩,
 ⟨(some 14),.iaddr 4 (.tmp 12) (.tmp 13),none,0⟩,
 ⟨(some 15),.load (some 4) (.tmp 14),none,0⟩,
 ⟨(some 16),.callv (.tmp 11) [(.tmp 15)],none,0⟩])
 (.cond (.tmp 16)
 (.seq (.region 0 [] [
 ⟨(some 17),.mov (.tmp 5),none,0⟩,
 ⟨(some 4),.mov (.tmp 17),none,0⟩])
 .ret)
 .skip))))
 (.region 0 [] [
 ⟨(some 18),.bin .add (.tmp 8) (.cst (.c (.int .i64 1))),none,0⟩,
 ⟨(some 8),.mov (.tmp 18),none,0⟩])))))))
 (.seq (.region 0 [] [
 ⟨(some 4),.mov (.cst (.c (.int .i64 (-1)))),none,0⟩])
 .ret)))⟩
def f133 : AFunc:=⟨11,[],false,
 (.seq (.region 1 [] [
 ⟨(some 2),.box (.tmp 0),none,0⟩])
 (.seq (.region 2 [] [
 ⟨(some 5),.load none (.tmp 1),none,0⟩,
 ⟨(some 6),.len (.tmp 5),none,0⟩,
 ⟨(some 7),.mkslice 1 8 [(.int .i64 0)] (.tmp 6),none,0⟩,
 ⟨(some 3),.alloc [.nils],none,1⟩,
 ⟨none,.store none (.tmp 3) (.tmp 7),none,2⟩])
 (.seq (.region 1 [] [
 ⟨(some 4),.alloc [.nilfn],none,0⟩])
 (.seq (.region 0 [] [
 ⟨(some 8),.mkfn 134 none [(.tmp 1),(.tmp 2),(.tmp 3),(.tmp 4)],none,0⟩,
 ⟨none,.store none (.tmp 4) (.tmp 8),none,0⟩])
 (.region 0 [] [
 ⟨(some 9),.load none (.tmp 4),none,0⟩,
 ⟨(some 10),.callv (.tmp 9) [(.cst (.c (.int .i64 0)))],none,0⟩])))))⟩
def f134 : AFunc:=⟨39,[.tmp 6],false,
 (.seq (.region 0 [] [
 ⟨(some 6),.mov (.cst (.c (.bool false))),none,0⟩])
 (.seq (.seq (.region 0 [] [
 ⟨(some 8),.mov (.tmp 0),none,0⟩,
 ⟨(some 9),.load none (.tmp 1),none,0⟩,
 ⟨(some 10),.len (.tmp 9),none,0⟩,
 ⟨(some 11),.bin .eql (.tmp 8) (.tmp 10),none,0⟩])
 (.cond (.tmp 11)
 (.seq (.region 0 [] [
 ⟨(some 12),.load none (.tmp 2),none,0⟩,
 ⟨(some 13),.load none (.tmp 3),none,0⟩,
 ⟨(some 14),.callv (.tmp 12) [(.tmp 13)],none,0⟩,
 ⟨(some 6),.mov (.tmp 14),none,0⟩])
 .ret)
 .skip))
 (.seq (.seq (.region 0 [] [
 ⟨(some 15),.load none (.tmp 1),none,0⟩,
 ⟨(some 16),.mov (.tmp 0),none,0⟩,
 ⟨(some 17),.iaddr 2 (.tmp 15) (.tmp 16),none,0⟩,
 ⟨(some 18),.load (some 2) (.tmp 17),none,0⟩,
 ⟨(some 19),.call 82 true [(.tmp 18)],none,0⟩,
 ⟨(some 20),.mov (.cst (.c (.int .i64 0))),none,0⟩])
 (.block 0 (.loop ⟨[6,7,21,22,23,24,25,26,27,28,29,30,31,32,33,34,35,36,37,38],false,[]⟩
 (.seq (.region 0 [] [
 ⟨(some 21),.bin .lss (.tmp 20) (.tmp 19),none,0⟩])
 (.seq (.cond (.tmp 21)
 .skip
 (.exit 0))
 (.seq (.block 1 (.seq (.region 0 [] [
 ⟨(some 22),.mov (.tmp 20),none,0⟩,
 ⟨(some 7),.mov (.tmp 22),none,0⟩])
 (.seq (.region 0 [(0,1),(0,2),(1,2),(0,3),(1,3),(2,3),(0,4),(1,4),(0,5),(1,5),(0,6),(1,6),(0,7),(1,7),(2,7),(3,7),(4,7),(5,7),(6,7),(0,8),(1,8)] [
 ⟨(some 23),.load none (.tmp 3),none,0⟩,
 ⟨(some 24),.mov (.tmp 0),none,0⟩,
 ⟨(some 25),.load none (.tmp 1),none,0⟩,
 ⟨(some 26),.mov (.tmp 0),none,0⟩,
 ⟨(some 27),.iaddr 2 (.tmp 25) (.tmp 26),none,0⟩,
 ⟨(some 28),.faddr 0 (.tmp 27),none,0⟩,
 ⟨(some 29),.load none (.tmp 28),none,0⟩,
 ⟨(some 30),.mov (.tmp 7),none,0⟩,
 ⟨(some 31),.bin .add (.tmp 29) (.tmp 30),none,0⟩,
 ⟨(some 32),.iaddr 1 (.tmp 23) (.tmp 24),none,0⟩,
 ⟨none,.store none (.tmp 32) (.tmp 31),none,0⟩])
 (.seq (.region 0 [] [
 ⟨(some 33),.load none (.tmp 4),none,0⟩,
 ⟨(some 34),.mov (.tmp 0),none,0⟩,
 ⟨(some 35),.bin .add (.tmp 34) (.cst (.c (.int .i64 1))),none,0⟩,
 ⟨(some 36),.callv (.tmp 33) [(.tmp 35)],none,0⟩,
 ⟨(some 37),.not (.tmp 36),none,0⟩])
 (.cond (.tmp 37)
 (.seq (.region 0 [] [
 ⟨(some 6),.mov (.cst (.c (.bool false))),none,0⟩])
 .ret)
 .skip)))))
 (.region 0 [] [
 ⟨(some 38),.bin .add (.tmp 20) (.cst (.c (.int .i64 1))),none,0⟩,
 ⟨(some 20),.mov (.tmp 38),none,0⟩])))))))
 (.seq (.region 0 [] [
 ⟨(some 6),.mov (.cst (.c (.bool true))),none,0⟩])
 .ret))))⟩
def f135 : AFunc:=⟨19,[.tmp 4],false,
 (.seq (.region 0 [] [
 ⟨(some 4),.mov (.cst (.c (.int .i64 0))),none,0⟩])
 (.seq (.seq (.region 0 [] [
 ⟨(some 6),.mov (.tmp 0),none,0⟩,
 ⟨(some 7),.len (.tmp 6),none,0⟩,
 ⟨(some 8),.mov (.cst (.c (.int .i64 0))),none,0⟩])
 (.block 0 (.loop ⟨[4,5,9,10,11,12,13,14,15,16,17,18],false,[]⟩
 (.seq (.region 0 [] [
 ⟨(some 9),.bin .lss (.tmp 8) (.tmp 7),none,0⟩])
 (.seq (.cond (.tmp 9)
 .skip
 (.exit 0))
 (.seq (.block 1 (.seq (.region 0 [] [
 ⟨(some 10),.mov (.tmp 8),none,0⟩,
 ⟨(some 5),.mov (.tmp 10),none,0⟩])
 (.seq (.region 0 [] [
 ⟨(some 11),.mov (.tmp 1),none,0⟩,
 ⟨(some 12),.mov (.tmp 0),none,0⟩,
 ⟨(some 13),.mov (.tmp 5),none,0⟩,
 ⟨(some 14),.iaddr 1 (.tmp 12) (.tmp 13),none,0⟩,
 ⟨(some 15),.load none (.tmp 14),none,0⟩,
 ⟨(some 16),.bin .eql (.tmp 11) (.tmp 15),none,0⟩])
 (.cond (.tmp 16)
 (.seq (.region 0 [] [
 ⟨(some 17),.mov (.tmp 5),none,0⟩,
 ⟨(some 4),.mov (.tmp 17),none,0⟩])
 .ret)
 .skip))))
 (.region 0 [] [
 ⟨(some 18),.bin .add (.tmp 8) (.cst (.c (.int .i64 1))),none,0⟩,
 ⟨(some 8),.mov (.tmp 18),none,0⟩])))))))
 (.seq (.region 0 [] [
 ⟨(some 4),.mov (.cst (.c (.int .i64 (-1)))),none,0⟩])
 .ret)))⟩
def f136 : AFunc:=⟨8,[.tmp 3],false,
 (.seq (.region 0 [] [
 ⟨(some 3),.mov (.cst (.c (.bool false))),none,0⟩])
 (.seq (.region 0 [] [
 ⟨(some 4),.load none (.tmp 1),none,0⟩,
 ⟨(some 5),.mov (.tmp 0),none,0⟩,
 ⟨(some 6),.callv (.tmp 4) [(.tmp 5)],none,0⟩,
 ⟨(some 7),.not (.tmp 6),none,0⟩,
 ⟨(some 3),.mov (.tmp 7),none,0⟩])
 .ret))⟩
def tabL : List (Option AFunc):=[none,none,none,some f3,some f4,some f5,some f6,some f7,some f8,some f9,some f10,some f11,some f12,some f13,some f14,some f15,some f16,some f17,some f18,some f19,some f20,some f21,some f22,some f23,some f24,some f25,some f26,some f27,some f28,some f29,some f30,some f31,some f32,some f33,some f34,some f35,some f36,some f37,some f38,some f39,some f40,some f41,some f42,some f43,some f44,some f45,some f46,some f47,some f48,some f49,some f50,some f51,some f52,some f53,some f54,some f55,some f56,some f57,some f58,some f59,some f60,some f61,some f62,some f63,some f64,some f65,some f66,some f67,some f68,some f69,some f70,some f71,some f72,some f73,some f74,some f75,some f76,some f77,some f78,some f79,some f80,some f81,some f82,some f83,some f84,some f85,some f86,some f87,some f88,some f89,some f90,some f91,some f92,some f93,some f94,some f95,some f96,some f97,some f98,some f99,some f100,some f101,some f102,some f103,some f104,some f105,some f106,some f107,some f108,some f109,some f110,some f111,some f112,some f113,some f114,some f115,some f116,some f117,some f118,some f119,some f120,some f121,some f122,some f123,some f124,some f125,some f126,some f127,some f128,some f129,some f130,some f131,some f132,some f133,some f134,some f135,some f136,none,none,none,none,none,none,none,none,none,none,none,none,none,none,none,none,none,none]
def litcL : List (Nat × Nat):=[]
def litL : List (Nat × Nat):=[]
def frzL : List (Nat × Nat × Nat):=[]
def tab (k:Nat):Option AFunc:=(nth tabL k).join
def annL : List (Nat × Nat × Ann):=[(4,0,⟨[2,20,21,22,23,24,25,26,27,28,29,30,31,32,33],false,[]⟩),(5,0,⟨[2,28,29,30,31,32,33,34,35,36,37,38,39,40,41],false,[]⟩),(5,2,⟨[2,42,43,44,45,46,47,48,49,50,51,52,53,54,55,56,57,58,59,60,61,62,63,64,65],false,[]⟩),(5,4,⟨[2,6,7,66,67,68,69,70,71,72,73,74,75,76,77,78,79,80,81,82,83,84,85,86,87,88,89,90,91,92,93,94,95,96,97],true,[]⟩),(7,0,⟨[2,5,73,74,75,76,77,78,79,80,81,82,83,84,85,86,87,88,89,90,91,92,93,94,95,96,97,98,99,100,101,102,103,104,105,106,107,108,109,110,111,112,113,114,115,116],true,[]⟩),(7,2,⟨[2,117,118,119,120,121,122,123,124,125,126,127,128,129,130,131,132,133,134,135,136,137,138,139,140,141,142,143],false,[]⟩),(9,0,⟨[5,6,7,8,9,10,11,12,13,14,15,16,17,18,19,20,21],true,[(3,none,1)]⟩),(10,0,⟨[6,20,21,22,23,24,25,26,27,28],false,[(2,none,2)]⟩),(10,2,⟨[7,33,34,35,36,37,38,39,40,41,42,43,44,45],false,[(3,none,2)]⟩),(11,0,⟨[8,9,10,11,12,13,14,15,16,17,18,19,20,21,22,23,24,25],true,[(3,(some 0),2)]⟩),(11,2,⟨[26,27,28,29,30,31,32,33,34,35,36,37,38,39,40,41,42,43],true,[(3,(some 1),1)]⟩),(11,4,⟨[7,44,45,46,47,48,49,50,51,52,53,54,55,56,57,58,59,60,61,62,63,64,65,66,67,68],true,[(3,(some 2),4)]⟩),(12,0,⟨[11,29,30,31,32,33,34,35,36,37,38],true,[(9,none,1)]⟩),(13,0,⟨[7,38,39,40,41,42,43,44,45,46,47,48,49,50,51,52,53,54,55,56,57,58,59,60,61,62,63,64,65],true,[(5,(some 2),1)]⟩),(14,0,⟨[13,14,15,16,17,18,19,20,21,22,23,24,25,26,27,28],false,[]⟩),(16,0,⟨[27,28,29,30,31,32,33,34,35,36,37,38,39,40,41,42,43,44],true,[(3,(some 8),2)]⟩),(16,2,⟨[6,45,46,47,48,49,50,51,52,53,54,55,56,57,58,59,60,61,62,63,64,65,66,67,68],true,[(3,(some 9),3)]⟩),(16,4,⟨[8,69,70,71,72,73,74,75,76,77,78,79,80,81,82,83,84,85,86,87,88,89,90,91,92,93],true,[(3,(some 11),4)]⟩),(19,0,⟨[7,19,20,21,22,23,24,25,26,27,28,29,30,31,32,33],false,[(6,none,4)]⟩),(21,0,⟨[5,6,7,8,9,10,11,12,13,14,15,16],false,[]⟩),(22,0,⟨[5,6,7,8,9,10,11,12,13,14,15,16,17,18,19,20],false,[]⟩),(24,0,⟨[4,6,7,8,9,10,11,12,13,14,15,16,17],false,[]⟩),(25,0,⟨[5,6,7,8,9,10,11,12,13,14,15,16],false,[]⟩),(29,0,⟨[7,8,9,10,11,12,13,14,15,16,17,18,19,20,21,22,23,24,25,26,27,28,29,30,31,32,33],true,[(5,none,1)]⟩),(30,0,⟨[4,10,11,12,13,14,15,16,17,18,19,20,21,22,23,24,25],false,[]⟩),(33,0,⟨[8,30,31,32,33,34,35,36,37,38,39,40,41,42],false,[]⟩),(36,1,⟨[7,58,59,60,61,62,63,64,65,66,67],false,[]⟩),(37,0,⟨[5,6,7,19,20,21,22,23,24,25,26,27,28,29,30,31],true,[]⟩),(38,0,⟨[6,7,11,12,13,14,15,16,17,18,19,20,21,22],false,[]⟩),(40,1,⟨[6,76,77,78,79,80,81,82,83,84,85],false,[]⟩),(41,0,⟨[4,5,6,33,34,35,36,37,38,39,40,41,42,43,44,45],true,[]⟩),(48,0,⟨[8,9,22,23,24,25,26,27,28,29,30,31,32,33,34],false,[(6,none,1)]⟩),(55,0,⟨[7,17,18,19,20,21,22,23],false,[]⟩),(57,0,⟨[4,6,7,8,9,10,11,12,13,14,15,16,17,18,19,20,21,22,23,24,25,26,27,28,29,30,31,32,33,34,35,36],false,[]⟩),(71,0,⟨[4,8,9,10,11,12,13,14],false,[]⟩),(95,0,⟨[7,8,31,32,33,34,35,36,37,38,39,40,41,42,43,44,45,46,47,48],false,[]⟩),(96,0,⟨[6,7,8,13,14,15,16,17,18,19,20,21,22,23,24,25,26,27,28,29,30,31,32,33],true,[]⟩),(105,0,⟨[12,13,14,15,16,17,18,19,20,21,22,23],false,[]⟩),(117,0,⟨[5,6,7,20,21,22,23,24,25,26,27,28,29,30,31,32,33,34,35,36,37,38,39,40,41,42,43,44,45,46,47,48,49,50,51,52,53,54,55,56,57,58,59,60,61,62,63,64,65,66,67,68,69,70,71,72,73,74,75,76,77,78,79,80,81,82],false,[]⟩),(117,2,⟨[67,68,69,70,71,72,73,74],false,[]⟩),(118,2,⟨[8,9,36,37,38,39,40,41,42,43,44,45,46,47,48,49,50,51],false,[]⟩),(122,0,⟨[7,8,9,10,11,12,13,14,15,16,17,18,19,20,21,22,23],false,[]⟩),(126,0,⟨[4,5,9,10,11,12,13,14,15,16,17,18],false,[]⟩),(127,0,⟨[4,5,9,10,11,12,13,14,15,16,17,18],false,[]⟩),(128,0,⟨[4,5,9,10,11,12,13,14,15,16,17,18],false,[]⟩),(129,0,⟨[4,5,9,10,11,12,13,14,15,16,17,18],false,[]⟩),(130,0,⟨[4,5,9,10,11,12,13,14,15,16,17,18],false,[]⟩),(131,0,⟨[4,5,9,10,11,12,13,14,15,16,17,18],false,[]⟩),(132,0,⟨[4,5,9,10,11,12,13,14,15,16,17,18],false,[]⟩),(134,0,⟨[6,7,21,22,23,24,25,26,27,28,29,30,31,32,33,34,35,36,37,38],false,[]⟩),(135,0,⟨[4,5,9,10,11,12,13,14,15,16,17,18],false,[]⟩)]
def dropL : List Nat:=[65,75,77,100,108,110]
def cloneL : List (Nat × Nat):=[]
def growL : List (Nat × Nat):=[]
def pureL : List Nat:=[0,1,2,3,4,5,6,7,8,9,10,11,12,13,14,15,16,17,18,19,20,21,22,23,24,25,26,27,28,29,30,32,34,35,36,37,38,39,40,41,44,45,46,47,50,51,53,56,57,58,60,61,62,63,65,68,69,70,71,72,73,75,77,80,81,82,83,86,87,92,93,96,97,98,105,106,111,120,121,122,123,125,135,138,153]
def pinL : List (Nat × Nat × Nat × Bool):=[(99999,0,45,false)]
end Am.Vt
