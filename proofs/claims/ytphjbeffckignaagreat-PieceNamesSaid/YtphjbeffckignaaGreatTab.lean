/-
  A part of the proof: the texts VtTab of this seat, joined.
-/
import Derived.Test.YtphjbeffckignaaGreatTabA
namespace Am.Vt
open Go Am
set_option maxRecDepth 100000
def f25 : AFunc:=⟨26,[.tmp 4],false,
 (.seq (.region 0 [] [
 ⟨(some 4),.mov (.cst (.c (.bool false))),none,0⟩])
 (.seq (.seq (.region 0 [] [
 ⟨(some 6),.mov (.tmp 0),none,0⟩,
 ⟨(some 7),.len (.tmp 6),none,0⟩,
 ⟨(some 8),.mov (.tmp 1),none,0⟩,
 ⟨(some 9),.len (.tmp 8),none,0⟩,
 ⟨(some 10),.bin .neq (.tmp 7) (.tmp 9),none,0⟩])
 (.cond (.tmp 10)
 (.seq (.region 0 [] [
 ⟨(some 4),.mov (.cst (.c (.bool false))),none,0⟩])
 .ret)
 .skip))
 (.seq (.seq (.region 0 [] [
 ⟨(some 5),.mov (.cst (.c (.int .i64 0))),none,0⟩])
 (.block 0 (.loop ⟨[4,11,12,13,14,15,16,17,18,19,20,21,22,23,24,25],false,[]⟩
 (.seq (.seq (.region 0 [] [
 ⟨(some 11),.mov (.tmp 5),none,0⟩,
 ⟨(some 12),.mov (.tmp 0),none,0⟩,
 ⟨(some 13),.len (.tmp 12),none,0⟩,
 ⟨(some 14),.bin .lss (.tmp 11) (.tmp 13),none,0⟩])
 (.cond (.tmp 14)
 .skip
 (.exit 0)))
 (.seq (.block 1 (.seq (.region 0 [(0,1),(0,4),(1,4),(2,4),(3,4),(0,5),(1,5),(2,5),(3,5),(4,5),(0,6),(1,6),(2,6),(3,6),(0,7),(1,7),(2,7),(3,7)] [
 ⟨(some 17),.mov (.tmp 0),none,0⟩,
 ⟨(some 18),.mov (.tmp 5),none,0⟩,
 ⟨(some 19),.iaddr 1 (.tmp 17) (.tmp 18),none,0⟩,
 ⟨(some 20),.load none (.tmp 19),none,0⟩,
 ⟨(some 21),.mov (.tmp 1),none,0⟩,
 ⟨(some 22),.mov (.tmp 5),none,0⟩,
 ⟨(some 23),.iaddr 1 (.tmp 21) (.tmp 22),none,0⟩,
 ⟨(some 24),.load none (.tmp 23),none,0⟩,
 ⟨(some 25),.bin .neq (.tmp 20) (.tmp 24),none,0⟩])
 (.cond (.tmp 25)
 (.seq (.region 0 [] [
 ⟨(some 4),.mov (.cst (.c (.bool false))),none,0⟩])
 .ret)
 .skip)))
 (.region 0 [] [
 ⟨(some 15),.mov (.tmp 5),none,0⟩,
 ⟨(some 16),.bin .add (.tmp 15) (.cst (.c (.int .i64 1))),none,0⟩,
 ⟨(some 5),.mov (.tmp 16),none,0⟩]))))))
 (.seq (.region 0 [] [
 ⟨(some 4),.mov (.cst (.c (.bool true))),none,0⟩])
 .ret))))⟩
def f28 : AFunc:=⟨33,[.tmp 6,.tmp 7],false,
 (.seq (.region 3 [] [
 ⟨(some 3),.box (.tmp 0),none,0⟩,
 ⟨(some 4),.box (.tmp 1),none,1⟩,
 ⟨(some 5),.box (.tmp 2),none,2⟩,
 ⟨(some 6),.mov (.cst (.c (.int .i64 0))),none,3⟩,
 ⟨(some 7),.mov (.cst (.c (.int .i64 0))),none,3⟩])
 (.seq (.region 0 [] [
 ⟨(some 12),.load (some 17) (.tmp 3),none,0⟩,
 ⟨(some 13),.mkfn 75 none [(.tmp 3),(.tmp 4),(.tmp 5)],none,0⟩,
 ⟨(some 14),.call 74 false [(.tmp 12),(.tmp 13)],none,0⟩,
 ⟨(some 11),.mov (.tmp 14),none,0⟩,
 ⟨(some 15),.extract 0 (.tmp 11),none,0⟩,
 ⟨(some 16),.extract 1 (.tmp 11),none,0⟩,
 ⟨(some 8),.mov (.tmp 15),none,0⟩,
 ⟨(some 9),.mov (.tmp 16),none,0⟩])
 (.seq (.seq (.region 0 [] [
 ⟨(some 17),.mov (.tmp 9),none,0⟩,
 ⟨(some 18),.bin .neq (.tmp 17) (.cst (.c (.int .i64 0))),none,0⟩])
 (.cond (.tmp 18)
 (.seq (.region 0 [] [
 ⟨(some 19),.mov (.tmp 9),none,0⟩,
 ⟨(some 6),.mov (.cst (.c (.int .i64 0))),none,0⟩,
 ⟨(some 7),.mov (.tmp 19),none,0⟩])
 .ret)
 .skip))
 (.seq (.seq (.region 0 [] [
 ⟨(some 20),.load none (.tmp 5),none,0⟩,
 ⟨(some 21),.bin .sub (.cst (.c (.int .i64 20))) (.tmp 20),none,0⟩,
 ⟨(some 22),.bin .add (.tmp 21) (.cst (.c (.int .i64 1))),none,0⟩,
 ⟨(some 23),.mov (.cst (.c (.int .i64 0))),none,0⟩])
 (.block 0 (.loop ⟨[6,7,10,24,25,26,27,28,29,30,31,32],false,[]⟩
 (.seq (.region 0 [] [
 ⟨(some 24),.bin .lss (.tmp 23) (.tmp 22),none,0⟩])
 (.seq (.cond (.tmp 24)
 .skip
 (.exit 0))
 (.seq (.block 1 (.seq (.region 0 [] [
 ⟨(some 25),.mov (.tmp 23),none,0⟩,
 ⟨(some 10),.mov (.tmp 25),none,0⟩])
 (.seq (.region 0 [] [
 ⟨(some 26),.mov (.tmp 8),none,0⟩,
 ⟨(some 27),.load none (.tmp 4),none,0⟩,
 ⟨(some 28),.load none (.tmp 5),none,0⟩,
 ⟨(some 29),.mov (.tmp 10),none,0⟩,
 ⟨(some 30),.call 77 false [(.tmp 26),(.tmp 27),(.tmp 28),(.tmp 29)],none,0⟩])
 (.cond (.tmp 30)
 (.seq (.region 0 [] [
 ⟨(some 31),.mov (.tmp 10),none,0⟩,
 ⟨(some 6),.mov (.tmp 31),none,0⟩,
 ⟨(some 7),.mov (.cst (.c (.int .i64 0))),none,0⟩])
 .ret)
 .skip))))
 (.region 0 [] [
 ⟨(some 32),.bin .add (.tmp 23) (.cst (.c (.int .i64 1))),none,0⟩,
 ⟨(some 23),.mov (.tmp 32),none,0⟩])))))))
 (.seq (.region 0 [] [
 ⟨(some 6),.mov (.cst (.c (.int .i64 0))),none,0⟩,
 ⟨(some 7),.mov (.cst (.c (.int .i64 10))),none,0⟩])
 .ret)))))⟩
def f34 : AFunc:=⟨14,[.tmp 6],false,
 (.seq (.region 1 [] [
 ⟨(some 3),.box (.tmp 0),none,0⟩,
 ⟨(some 6),.mov (.cst (.c (.bool false))),none,1⟩])
 (.seq (.region 0 [] [
 ⟨(some 7),.load (some 17) (.tmp 3),none,0⟩,
 ⟨(some 8),.mov (.tmp 1),none,0⟩,
 ⟨(some 9),.mov (.tmp 2),none,0⟩,
 ⟨(some 10),.faddr 13 (.tmp 3),none,0⟩,
 ⟨(some 11),.load none (.tmp 10),none,0⟩,
 ⟨(some 12),.len (.tmp 11),none,0⟩,
 ⟨(some 13),.call 35 true [(.tmp 7),(.tmp 8),(.tmp 9),(.tmp 12)],none,0⟩,
 ⟨(some 6),.mov (.tmp 13),none,0⟩])
 .ret))⟩
def f35 : AFunc:=⟨26,[.tmp 8],false,
 (.seq (.region 3 [] [
 ⟨(some 4),.box (.tmp 0),none,0⟩,
 ⟨(some 5),.box (.tmp 1),none,1⟩,
 ⟨(some 6),.box (.tmp 2),none,2⟩,
 ⟨(some 8),.mov (.cst (.c (.bool false))),none,3⟩])
 (.seq (.region 0 [] [
 ⟨(some 12),.load (some 17) (.tmp 4),none,0⟩,
 ⟨(some 13),.mkfn 81 none [(.tmp 4),(.tmp 5),(.tmp 6)],none,0⟩,
 ⟨(some 14),.call 74 false [(.tmp 12),(.tmp 13)],none,0⟩,
 ⟨(some 11),.mov (.tmp 14),none,0⟩,
 ⟨(some 15),.extract 0 (.tmp 11),none,0⟩,
 ⟨(some 16),.extract 1 (.tmp 11),none,0⟩,
 ⟨(some 9),.mov (.tmp 15),none,0⟩,
 ⟨(some 10),.mov (.tmp 16),none,0⟩])
 (.seq (.region 0 [] [
 ⟨(some 17),.mov (.tmp 10),none,0⟩,
 ⟨(some 18),.bin .eql (.tmp 17) (.cst (.c (.int .i64 0))),none,0⟩,
 ⟨(some 19),.mov (.tmp 18),none,0⟩,
 ⟨(some 20),.mov (.tmp 9),some (19,true),0⟩,
 ⟨(some 21),.load none (.tmp 5),some (19,true),0⟩,
 ⟨(some 22),.call 82 false [(.tmp 20),(.tmp 21)],some (19,true),0⟩,
 ⟨(some 23),.mov (.tmp 3),some (19,true),0⟩,
 ⟨(some 24),.bin .geq (.tmp 22) (.tmp 23),some (19,true),0⟩,
 ⟨(some 25),.pick (.tmp 19) (.tmp 24) (.cst (.c (.bool false))),none,0⟩,
 ⟨(some 8),.mov (.tmp 25),none,0⟩])
 .ret)))⟩
def f39 : AFunc:=⟨19,[.tmp 8,.tmp 9],false,
 (.seq (.region 3 [] [
 ⟨(some 4),.box (.tmp 0),none,0⟩,
 ⟨(some 6),.box (.tmp 2),none,1⟩,
 ⟨(some 7),.box (.tmp 3),none,2⟩,
 ⟨(some 8),.mov (.cst (.c (.int .i64 0))),none,3⟩,
 ⟨(some 9),.mov (.cst (.c (.int .i64 0))),none,3⟩])
 (.seq (.region 1 [] [
 ⟨(some 10),.load (some 17) (.tmp 4),none,0⟩,
 ⟨(some 11),.mov (.tmp 1),none,0⟩,
 ⟨(some 12),.load none (.tmp 6),none,0⟩,
 ⟨(some 13),.load none (.tmp 7),none,0⟩,
 ⟨(some 14),.bslice 1 2 [(.int .i64 0)] [(0,(.tmp 12)),(1,(.tmp 13))],none,0⟩,
 ⟨(some 15),.mkfn 84 none [(.tmp 4),(.tmp 6),(.tmp 7)],none,1⟩,
 ⟨(some 16),.call 83 false [(.tmp 10),(.tmp 11),(.tmp 14),(.tmp 15)],none,1⟩,
 ⟨(some 17),.extract 0 (.tmp 16),none,1⟩,
 ⟨(some 18),.extract 1 (.tmp 16),none,1⟩,
 ⟨(some 8),.mov (.tmp 17),none,1⟩,
 ⟨(some 9),.mov (.tmp 18),none,1⟩])
 .ret))⟩
def f40 : AFunc:=⟨16,[.tmp 6,.tmp 7],false,
 (.seq (.region 2 [] [
 ⟨(some 3),.box (.tmp 0),none,0⟩,
 ⟨(some 5),.box (.tmp 2),none,1⟩,
 ⟨(some 6),.mov (.cst (.c (.int .i64 0))),none,2⟩,
 ⟨(some 7),.mov (.cst (.c (.int .i64 0))),none,2⟩])
 (.seq (.region 1 [] [
 ⟨(some 8),.load (some 17) (.tmp 3),none,0⟩,
 ⟨(some 9),.mov (.tmp 1),none,0⟩,
 ⟨(some 10),.load none (.tmp 5),none,0⟩,
 ⟨(some 11),.bslice 1 1 [(.int .i64 0)] [(0,(.tmp 10))],none,0⟩,
 ⟨(some 12),.mkfn 86 none [(.tmp 3),(.tmp 5)],none,1⟩,
 ⟨(some 13),.call 83 false [(.tmp 8),(.tmp 9),(.tmp 11),(.tmp 12)],none,1⟩,
 ⟨(some 14),.extract 0 (.tmp 13),none,1⟩,
 ⟨(some 15),.extract 1 (.tmp 13),none,1⟩,
 ⟨(some 6),.mov (.tmp 14),none,1⟩,
 ⟨(some 7),.mov (.tmp 15),none,1⟩])
 .ret))⟩
def f41 : AFunc:=⟨16,[.tmp 6,.tmp 7],false,
 (.seq (.region 2 [] [
 ⟨(some 3),.box (.tmp 0),none,0⟩,
 ⟨(some 5),.box (.tmp 2),none,1⟩,
 ⟨(some 6),.mov (.cst (.c (.int .i64 0))),none,2⟩,
 ⟨(some 7),.mov (.cst (.c (.int .i64 0))),none,2⟩])
 (.seq (.region 1 [] [
 ⟨(some 8),.load (some 17) (.tmp 3),none,0⟩,
 ⟨(some 9),.mov (.tmp 1),none,0⟩,
 ⟨(some 10),.load none (.tmp 5),none,0⟩,
 ⟨(some 11),.bslice 1 1 [(.int .i64 0)] [(0,(.tmp 10))],none,0⟩,
 ⟨(some 12),.mkfn 88 none [(.tmp 3),(.tmp 5)],none,1⟩,
 ⟨(some 13),.call 83 false [(.tmp 8),(.tmp 9),(.tmp 11),(.tmp 12)],none,1⟩,
 ⟨(some 14),.extract 0 (.tmp 13),none,1⟩,
 ⟨(some 15),.extract 1 (.tmp 13),none,1⟩,
 ⟨(some 6),.mov (.tmp 14),none,1⟩,
 ⟨(some 7),.mov (.tmp 15),none,1⟩])
 .ret))⟩
def f46 : AFunc:=⟨12,[.cell 2 (some 17)],false,
 (.seq (.region 1 [] [
 ⟨(some 2),.alloc [(.int .i64 0),(.int .i64 0),(.int .i64 0),(.int .i64 0),(.int .i64 0),(.int .i64 0),(.int .i64 0),(.int .i64 0),.nils,.nils,.nils,.nils,(.int .i64 0),.nils,(.int .i64 0),(.int .i64 0),(.int .i64 0)],none,0⟩])
 (.seq (.region 2 [] [
 ⟨(some 3),.call 91 true [],none,0⟩,
 ⟨(some 4),.call 48 true [(.cst (.c (.int .i64 18))),(.cst (.c (.int .i64 18)))],none,0⟩,
 ⟨(some 5),.call 48 true [(.cst (.c (.int .i64 30))),(.cst (.c (.int .i64 34)))],none,0⟩,
 ⟨(some 6),.call 48 true [(.cst (.c (.int .i64 16))),(.cst (.c (.int .i64 17)))],none,0⟩,
 ⟨(some 7),.bslice 2 3 [(.int .i64 0),(.int .i64 0)] [(0,(.tmp 4)),(1,(.tmp 5)),(2,(.tmp 6))],none,0⟩,
 ⟨(some 8),.mov (.tmp 0),none,1⟩,
 ⟨(some 9),.append 2 16 (.tmp 7) (.tmp 8),none,1⟩,
 ⟨(some 10),.call 48 true [(.cst (.c (.int .i64 20))),(.cst (.c (.int .i64 21)))],none,2⟩,
 ⟨(some 11),.build [(.int .i64 0),(.int .i64 0),(.int .i64 0),(.int .i64 0),(.int .i64 0),(.int .i64 0),(.int .i64 0),(.int .i64 0),.nils,.nils,.nils,.nils,(.int .i64 0),.nils,(.int .i64 0),(.int .i64 0),(.int .i64 0)] [(0,12,(.tmp 3)),(13,1,(.tmp 9)),(14,1,(.cst (.c (.int .i64 2)))),(15,2,(.tmp 10))],none,2⟩,
 ⟨none,.store (some 17) (.tmp 2) (.tmp 11),none,2⟩])
 .ret))⟩
def f47 : AFunc:=⟨5,[.tmp 0],false,
 (.seq (.region 0 [] [
 ⟨(some 0),.mov (.cst (.c .nils)),none,0⟩])
 (.seq (.region 1 [] [
 ⟨(some 1),.build [(.int .i64 0),(.int .i64 0)] [(0,1,(.cst (.c (.int .i64 0)))),(1,1,(.cst (.c (.int .i64 2))))],none,0⟩,
 ⟨(some 2),.build [(.int .i64 0),(.int .i64 0)] [(0,1,(.cst (.c (.int .i64 2)))),(1,1,(.cst (.c (.int .i64 2))))],none,0⟩,
 ⟨(some 3),.build [(.int .i64 0),(.int .i64 0)] [(0,1,(.cst (.c (.int .i64 1)))),(1,1,(.cst (.c (.int .i64 5))))],none,0⟩,
 ⟨(some 4),.bslice 2 3 [(.int .i64 0),(.int .i64 0)] [(0,(.tmp 1)),(1,(.tmp 2)),(2,(.tmp 3))],none,0⟩,
 ⟨(some 0),.mov (.tmp 4),none,1⟩])
 .ret))⟩
def f48 : AFunc:=⟨8,[.cell 4 (some 2)],false,
 (.seq (.region 1 [] [
 ⟨(some 4),.alloc [(.int .i64 0),(.int .i64 0)],none,0⟩])
 (.seq (.region 0 [] [
 ⟨(some 5),.mov (.tmp 0),none,0⟩,
 ⟨(some 6),.mov (.tmp 1),none,0⟩,
 ⟨(some 7),.build [(.int .i64 0),(.int .i64 0)] [(0,1,(.tmp 5)),(1,1,(.tmp 6))],none,0⟩,
 ⟨none,.store (some 2) (.tmp 4) (.tmp 7),none,0⟩])
 .ret))⟩
def f49 : AFunc:=⟨28,[.tmp 4,.tmp 5,.tmp 6],false,
 (.seq (.region 2 [] [
 ⟨(some 2),.box (.tmp 0),none,0⟩,
 ⟨(some 3),.box (.tmp 1),none,1⟩,
 ⟨(some 4),.mov (.cst (.c .nils)),none,2⟩,
 ⟨(some 5),.mov (.cst (.c (.int .i64 0))),none,2⟩,
 ⟨(some 6),.mov (.cst (.c (.int .i64 0))),none,2⟩])
 (.seq (.region 0 [] [
 ⟨(some 10),.load (some 17) (.tmp 2),none,0⟩,
 ⟨(some 11),.mkfn 92 none [(.tmp 3)],none,0⟩,
 ⟨(some 12),.call 74 false [(.tmp 10),(.tmp 11)],none,0⟩,
 ⟨(some 9),.mov (.tmp 12),none,0⟩,
 ⟨(some 13),.extract 0 (.tmp 9),none,0⟩,
 ⟨(some 14),.extract 1 (.tmp 9),none,0⟩,
 ⟨(some 7),.mov (.tmp 13),none,0⟩,
 ⟨(some 6),.mov (.tmp 14),none,0⟩])
 (.seq (.seq (.region 0 [] [
 ⟨(some 15),.mov (.tmp 6),none,0⟩,
 ⟨(some 16),.bin .neq (.tmp 15) (.cst (.c (.int .i64 0))),none,0⟩])
 (.cond (.tmp 16)
 (.seq (.region 0 [] [
 ⟨(some 17),.mov (.tmp 6),none,0⟩,
 ⟨(some 4),.mov (.cst (.c .nils)),none,0⟩,
 ⟨(some 5),.mov (.cst (.c (.int .i64 0))),none,0⟩,
 ⟨(some 6),.mov (.tmp 17),none,0⟩])
 .ret)
 .skip))
 (.seq (.region 1 [] [
 ⟨(some 19),.mov (.tmp 7),none,0⟩,
 ⟨(some 20),.load none (.tmp 3),none,0⟩,
 ⟨(some 21),.call 93 false [(.tmp 19),(.tmp 20)],none,0⟩,
 ⟨(some 22),.call 94 false [(.tmp 21)],none,0⟩,
 ⟨(some 18),.mov (.tmp 22),none,0⟩,
 ⟨(some 23),.extract 0 (.tmp 18),none,0⟩,
 ⟨(some 24),.extract 1 (.tmp 18),none,0⟩,
 ⟨(some 8),.alloc [(.int .i64 0),(.int .i64 0),(.int .i64 0),(.int .i64 0)],none,0⟩,
 ⟨(some 4),.mov (.tmp 23),none,1⟩,
 ⟨none,.store (some 4) (.tmp 8) (.tmp 24),none,1⟩])
 (.seq (.region 0 [(0,1),(0,2),(1,3),(2,3)] [
 ⟨(some 25),.mov (.tmp 4),none,0⟩,
 ⟨(some 26),.faddr 0 (.tmp 8),none,0⟩,
 ⟨(some 27),.load none (.tmp 26),none,0⟩,
 ⟨(some 4),.mov (.tmp 25),none,0⟩,
 ⟨(some 5),.mov (.tmp 27),none,0⟩,
 ⟨(some 6),.mov (.cst (.c (.int .i64 0))),none,0⟩])
 .ret)))))⟩
def f50 : AFunc:=⟨46,[.tmp 2,.tmp 3],false,
 (.seq (.region 1 [] [
 ⟨(some 1),.box (.tmp 0),none,0⟩,
 ⟨(some 2),.mov (.cst (.c .nils)),none,1⟩,
 ⟨(some 3),.mov (.cst (.c (.int .i64 0))),none,1⟩])
 (.seq (.region 0 [] [
 ⟨(some 11),.load (some 17) (.tmp 1),none,0⟩,
 ⟨(some 12),.call 74 false [(.tmp 11),(.cst (.c (.fn 95 false [] [])))],none,0⟩,
 ⟨(some 10),.mov (.tmp 12),none,0⟩,
 ⟨(some 13),.extract 0 (.tmp 10),none,0⟩,
 ⟨(some 14),.extract 1 (.tmp 10),none,0⟩,
 ⟨(some 4),.mov (.tmp 13),none,0⟩,
 ⟨(some 5),.mov (.tmp 14),none,0⟩])
 (.seq (.seq (.region 0 [] [
 ⟨(some 15),.mov (.tmp 5),none,0⟩,
 ⟨(some 16),.bin .neq (.tmp 15) (.cst (.c (.int .i64 0))),none,0⟩])
 (.cond (.tmp 16)
 (.seq (.region 0 [] [
 ⟨(some 17),.mov (.tmp 5),none,0⟩,
 ⟨(some 2),.mov (.cst (.c .nils)),none,0⟩,
 ⟨(some 3),.mov (.tmp 17),none,0⟩])
 .ret)
 .skip))
 (.seq (.region 0 [] [
 ⟨(some 6),.mov (.cst (.c .nils)),none,0⟩])
 (.seq .skip
 (.seq (.seq (.region 0 [] [
 ⟨(some 18),.faddr 13 (.tmp 1),none,0⟩,
 ⟨(some 19),.load none (.tmp 18),none,0⟩,
 ⟨(some 20),.len (.tmp 19),none,0⟩,
 ⟨(some 21),.mov (.cst (.c (.int .i64 0))),none,0⟩])
 (.block 0 (.loop ⟨[7,8,9,22,23,24,25,26,27,28,29,30,31,32,33,34,35,36,37,38,39,40,41,42,43,44],false,[(6,none,1)]⟩
 (.seq (.region 0 [] [
 ⟨(some 22),.bin .lss (.tmp 21) (.tmp 20),none,0⟩])
 (.seq (.cond (.tmp 22)
 .skip
 (.exit 0))
 (.seq (.block 1 (.seq (.region 0 [] [
 ⟨(some 23),.mov (.tmp 21),none,0⟩,
 ⟨(some 7),.mov (.tmp 23),none,0⟩])
 (.seq (.seq (.region 0 [] [
 ⟨(some 24),.mov (.cst (.c (.int .i64 0))),none,0⟩])
 (.block 2 (.loop ⟨[8,9,25,26,27,28,29,30,31,32,33,34,35,36,37,38,39],false,[]⟩
 (.seq (.region 0 [] [
 ⟨(some 25),.bin .lss (.tmp 24) (.cst (.c (.int .i64 21))),none,0⟩])
 (.seq (.cond (.tmp 25)
 .skip
 (.exit 2))
 (.seq (.block 3 (.seq (.region 0 [] [
 ⟨(some 26),.mov (.tmp 24),none,0⟩,
 ⟨(some 8),.mov (.tmp 26),none,0⟩])
 (.seq (.region 0 [] [
 ⟨(some 27),.mov (.tmp 8),none,0⟩,
 ⟨(some 28),.bin .sub (.cst (.c (.int .i64 20))) (.tmp 27),none,0⟩,
 ⟨(some 29),.bin .add (.tmp 28) (.cst (.c (.int .i64 1))),none,0⟩,
 ⟨(some 30),.mov (.cst (.c (.int .i64 0))),none,0⟩])
 (.block 4 (.loop ⟨[9,31,32,33,34,35,36,37,38],false,[]⟩
 (.seq (.region 0 [] [
 ⟨(some 31),.bin .lss (.tmp 30) (.tmp 29),none,0⟩])
 (.seq (.cond (.tmp 31)
 .skip
 (.exit 4))
 (.seq (.block 5 (.seq (.region 0 [] [
 ⟨(some 32),.mov (.tmp 30),none,0⟩,
 ⟨(some 9),.mov (.tmp 32),none,0⟩])
 (.seq (.region 0 [] [
 ⟨(some 33),.mov (.tmp 4),none,0⟩,
 ⟨(some 34),.mov (.tmp 7),none,0⟩,
 ⟨(some 35),.mov (.tmp 8),none,0⟩,
 ⟨(some 36),.mov (.tmp 9),none,0⟩,
 ⟨(some 37),.call 77 false [(.tmp 33),(.tmp 34),(.tmp 35),(.tmp 36)],none,0⟩])
 (.cond (.tmp 37)
 (.exit 1)
 .skip))))
 (.region 0 [] [
 ⟨(some 38),.bin .add (.tmp 30) (.cst (.c (.int .i64 1))),none,0⟩,
 ⟨(some 30),.mov (.tmp 38),none,0⟩])))))))))
 (.region 0 [] [
 ⟨(some 39),.bin .add (.tmp 24) (.cst (.c (.int .i64 1))),none,0⟩,
 ⟨(some 24),.mov (.tmp 39),none,0⟩])))))))
 (.region 2 [] [
 ⟨(some 40),.mov (.tmp 6),none,0⟩,
 ⟨(some 41),.mov (.tmp 7),none,0⟩,
 ⟨(some 42),.bslice 1 1 [(.int .i64 0)] [(0,(.tmp 41))],none,0⟩,
 ⟨(some 43),.append 1 8 (.tmp 40) (.tmp 42),none,1⟩,
 ⟨(some 6),.mov (.tmp 43),none,2⟩]))))
 (.region 0 [] [
 ⟨(some 44),.bin .add (.tmp 21) (.cst (.c (.int .i64 1))),none,0⟩,
 ⟨(some 21),.mov (.tmp 44),none,0⟩])))))))
 (.seq (.region 0 [] [
 ⟨(some 45),.mov (.tmp 6),none,0⟩,
 ⟨(some 2),.mov (.tmp 45),none,0⟩,
 ⟨(some 3),.mov (.cst (.c (.int .i64 0))),none,0⟩])
 .ret)))))))⟩
def f51 : AFunc:=⟨30,[.tmp 2,.tmp 3,.tmp 4],false,
 (.seq (.region 1 [] [
 ⟨(some 1),.box (.tmp 0),none,0⟩,
 ⟨(some 2),.mov (.cst (.c .nils)),none,1⟩,
 ⟨(some 3),.mov (.cst (.c (.int .i64 0))),none,1⟩,
 ⟨(some 4),.mov (.cst (.c (.int .i64 0))),none,1⟩])
 (.seq (.region 0 [] [
 ⟨(some 8),.load (some 17) (.tmp 1),none,0⟩,
 ⟨(some 9),.call 74 false [(.tmp 8),(.cst (.c (.fn 95 false [] [])))],none,0⟩,
 ⟨(some 7),.mov (.tmp 9),none,0⟩,
 ⟨(some 10),.extract 0 (.tmp 7),none,0⟩,
 ⟨(some 11),.extract 1 (.tmp 7),none,0⟩,
 ⟨(some 5),.mov (.tmp 10),none,0⟩,
 ⟨(some 4),.mov (.tmp 11),none,0⟩])
 (.seq (.seq (.region 0 [] [
 ⟨(some 12),.mov (.tmp 4),none,0⟩,
 ⟨(some 13),.bin .neq (.tmp 12) (.cst (.c (.int .i64 0))),none,0⟩])
 (.cond (.tmp 13)
 (.seq (.region 0 [] [
 ⟨(some 14),.mov (.tmp 4),none,0⟩,
 ⟨(some 2),.mov (.cst (.c .nils)),none,0⟩,
 ⟨(some 3),.mov (.cst (.c (.int .i64 0))),none,0⟩,
 ⟨(some 4),.mov (.tmp 14),none,0⟩])
 .ret)
 .skip))
 (.seq (.region 1 [] [
 ⟨(some 16),.mov (.tmp 5),none,0⟩,
 ⟨(some 17),.call 93 false [(.tmp 16),(.cst (.c (.int .i64 20)))],none,0⟩,
 ⟨(some 18),.call 94 false [(.tmp 17)],none,0⟩,
 ⟨(some 15),.mov (.tmp 18),none,0⟩,
 ⟨(some 19),.extract 0 (.tmp 15),none,0⟩,
 ⟨(some 20),.extract 1 (.tmp 15),none,0⟩,
 ⟨(some 6),.alloc [(.int .i64 0),(.int .i64 0),(.int .i64 0),(.int .i64 0)],none,0⟩,
 ⟨(some 2),.mov (.tmp 19),none,1⟩,
 ⟨none,.store (some 4) (.tmp 6) (.tmp 20),none,1⟩])
 (.seq (.seq (.region 0 [] [
 ⟨(some 21),.faddr 0 (.tmp 6),none,0⟩,
 ⟨(some 22),.load none (.tmp 21),none,0⟩,
 ⟨(some 23),.faddr 13 (.tmp 1),none,0⟩,
 ⟨(some 24),.load none (.tmp 23),none,0⟩,
 ⟨(some 25),.len (.tmp 24),none,0⟩,
 ⟨(some 26),.bin .lss (.tmp 22) (.tmp 25),none,0⟩])
 (.cond (.tmp 26)
 (.seq (.region 0 [] [
 ⟨(some 2),.mov (.cst (.c .nils)),none,0⟩,
 ⟨(some 3),.mov (.cst (.c (.int .i64 0))),none,0⟩,
 ⟨(some 4),.mov (.cst (.c (.int .i64 10))),none,0⟩])
 .ret)
 .skip))
 (.seq (.region 0 [(0,1),(0,2),(1,3),(2,3)] [
 ⟨(some 27),.mov (.tmp 2),none,0⟩,
 ⟨(some 28),.faddr 1 (.tmp 6),none,0⟩,
 ⟨(some 29),.load none (.tmp 28),none,0⟩,
 ⟨(some 2),.mov (.tmp 27),none,0⟩,
 ⟨(some 3),.mov (.tmp 29),none,0⟩,
 ⟨(some 4),.mov (.cst (.c (.int .i64 0))),none,0⟩])
 .ret))))))⟩
def f52 : AFunc:=⟨8,[.cell 4 (some 2)],false,
 (.seq (.region 1 [] [
 ⟨(some 4),.alloc [(.int .i64 0),(.int .i64 0)],none,0⟩])
 (.seq (.region 0 [] [
 ⟨(some 5),.mov (.tmp 0),none,0⟩,
 ⟨(some 6),.mov (.tmp 1),none,0⟩,
 ⟨(some 7),.build [(.int .i64 0),(.int .i64 0)] [(0,1,(.tmp 5)),(1,1,(.tmp 6))],none,0⟩,
 ⟨none,.store (some 2) (.tmp 4) (.tmp 7),none,0⟩])
 .ret))⟩
def f57 : AFunc:=⟨43,[.tmp 8,.tmp 9],false,
 (.seq (.region 2 [] [
 ⟨(some 4),.box (.tmp 0),none,0⟩,
 ⟨(some 5),.box (.tmp 1),none,1⟩,
 ⟨(some 8),.mov (.cst (.c .nils)),none,2⟩,
 ⟨(some 9),.mov (.cst (.c (.int .i64 0))),none,2⟩])
 (.seq (.seq (.region 0 [] [
 ⟨(some 12),.load (some 12) (.tmp 4),none,0⟩,
 ⟨(some 13),.call 96 true [(.tmp 12)],none,0⟩,
 ⟨(some 10),.mov (.tmp 13),none,0⟩])
 (.seq (.region 0 [] [
 ⟨(some 14),.mov (.tmp 10),none,0⟩,
 ⟨(some 15),.bin .neq (.tmp 14) (.cst (.c (.int .i64 0))),none,0⟩])
 (.cond (.tmp 15)
 (.seq (.region 0 [] [
 ⟨(some 16),.mov (.tmp 10),none,0⟩,
 ⟨(some 8),.mov (.cst (.c .nils)),none,0⟩,
 ⟨(some 9),.mov (.tmp 16),none,0⟩])
 .ret)
 .skip)))
 (.seq (.seq (.region 0 [] [
 ⟨(some 17),.load (some 12) (.tmp 4),none,0⟩,
 ⟨(some 18),.load (some 3) (.tmp 5),none,0⟩,
 ⟨(some 19),.call 97 true [(.tmp 17),(.tmp 18)],none,0⟩,
 ⟨(some 20),.not (.tmp 19),none,0⟩,
 ⟨(some 21),.mov (.tmp 20),none,0⟩,
 ⟨(some 22),.load (some 12) (.tmp 4),some (21,false),0⟩,
 ⟨(some 23),.mov (.tmp 2),some (21,false),0⟩,
 ⟨(some 24),.call 98 true [(.tmp 22),(.tmp 23)],some (21,false),0⟩,
 ⟨(some 25),.not (.tmp 24),some (21,false),0⟩,
 ⟨(some 26),.pick (.tmp 21) (.cst (.c (.bool true))) (.tmp 25),none,0⟩,
 ⟨(some 27),.mov (.tmp 26),none,0⟩,
 ⟨(some 28),.mov (.tmp 3),some (27,false),0⟩,
 ⟨(some 29),.call 99 true [(.tmp 28)],some (27,false),0⟩,
 ⟨(some 30),.not (.tmp 29),some (27,false),0⟩,
 ⟨(some 31),.pick (.tmp 27) (.cst (.c (.bool true))) (.tmp 30),none,0⟩])
 (.cond (.tmp 31)
 (.seq (.region 0 [] [
 ⟨(some 8),.mov (.cst (.c .nils)),none,0⟩,
 ⟨(some 9),.mov (.cst (.c (.int .i64 2))),none,0⟩])
 .ret)
 .skip))
 (.seq (.region 0 [] [
 ⟨(some 32),.load (some 12) (.tmp 4),none,0⟩,
 ⟨(some 33),.call 100 false [(.tmp 32)],none,0⟩,
 ⟨(some 11),.mov (.tmp 33),none,0⟩])
 (.seq (.region 0 [] [
 ⟨(some 34),.mov (.tmp 11),none,0⟩,
 ⟨(some 35),.mov (.tmp 11),none,0⟩,
 ⟨(some 36),.load (some 3) (.tmp 5),none,0⟩,
 ⟨(some 37),.call 102 false [(.tmp 35),(.tmp 36)],none,0⟩,
 ⟨(some 38),.mov (.tmp 2),none,0⟩,
 ⟨(some 39),.iaddr 2 (.tmp 37) (.tmp 38),none,0⟩,
 ⟨(some 40),.load (some 2) (.tmp 39),none,0⟩,
 ⟨(some 41),.mov (.tmp 3),none,0⟩,
 ⟨(some 42),.call 101 false [(.tmp 34),(.tmp 40),(.tmp 41)],none,0⟩,
 ⟨(some 8),.mov (.tmp 42),none,0⟩,
 ⟨(some 9),.mov (.cst (.c (.int .i64 0))),none,0⟩])
 .ret)))))⟩
def f62 : AFunc:=⟨23,[.cell 4 (some 20),.tmp 5],false,
 (.seq (.region 3 [] [
 ⟨(some 2),.box (.tmp 0),none,0⟩,
 ⟨(some 3),.box (.tmp 1),none,1⟩,
 ⟨(some 4),.alloc [(.int .i64 0),(.int .i64 0),(.int .i64 0),(.int .i64 0),(.int .i64 0),(.int .i64 0),(.int .i64 0),(.int .i64 0),(.int .i64 0),(.int .i64 0),(.int .i64 0),(.int .i64 0),(.int .i64 0),(.int .i64 0),(.int .i64 0),(.int .i64 0),(.int .i64 0),(.int .i64 0),(.int .i64 0),(.int .i64 0)],none,2⟩,
 ⟨(some 5),.mov (.cst (.c (.bool false))),none,3⟩])
 (.seq (.region 0 [] [
 ⟨(some 9),.faddr 0 (.tmp 2),none,0⟩,
 ⟨(some 10),.load (some 12) (.tmp 9),none,0⟩,
 ⟨(some 11),.load (some 3) (.tmp 3),none,0⟩,
 ⟨(some 12),.faddr 12 (.tmp 2),none,0⟩,
 ⟨(some 13),.load none (.tmp 12),none,0⟩,
 ⟨(some 14),.call 57 true [(.tmp 10),(.tmp 11),(.tmp 13),(.cst (.c (.int .i64 20)))],none,0⟩,
 ⟨(some 8),.mov (.tmp 14),none,0⟩,
 ⟨(some 15),.extract 0 (.tmp 8),none,0⟩,
 ⟨(some 16),.extract 1 (.tmp 8),none,0⟩,
 ⟨(some 6),.mov (.tmp 15),none,0⟩,
 ⟨(some 7),.mov (.tmp 16),none,0⟩])
 (.seq (.region 0 [] [
 ⟨(some 17),.pslice 20 (.tmp 4) none none,none,0⟩,
 ⟨(some 18),.mov (.tmp 6),none,0⟩,
 ⟨(some 19),.copy (.tmp 17) (.tmp 18),none,0⟩])
 (.seq (.region 0 [] [
 ⟨(some 20),.load (some 20) (.tmp 4),none,0⟩,
 ⟨(some 21),.mov (.tmp 7),none,0⟩,
 ⟨(some 22),.bin .eql (.tmp 21) (.cst (.c (.int .i64 0))),none,0⟩,
 ⟨none,.store (some 20) (.tmp 4) (.tmp 20),none,0⟩,
 ⟨(some 5),.mov (.tmp 22),none,0⟩])
 .ret))))⟩
def f63 : AFunc:=⟨43,[.tmp 4,.tmp 5],false,
 (.seq (.region 1 [] [
 ⟨(some 2),.box (.tmp 0),none,0⟩,
 ⟨(some 4),.mov (.cst (.c (.int .i64 0))),none,1⟩,
 ⟨(some 5),.mov (.cst (.c (.bool false))),none,1⟩])
 (.seq (.region 0 [] [
 ⟨(some 9),.load (some 17) (.tmp 2),none,0⟩,
 ⟨(some 10),.mkfn 109 (some (.tmp 9)) [],none,0⟩,
 ⟨(some 6),.mov (.tmp 10),none,0⟩])
 (.seq (.seq (.region 0 [] [
 ⟨(some 11),.mov (.tmp 1),none,0⟩,
 ⟨(some 12),.len (.tmp 11),none,0⟩,
 ⟨(some 13),.faddr 13 (.tmp 2),none,0⟩,
 ⟨(some 14),.load none (.tmp 13),none,0⟩,
 ⟨(some 15),.len (.tmp 14),none,0⟩,
 ⟨(some 16),.bin .gtr (.tmp 12) (.tmp 15),none,0⟩,
 ⟨(some 17),.mov (.tmp 16),none,0⟩,
 ⟨(some 18),.mov (.tmp 1),some (17,false),0⟩,
 ⟨(some 19),.mov (.tmp 6),some (17,false),0⟩,
 ⟨(some 20),.call 110 false [(.tmp 18),(.tmp 19)],some (17,false),0⟩,
 ⟨(some 21),.not (.tmp 20),some (17,false),0⟩,
 ⟨(some 22),.pick (.tmp 17) (.cst (.c (.bool true))) (.tmp 21),none,0⟩])
 (.cond (.tmp 22)
 (.seq (.region 0 [] [
 ⟨(some 4),.mov (.cst (.c (.int .i64 0))),none,0⟩,
 ⟨(some 5),.mov (.cst (.c (.bool false))),none,0⟩])
 .ret)
 .skip))
 (.seq (.seq (.region 0 [] [
 ⟨(some 23),.mov (.tmp 1),none,0⟩,
 ⟨(some 24),.len (.tmp 23),none,0⟩,
 ⟨(some 25),.mov (.cst (.c (.int .i64 0))),none,0⟩])
 (.block 0 (.loop ⟨[5,7,8,26,27,28,29,30,31,32,33,34,35,36,37,38,39],false,[]⟩
 (.seq (.region 0 [] [
 ⟨(some 26),.bin .lss (.tmp 25) (.tmp 24),none,0⟩])
 (.seq (.cond (.tmp 26)
 .skip
 (.exit 0))
 (.seq (.block 1 (.seq (.region 1 [] [
 ⟨(some 27),.mov (.tmp 25),none,0⟩,
 ⟨(some 28),.iaddr 2 (.tmp 23) (.tmp 25),none,0⟩,
 ⟨(some 29),.load (some 2) (.tmp 28),none,0⟩,
 ⟨(some 8),.alloc [(.int .i64 0),(.int .i64 0)],none,0⟩,
 ⟨(some 7),.mov (.tmp 27),none,1⟩,
 ⟨none,.store (some 2) (.tmp 8) (.tmp 29),none,1⟩])
 (.seq (.seq (.region 0 [] [
 ⟨(some 30),.mov (.tmp 1),none,0⟩,
 ⟨(some 31),.mov (.tmp 7),none,0⟩,
 ⟨(some 32),.slice 2 (.tmp 30) none (some (.tmp 31)),none,0⟩,
 ⟨(some 33),.mkfn 112 none [(.tmp 8)],none,0⟩,
 ⟨(some 34),.call 111 false [(.tmp 32),(.tmp 33)],none,0⟩])
 (.cond (.tmp 34)
 (.seq (.region 0 [] [
 ⟨(some 4),.mov (.cst (.c (.int .i64 0))),none,0⟩,
 ⟨(some 5),.mov (.cst (.c (.bool false))),none,0⟩])
 .ret)
 .skip))
 (.region 0 [] [
 ⟨(some 35),.mov (.tmp 4),none,0⟩,
 ⟨(some 36),.faddr 1 (.tmp 8),none,0⟩,
 ⟨(some 37),.load none (.tmp 36),none,0⟩,
 ⟨(some 38),.bin .add (.tmp 35) (.tmp 37),none,0⟩,
 ⟨(some 4),.mov (.tmp 38),none,0⟩]))))
 (.region 0 [] [
 ⟨(some 39),.bin .add (.tmp 25) (.cst (.c (.int .i64 1))),none,0⟩,
 ⟨(some 25),.mov (.tmp 39),none,0⟩])))))))
 (.seq (.region 0 [] [
 ⟨(some 40),.mov (.tmp 4),none,0⟩,
 ⟨(some 41),.mov (.tmp 4),none,0⟩,
 ⟨(some 42),.bin .leq (.tmp 41) (.cst (.c (.int .i64 20))),none,0⟩,
 ⟨(some 4),.mov (.tmp 40),none,0⟩,
 ⟨(some 5),.mov (.tmp 42),none,0⟩])
 .ret)))))⟩
def f64 : AFunc:=⟨36,[.tmp 6],false,
 (.seq (.region 2 [] [
 ⟨(some 3),.box (.tmp 0),none,0⟩,
 ⟨(some 4),.box (.tmp 1),none,1⟩,
 ⟨(some 6),.mov (.cst (.c .nils)),none,2⟩])
 (.seq (.region 1 [] [
 ⟨(some 11),.faddr 13 (.tmp 4),none,0⟩,
 ⟨(some 12),.load none (.tmp 11),none,0⟩,
 ⟨(some 13),.len (.tmp 12),none,0⟩,
 ⟨(some 14),.mkslice 1 8 [(.int .i64 0)] (.tmp 13),none,0⟩,
 ⟨(some 7),.mov (.tmp 14),none,1⟩])
 (.seq (.region 0 [] [
 ⟨(some 8),.mov (.cst (.c (.int .i64 0))),none,0⟩])
 (.seq (.seq (.region 0 [] [
 ⟨(some 15),.mov (.tmp 2),none,0⟩,
 ⟨(some 16),.len (.tmp 15),none,0⟩,
 ⟨(some 17),.mov (.cst (.c (.int .i64 0))),none,0⟩])
 (.block 0 (.loop ⟨[10,18,19,20,21,22,23,24,25,26,27,28,29,30,31,32,33,34],true,[]⟩
 (.seq (.region 0 [] [
 ⟨(some 18),.bin .lss (.tmp 17) (.tmp 16),none,0⟩])
 (.seq (.cond (.tmp 18)
 .skip
 (.exit 0))
 (.seq (.block 1 (.seq (.region 1 [] [
 ⟨(some 19),.iaddr 2 (.tmp 15) (.tmp 17),none,0⟩,
 ⟨(some 20),.load (some 2) (.tmp 19),none,0⟩,
 ⟨(some 10),.alloc [(.int .i64 0),(.int .i64 0)],none,0⟩,
 ⟨none,.store (some 2) (.tmp 10) (.tmp 20),none,1⟩])
 (.seq (.region 0 [(0,1),(0,2),(0,3),(1,3),(2,3),(0,4),(1,4),(2,4),(3,4),(0,5),(1,5),(2,5),(3,5),(4,5),(0,6),(1,6),(2,6),(3,6),(4,6),(0,7),(1,7),(2,7)] [
 ⟨(some 21),.mov (.tmp 7),none,0⟩,
 ⟨(some 22),.faddr 0 (.tmp 10),none,0⟩,
 ⟨(some 23),.load none (.tmp 22),none,0⟩,
 ⟨(some 24),.load (some 20) (.tmp 3),none,0⟩,
 ⟨(some 25),.mov (.tmp 8),none,0⟩,
 ⟨(some 26),.faddr 1 (.tmp 10),none,0⟩,
 ⟨(some 27),.load none (.tmp 26),none,0⟩,
 ⟨(some 28),.call 113 true [(.tmp 24),(.tmp 25),(.tmp 27)],none,0⟩,
 ⟨(some 29),.iaddr 1 (.tmp 21) (.tmp 23),none,0⟩,
 ⟨none,.store none (.tmp 29) (.tmp 28),none,0⟩])
 (.region 0 [] [
 ⟨(some 30),.mov (.tmp 8),none,0⟩,
 ⟨(some 31),.faddr 1 (.tmp 10),none,0⟩,
 ⟨(some 32),.load none (.tmp 31),none,0⟩,
 ⟨(some 33),.bin .add (.tmp 30) (.tmp 32),none,0⟩,
 ⟨(some 8),.mov (.tmp 33),none,0⟩]))))
 (.region 0 [] [
 ⟨(some 34),.bin .add (.tmp 17) (.cst (.c (.int .i64 1))),none,0⟩,
 ⟨(some 17),.mov (.tmp 34),none,0⟩])))))))
 (.seq (.region 0 [] [
 ⟨(some 35),.mov (.tmp 7),none,0⟩,
 ⟨(some 6),.mov (.tmp 35),none,0⟩])
 .ret)))))⟩
def f68 : AFunc:=⟨35,[.tmp 2,.tmp 3],false,
 (.seq (.region 1 [] [
 ⟨(some 1),.box (.tmp 0),none,0⟩,
 ⟨(some 2),.mov (.cst (.c .nils)),none,1⟩,
 ⟨(some 3),.mov (.cst (.c (.int .i64 0))),none,1⟩])
 (.seq (.region 0 [] [
 ⟨(some 9),.load (some 12) (.tmp 1),none,0⟩,
 ⟨(some 10),.call 104 false [(.tmp 9),(.cst (.c (.bool true)))],none,0⟩,
 ⟨(some 8),.mov (.tmp 10),none,0⟩,
 ⟨(some 11),.extract 0 (.tmp 8),none,0⟩,
 ⟨(some 12),.extract 1 (.tmp 8),none,0⟩,
 ⟨(some 4),.mov (.tmp 11),none,0⟩,
 ⟨(some 5),.mov (.tmp 12),none,0⟩])
 (.seq (.seq (.region 0 [] [
 ⟨(some 13),.mov (.tmp 5),none,0⟩,
 ⟨(some 14),.bin .neq (.tmp 13) (.cst (.c (.int .i64 0))),none,0⟩])
 (.cond (.tmp 14)
 (.seq (.region 0 [] [
 ⟨(some 15),.mov (.tmp 5),none,0⟩,
 ⟨(some 2),.mov (.cst (.c .nils)),none,0⟩,
 ⟨(some 3),.mov (.tmp 15),none,0⟩])
 .ret)
 .skip))
 (.seq (.region 0 [] [
 ⟨(some 6),.mov (.cst (.c .nils)),none,0⟩])
 (.seq (.seq (.region 0 [] [
 ⟨(some 16),.load (some 12) (.tmp 1),none,0⟩,
 ⟨(some 17),.call 118 true [(.tmp 16)],none,0⟩,
 ⟨(some 18),.mov (.cst (.c (.int .i64 0))),none,0⟩])
 (.block 0 (.loop ⟨[7,19,20,21,22,23,24,25,26,27,28,29,30,31,32,33],false,[(6,none,4)]⟩
 (.seq (.region 0 [] [
 ⟨(some 19),.bin .lss (.tmp 18) (.tmp 17),none,0⟩])
 (.seq (.cond (.tmp 19)
 .skip
 (.exit 0))
 (.seq (.block 1 (.seq (.region 0 [] [
 ⟨(some 20),.mov (.tmp 18),none,0⟩,
 ⟨(some 7),.mov (.tmp 20),none,0⟩])
 (.region 2 [] [
 ⟨(some 21),.mov (.tmp 6),none,0⟩,
 ⟨(some 22),.build [.nilfn] [(0,1,(.cst (.c (.fn 119 false [] []))))],none,0⟩,
 ⟨(some 23),.mov (.tmp 4),none,0⟩,
 ⟨(some 24),.mov (.tmp 7),none,0⟩,
 ⟨(some 25),.call 120 false [(.tmp 22),(.tmp 23),(.tmp 24)],none,0⟩,
 ⟨(some 26),.build [.nilfn] [(0,1,(.cst (.c (.fn 121 false [] []))))],none,0⟩,
 ⟨(some 27),.mov (.tmp 4),none,0⟩,
 ⟨(some 28),.mov (.tmp 7),none,0⟩,
 ⟨(some 29),.call 120 false [(.tmp 26),(.tmp 27),(.tmp 28)],none,0⟩,
 ⟨(some 30),.build [(.int .i64 0),(.int .i64 0),(.int .i64 0),(.int .i64 0)] [(0,2,(.tmp 25)),(2,2,(.tmp 29))],none,0⟩,
 ⟨(some 31),.bslice 4 1 [(.int .i64 0),(.int .i64 0),(.int .i64 0),(.int .i64 0)] [(0,(.tmp 30))],none,0⟩,
 ⟨(some 32),.append 4 32 (.tmp 21) (.tmp 31),none,1⟩,
 ⟨(some 6),.mov (.tmp 32),none,2⟩])))
 (.region 0 [] [
 ⟨(some 33),.bin .add (.tmp 18) (.cst (.c (.int .i64 1))),none,0⟩,
 ⟨(some 18),.mov (.tmp 33),none,0⟩])))))))
 (.seq (.region 0 [] [
 ⟨(some 34),.mov (.tmp 6),none,0⟩,
 ⟨(some 2),.mov (.tmp 34),none,0⟩,
 ⟨(some 3),.mov (.cst (.c (.int .i64 0))),none,0⟩])
 .ret))))))⟩
def f69 : AFunc:=⟨15,[.tmp 6],false,
 (.seq (.region 0 [] [
 ⟨(some 6),.mov (.cst (.c (.bool false))),none,0⟩])
 (.seq (.region 0 [] [
 ⟨(some 7),.mov (.tmp 1),none,0⟩,
 ⟨(some 8),.mov (.tmp 0),none,0⟩,
 ⟨(some 9),.bin .leq (.tmp 7) (.tmp 8),none,0⟩,
 ⟨(some 10),.mov (.tmp 9),none,0⟩,
 ⟨(some 11),.mov (.tmp 0),some (10,true),0⟩,
 ⟨(some 12),.mov (.tmp 2),some (10,true),0⟩,
 ⟨(some 13),.bin .leq (.tmp 11) (.tmp 12),some (10,true),0⟩,
 ⟨(some 14),.pick (.tmp 10) (.tmp 13) (.cst (.c (.bool false))),none,0⟩,
 ⟨(some 6),.mov (.tmp 14),none,0⟩])
 .ret))⟩
def f70 : AFunc:=⟨9,[.tmp 4],false,
 (.seq (.region 1 [] [
 ⟨(some 3),.box (.tmp 1),none,0⟩,
 ⟨(some 4),.mov (.cst (.c (.bool false))),none,1⟩])
 (.seq (.region 0 [] [
 ⟨(some 5),.mov (.tmp 0),none,0⟩,
 ⟨(some 6),.mkfn 123 none [(.tmp 3)],none,0⟩,
 ⟨(some 7),.call 122 false [(.tmp 5),(.tmp 6)],none,0⟩,
 ⟨(some 8),.not (.tmp 7),none,0⟩,
 ⟨(some 4),.mov (.tmp 8),none,0⟩])
 .ret))⟩
def f71 : AFunc:=⟨18,[.tmp 2],false,
 (.seq (.region 1 [] [
 ⟨(some 1),.box (.tmp 0),none,0⟩,
 ⟨(some 2),.mov (.cst (.c (.bool false))),none,1⟩])
 (.seq (.region 0 [] [
 ⟨(some 3),.faddr 0 (.tmp 1),none,0⟩,
 ⟨(some 4),.load none (.tmp 3),none,0⟩,
 ⟨(some 5),.bin .leq (.cst (.c (.int .i64 0))) (.tmp 4),none,0⟩,
 ⟨(some 6),.mov (.tmp 5),none,0⟩,
 ⟨(some 7),.faddr 0 (.tmp 1),some (6,true),0⟩,
 ⟨(some 8),.load none (.tmp 7),some (6,true),0⟩,
 ⟨(some 9),.faddr 1 (.tmp 1),some (6,true),0⟩,
 ⟨(some 10),.load none (.tmp 9),some (6,true),0⟩,
 ⟨(some 11),.bin .leq (.tmp 8) (.tmp 10),some (6,true),0⟩,
 ⟨(some 12),.pick (.tmp 6) (.tmp 11) (.cst (.c (.bool false))),none,0⟩,
 ⟨(some 13),.mov (.tmp 12),none,0⟩,
 ⟨(some 14),.faddr 1 (.tmp 1),some (13,true),0⟩,
 ⟨(some 15),.load none (.tmp 14),some (13,true),0⟩,
 ⟨(some 16),.bin .leq (.tmp 15) (.cst (.c (.int .i64 9999))),some (13,true),0⟩,
 ⟨(some 17),.pick (.tmp 13) (.tmp 16) (.cst (.c (.bool false))),none,0⟩,
 ⟨(some 2),.mov (.tmp 17),none,0⟩])
 .ret))⟩
def f74 : AFunc:=⟨50,[.tmp 4,.tmp 5],false,
 (.seq (.region 1 [] [
 ⟨(some 2),.box (.tmp 0),none,0⟩,
 ⟨(some 4),.mov (.cst (.c .nilp)),none,1⟩,
 ⟨(some 5),.mov (.cst (.c (.int .i64 0))),none,1⟩])
 (.seq (.seq (.region 0 [] [
 ⟨(some 12),.load (some 17) (.tmp 2),none,0⟩,
 ⟨(some 13),.call 22 true [(.tmp 12)],none,0⟩,
 ⟨(some 6),.mov (.tmp 13),none,0⟩])
 (.seq (.region 0 [] [
 ⟨(some 14),.mov (.tmp 6),none,0⟩,
 ⟨(some 15),.bin .neq (.tmp 14) (.cst (.c (.int .i64 0))),none,0⟩])
 (.cond (.tmp 15)
 (.seq (.region 0 [] [
 ⟨(some 16),.mov (.tmp 6),none,0⟩,
 ⟨(some 4),.mov (.cst (.c .nilp)),none,0⟩,
 ⟨(some 5),.mov (.tmp 16),none,0⟩])
 .ret)
 .skip)))
 (.seq (.seq (.region 0 [] [
 ⟨(some 17),.mov (.tmp 1),none,0⟩,
 ⟨(some 18),.callv (.tmp 17) [],none,0⟩,
 ⟨(some 19),.not (.tmp 18),none,0⟩])
 (.cond (.tmp 19)
 (.seq (.region 0 [] [
 ⟨(some 4),.mov (.cst (.c .nilp)),none,0⟩,
 ⟨(some 5),.mov (.cst (.c (.int .i64 2))),none,0⟩])
 .ret)
 .skip))
 (.seq (.region 2 [] [
 ⟨(some 20),.load (some 17) (.tmp 2),none,0⟩,
 ⟨(some 21),.build [(.int .i64 0),(.int .i64 0),(.int .i64 0),(.int .i64 0),(.int .i64 0),(.int .i64 0),(.int .i64 0),(.int .i64 0),.nils,.nils,.nils,.nils,(.int .i64 0),.nils,(.int .i64 0),(.int .i64 0),(.int .i64 0),.nils] [(0,17,(.tmp 20))],none,0⟩,
 ⟨(some 22),.box (.tmp 21),none,0⟩,
 ⟨(some 7),.alloc [.nilp],none,1⟩,
 ⟨none,.store none (.tmp 7) (.tmp 22),none,2⟩])
 (.seq (.region 2 [] [
 ⟨(some 23),.mkmap true false [(some .i64),(some .i64),(some .i64),(some .i64),(some .i64),(some .i64),(some .i64),(some .i64),(some .i64),(some .i64),(some .i64),(some .i64),(some .i64),(some .i64),(some .i64),(some .i64),(some .i64),(some .i64),(some .i64),(some .i64)],none,0⟩,
 ⟨(some 8),.alloc [.any],none,1⟩,
 ⟨none,.store none (.tmp 8) (.tmp 23),none,2⟩])
 (.seq (.seq (.region 0 [] [
 ⟨(some 24),.load (some 17) (.tmp 2),none,0⟩,
 ⟨(some 25),.call 124 false [(.tmp 24)],none,0⟩])
 (.block 0 (.range (.tmp 25) [26]
 (.region 1 [] [
 ⟨(some 9),.alloc [(.int .i64 0),(.int .i64 0),.nils],none,0⟩,
 ⟨none,.store (some 3) (.tmp 9) (.tmp 26),none,1⟩])
 (.block 1 (.seq (.region 1 [] [
 ⟨(some 28),.load (some 17) (.tmp 2),none,0⟩,
 ⟨(some 29),.load (some 3) (.tmp 9),none,0⟩,
 ⟨(some 30),.call 62 true [(.tmp 28),(.tmp 29)],none,0⟩,
 ⟨(some 27),.mov (.tmp 30),none,0⟩,
 ⟨(some 31),.extract 0 (.tmp 27),none,0⟩,
 ⟨(some 32),.extract 1 (.tmp 27),none,0⟩,
 ⟨(some 10),.alloc [(.int .i64 0),(.int .i64 0),(.int .i64 0),(.int .i64 0),(.int .i64 0),(.int .i64 0),(.int .i64 0),(.int .i64 0),(.int .i64 0),(.int .i64 0),(.int .i64 0),(.int .i64 0),(.int .i64 0),(.int .i64 0),(.int .i64 0),(.int .i64 0),(.int .i64 0),(.int .i64 0),(.int .i64 0),(.int .i64 0)],none,0⟩,
 ⟨none,.store (some 20) (.tmp 10) (.tmp 31),none,1⟩,
 ⟨(some 11),.mov (.tmp 32),none,1⟩])
 (.seq (.region 0 [] [
 ⟨(some 33),.load none (.tmp 8),none,0⟩,
 ⟨(some 34),.load (some 20) (.tmp 10),none,0⟩,
 ⟨(some 35),.lookup true false [(some .i64),(some .i64),(some .i64),(some .i64),(some .i64),(some .i64),(some .i64),(some .i64),(some .i64),(some .i64),(some .i64),(some .i64),(some .i64),(some .i64),(some .i64),(some .i64),(some .i64),(some .i64),(some .i64),(some .i64)] (.c (.bool false)) false (.tmp 33) (.tmp 34),none,0⟩,
 ⟨(some 36),.not (.tmp 35),none,0⟩])
 (.cond (.tmp 36)
 (.seq (.region 0 [] [
 ⟨(some 37),.load none (.tmp 8),none,0⟩,
 ⟨(some 38),.load (some 20) (.tmp 10),none,0⟩,
 ⟨none,.mapupd true false [(some .i64),(some .i64),(some .i64),(some .i64),(some .i64),(some .i64),(some .i64),(some .i64),(some .i64),(some .i64),(some .i64),(some .i64),(some .i64),(some .i64),(some .i64),(some .i64),(some .i64),(some .i64),(some .i64),(some .i64)] (.tmp 37) (.tmp 38) (.cst (.c (.bool true))),none,0⟩])
 (.region 2 [(0,1),(0,2),(0,3),(0,4),(0,5),(1,5),(2,5),(3,5),(4,5),(0,6),(1,6),(2,6),(3,6),(4,6),(0,7)] [
 ⟨(some 39),.load none (.tmp 7),none,0⟩,
 ⟨(some 40),.load none (.tmp 7),none,0⟩,
 ⟨(some 41),.nilchk (.tmp 40),none,0⟩,
 ⟨(some 42),.faddr 17 (.tmp 41),none,0⟩,
 ⟨(some 43),.load none (.tmp 42),none,0⟩,
 ⟨(some 44),.load (some 20) (.tmp 10),none,0⟩,
 ⟨(some 45),.bslice 20 1 [(.int .i64 0),(.int .i64 0),(.int .i64 0),(.int .i64 0),(.int .i64 0),(.int .i64 0),(.int .i64 0),(.int .i64 0),(.int .i64 0),(.int .i64 0),(.int .i64 0),(.int .i64 0),(.int .i64 0),(.int .i64 0),(.int .i64 0),(.int .i64 0),(.int .i64 0),(.int .i64 0),(.int .i64 0),(.int .i64 0)] [(0,(.tmp 44))],none,0⟩,
 ⟨(some 46),.append 20 160 (.tmp 43) (.tmp 45),none,1⟩,
 ⟨(some 47),.nilchk (.tmp 39),none,2⟩,
 ⟨(some 48),.faddr 17 (.tmp 47),none,2⟩,
 ⟨none,.store none (.tmp 48) (.tmp 46),none,2⟩]))
 .skip)))))))
 (.seq (.region 0 [] [
 ⟨(some 49),.load none (.tmp 7),none,0⟩,
 ⟨(some 4),.mov (.tmp 49),none,0⟩,
 ⟨(some 5),.mov (.cst (.c (.int .i64 0))),none,0⟩])
 .ret)))))))⟩
def f75 : AFunc:=⟨11,[.tmp 3],false,
 (.seq (.region 0 [] [
 ⟨(some 3),.mov (.cst (.c (.bool false))),none,0⟩])
 (.seq (.region 0 [] [
 ⟨(some 4),.load (some 17) (.tmp 0),none,0⟩,
 ⟨(some 5),.load none (.tmp 1),none,0⟩,
 ⟨(some 6),.call 76 true [(.tmp 4),(.tmp 5)],none,0⟩,
 ⟨(some 7),.mov (.tmp 6),none,0⟩,
 ⟨(some 8),.load none (.tmp 2),some (7,true),0⟩,
 ⟨(some 9),.call 69 true [(.tmp 8),(.cst (.c (.int .i64 0))),(.cst (.c (.int .i64 20)))],some (7,true),0⟩,
 ⟨(some 10),.pick (.tmp 7) (.tmp 9) (.cst (.c (.bool false))),none,0⟩,
 ⟨(some 3),.mov (.tmp 10),none,0⟩])
 .ret))⟩
def f76 : AFunc:=⟨11,[.tmp 4],false,
 (.seq (.region 1 [] [
 ⟨(some 2),.box (.tmp 0),none,0⟩,
 ⟨(some 4),.mov (.cst (.c (.bool false))),none,1⟩])
 (.seq (.region 0 [] [
 ⟨(some 5),.mov (.tmp 1),none,0⟩,
 ⟨(some 6),.faddr 13 (.tmp 2),none,0⟩,
 ⟨(some 7),.load none (.tmp 6),none,0⟩,
 ⟨(some 8),.len (.tmp 7),none,0⟩,
 ⟨(some 9),.bin .sub (.tmp 8) (.cst (.c (.int .i64 1))),none,0⟩,
 ⟨(some 10),.call 69 true [(.tmp 5),(.cst (.c (.int .i64 0))),(.tmp 9)],none,0⟩,
 ⟨(some 4),.mov (.tmp 10),none,0⟩])
 .ret))⟩
def f77 : AFunc:=⟨21,[.tmp 8],false,
 (.seq (.region 4 [] [
 ⟨(some 4),.box (.tmp 0),none,0⟩,
 ⟨(some 5),.box (.tmp 1),none,1⟩,
 ⟨(some 6),.box (.tmp 2),none,2⟩,
 ⟨(some 7),.box (.tmp 3),none,3⟩,
 ⟨(some 8),.mov (.cst (.c (.bool false))),none,4⟩])
 (.seq (.region 0 [] [
 ⟨(some 9),.load none (.tmp 6),none,0⟩,
 ⟨(some 10),.load none (.tmp 7),none,0⟩,
 ⟨(some 11),.bin .add (.tmp 9) (.tmp 10),none,0⟩,
 ⟨(some 12),.bin .leq (.tmp 11) (.cst (.c (.int .i64 20))),none,0⟩,
 ⟨(some 13),.mov (.tmp 12),none,0⟩,
 ⟨(some 14),.load none (.tmp 4),some (13,true),0⟩,
 ⟨(some 15),.nilchk (.tmp 14),some (13,true),0⟩,
 ⟨(some 16),.faddr 17 (.tmp 15),some (13,true),0⟩,
 ⟨(some 17),.load none (.tmp 16),some (13,true),0⟩,
 ⟨(some 18),.mkfn 126 none [(.tmp 4),(.tmp 5),(.tmp 6),(.tmp 7)],some (13,true),0⟩,
 ⟨(some 19),.call 125 false [(.tmp 17),(.tmp 18)],some (13,true),0⟩,
 ⟨(some 20),.pick (.tmp 13) (.tmp 19) (.cst (.c (.bool false))),none,0⟩,
 ⟨(some 8),.mov (.tmp 20),none,0⟩])
 .ret))⟩
def f81 : AFunc:=⟨18,[.tmp 3],false,
 (.seq (.region 0 [] [
 ⟨(some 3),.mov (.cst (.c (.bool false))),none,0⟩])
 (.seq (.region 0 [] [
 ⟨(some 7),.load (some 17) (.tmp 0),none,0⟩,
 ⟨(some 8),.load none (.tmp 1),none,0⟩,
 ⟨(some 9),.call 63 true [(.tmp 7),(.tmp 8)],none,0⟩,
 ⟨(some 6),.mov (.tmp 9),none,0⟩,
 ⟨(some 10),.extract 0 (.tmp 6),none,0⟩,
 ⟨(some 11),.extract 1 (.tmp 6),none,0⟩,
 ⟨(some 4),.mov (.tmp 10),none,0⟩,
 ⟨(some 5),.mov (.tmp 11),none,0⟩])
 (.seq (.region 0 [] [
 ⟨(some 12),.mov (.tmp 5),none,0⟩,
 ⟨(some 13),.mov (.tmp 12),none,0⟩,
 ⟨(some 14),.mov (.tmp 4),some (13,true),0⟩,
 ⟨(some 15),.load none (.tmp 2),some (13,true),0⟩,
 ⟨(some 16),.bin .leq (.tmp 14) (.tmp 15),some (13,true),0⟩,
 ⟨(some 17),.pick (.tmp 13) (.tmp 16) (.cst (.c (.bool false))),none,0⟩,
 ⟨(some 3),.mov (.tmp 17),none,0⟩])
 .ret)))⟩
def f82 : AFunc:=⟨52,[.tmp 4],false,
 (.seq (.region 0 [] [
 ⟨(some 4),.mov (.cst (.c (.int .i64 0))),none,0⟩])
 (.seq (.seq (.region 0 [] [
 ⟨(some 11),.mov (.tmp 0),none,0⟩,
 ⟨(some 12),.nilchk (.tmp 11),none,0⟩,
 ⟨(some 13),.faddr 0 (.tmp 12),none,0⟩,
 ⟨(some 14),.faddr 13 (.tmp 13),none,0⟩,
 ⟨(some 15),.load none (.tmp 14),none,0⟩,
 ⟨(some 16),.len (.tmp 15),none,0⟩,
 ⟨(some 17),.mov (.cst (.c (.int .i64 0))),none,0⟩])
 (.block 0 (.loop ⟨[5,6,7,8,10,18,19,20,21,22,23,24,25,26,27,28,29,30,31,32,33,34,35,36,37,38,39,40,41,42,43,44,45,46,47,48,49,50],false,[]⟩
 (.seq (.region 0 [] [
 ⟨(some 18),.bin .lss (.tmp 17) (.tmp 16),none,0⟩])
 (.seq (.cond (.tmp 18)
 .skip
 (.exit 0))
 (.seq (.block 1 (.seq (.region 1 [] [
 ⟨(some 19),.mov (.tmp 17),none,0⟩,
 ⟨(some 5),.alloc [(.int .i64 0)],none,0⟩,
 ⟨none,.store none (.tmp 5) (.tmp 19),none,1⟩])
 (.seq (.region 0 [] [
 ⟨(some 6),.mov (.cst (.c (.int .i64 0))),none,0⟩,
 ⟨(some 7),.mov (.cst (.c (.int .i64 0))),none,0⟩])
 (.seq (.seq (.region 0 [] [
 ⟨(some 20),.mov (.tmp 1),none,0⟩,
 ⟨(some 21),.mkfn 130 none [(.tmp 5)],none,0⟩,
 ⟨(some 22),.call 129 false [(.tmp 20),(.tmp 21)],none,0⟩,
 ⟨(some 8),.mov (.tmp 22),none,0⟩])
 (.seq (.region 0 [] [
 ⟨(some 23),.mov (.tmp 8),none,0⟩,
 ⟨(some 24),.bin .geq (.tmp 23) (.cst (.c (.int .i64 0))),none,0⟩])
 (.cond (.tmp 24)
 (.seq (.region 0 [] [
 ⟨(some 25),.mov (.tmp 1),none,0⟩,
 ⟨(some 26),.mov (.tmp 8),none,0⟩,
 ⟨(some 27),.iaddr 2 (.tmp 25) (.tmp 26),none,0⟩,
 ⟨(some 28),.faddr 1 (.tmp 27),none,0⟩,
 ⟨(some 29),.load none (.tmp 28),none,0⟩,
 ⟨(some 7),.mov (.tmp 29),none,0⟩])
 (.seq (.region 0 [] [
 ⟨(some 30),.mov (.tmp 1),none,0⟩,
 ⟨(some 31),.mov (.tmp 8),none,0⟩,
 ⟨(some 32),.slice 2 (.tmp 30) none (some (.tmp 31)),none,0⟩,
 ⟨(some 33),.len (.tmp 32),none,0⟩,
 ⟨(some 34),.mov (.cst (.c (.int .i64 0))),none,0⟩])
 (.block 2 (.loop ⟨[10,35,36,37,38,39,40,41,42],false,[]⟩
 (.seq (.region 0 [] [
 ⟨(some 35),.bin .lss (.tmp 34) (.tmp 33),none,0⟩])
 (.seq (.cond (.tmp 35)
 .skip
 (.exit 2))
 (.seq (.block 3 (.seq (.region 1 [] [
 ⟨(some 36),.iaddr 2 (.tmp 32) (.tmp 34),none,0⟩,
 ⟨(some 37),.load (some 2) (.tmp 36),none,0⟩,
 ⟨(some 10),.alloc [(.int .i64 0),(.int .i64 0)],none,0⟩,
 ⟨none,.store (some 2) (.tmp 10) (.tmp 37),none,1⟩])
 (.region 0 [] [
 ⟨(some 38),.mov (.tmp 6),none,0⟩,
 ⟨(some 39),.faddr 1 (.tmp 10),none,0⟩,
 ⟨(some 40),.load none (.tmp 39),none,0⟩,
 ⟨(some 41),.bin .add (.tmp 38) (.tmp 40),none,0⟩,
 ⟨(some 6),.mov (.tmp 41),none,0⟩])))
 (.region 0 [] [
 ⟨(some 42),.bin .add (.tmp 34) (.cst (.c (.int .i64 1))),none,0⟩,
 ⟨(some 34),.mov (.tmp 42),none,0⟩]))))))))
 .skip)))
 (.seq (.region 0 [] [
 ⟨(some 43),.mov (.tmp 0),none,0⟩,
 ⟨(some 44),.load none (.tmp 5),none,0⟩,
 ⟨(some 45),.mov (.tmp 6),none,0⟩,
 ⟨(some 46),.mov (.tmp 7),none,0⟩,
 ⟨(some 47),.call 77 false [(.tmp 43),(.tmp 44),(.tmp 45),(.tmp 46)],none,0⟩])
 (.cond (.tmp 47)
 (.region 0 [] [
 ⟨(some 48),.mov (.tmp 4),none,0⟩,
 ⟨(some 49),.bin .add (.tmp 48) (.cst (.c (.int .i64 1))),none,0⟩,
 ⟨(some 4),.mov (.tmp 49),none,0⟩])
 .skip))))))
 (.region 0 [] [
 ⟨(some 50),.bin .add (.tmp 17) (.cst (.c (.int .i64 1))),none,0⟩,
 ⟨(some 17),.mov (.tmp 50),none,0⟩])))))))
 (.seq (.region 0 [] [
 ⟨(some 51),.mov (.tmp 4),none,0⟩,
 ⟨(some 4),.mov (.tmp 51),none,0⟩])
 .ret)))⟩
def f83 : AFunc:=⟨59,[.tmp 8,.tmp 9],false,
 (.seq (.region 3 [] [
 ⟨(some 4),.box (.tmp 0),none,0⟩,
 ⟨(some 5),.box (.tmp 1),none,1⟩,
 ⟨(some 6),.box (.tmp 2),none,2⟩,
 ⟨(some 8),.mov (.cst (.c (.int .i64 0))),none,3⟩,
 ⟨(some 9),.mov (.cst (.c (.int .i64 0))),none,3⟩])
 (.seq (.region 1 [] [
 ⟨(some 19),.load (some 17) (.tmp 4),none,0⟩,
 ⟨(some 20),.mkfn 76 (some (.tmp 19)) [],none,0⟩,
 ⟨(some 10),.alloc [.nilfn],none,0⟩,
 ⟨none,.store none (.tmp 10) (.tmp 20),none,1⟩])
 (.seq (.region 0 [] [
 ⟨(some 22),.load (some 17) (.tmp 4),none,0⟩,
 ⟨(some 23),.mkfn 131 none [(.tmp 4),(.tmp 5),(.tmp 6),(.tmp 10)],none,0⟩,
 ⟨(some 24),.call 74 false [(.tmp 22),(.tmp 23)],none,0⟩,
 ⟨(some 21),.mov (.tmp 24),none,0⟩,
 ⟨(some 25),.extract 0 (.tmp 21),none,0⟩,
 ⟨(some 26),.extract 1 (.tmp 21),none,0⟩,
 ⟨(some 11),.mov (.tmp 25),none,0⟩,
 ⟨(some 12),.mov (.tmp 26),none,0⟩])
 (.seq (.seq (.region 0 [] [
 ⟨(some 27),.mov (.tmp 12),none,0⟩,
 ⟨(some 28),.bin .neq (.tmp 27) (.cst (.c (.int .i64 0))),none,0⟩])
 (.cond (.tmp 28)
 (.seq (.region 0 [] [
 ⟨(some 29),.mov (.tmp 12),none,0⟩,
 ⟨(some 8),.mov (.cst (.c (.int .i64 0))),none,0⟩,
 ⟨(some 9),.mov (.tmp 29),none,0⟩])
 .ret)
 .skip))
 (.seq (.region 0 [] [
 ⟨(some 13),.mov (.cst (.c (.int .i64 0))),none,0⟩,
 ⟨(some 14),.mov (.cst (.c (.int .i64 0))),none,0⟩])
 (.seq (.seq (.region 0 [] [
 ⟨(some 30),.mov (.tmp 11),none,0⟩,
 ⟨(some 31),.nilchk (.tmp 30),none,0⟩,
 ⟨(some 32),.faddr 17 (.tmp 31),none,0⟩,
 ⟨(some 33),.load none (.tmp 32),none,0⟩,
 ⟨(some 34),.len (.tmp 33),none,0⟩,
 ⟨(some 35),.mov (.cst (.c (.int .i64 0))),none,0⟩])
 (.block 0 (.loop ⟨[16,17,18,36,37,38,39,40,41,42,43,44,45,46,47,48,49,50,51,52,53,54,55],false,[]⟩
 (.seq (.region 0 [] [
 ⟨(some 36),.bin .lss (.tmp 35) (.tmp 34),none,0⟩])
 (.seq (.cond (.tmp 36)
 .skip
 (.exit 0))
 (.seq (.block 1 (.seq (.region 1 [] [
 ⟨(some 37),.iaddr 20 (.tmp 33) (.tmp 35),none,0⟩,
 ⟨(some 38),.load (some 20) (.tmp 37),none,0⟩,
 ⟨(some 16),.alloc [(.int .i64 0),(.int .i64 0),(.int .i64 0),(.int .i64 0),(.int .i64 0),(.int .i64 0),(.int .i64 0),(.int .i64 0),(.int .i64 0),(.int .i64 0),(.int .i64 0),(.int .i64 0),(.int .i64 0),(.int .i64 0),(.int .i64 0),(.int .i64 0),(.int .i64 0),(.int .i64 0),(.int .i64 0),(.int .i64 0)],none,0⟩,
 ⟨none,.store (some 20) (.tmp 16) (.tmp 38),none,1⟩])
 (.seq (.region 0 [] [
 ⟨(some 40),.mov (.tmp 3),none,0⟩,
 ⟨(some 41),.mov (.tmp 11),none,0⟩,
 ⟨(some 42),.load (some 20) (.tmp 16),none,0⟩,
 ⟨(some 43),.load (some 17) (.tmp 4),none,0⟩,
 ⟨(some 44),.load none (.tmp 5),none,0⟩,
 ⟨(some 45),.call 64 true [(.tmp 42),(.tmp 43),(.tmp 44)],none,0⟩,
 ⟨(some 46),.callv (.tmp 40) [(.tmp 41),(.tmp 45)],none,0⟩,
 ⟨(some 39),.mov (.tmp 46),none,0⟩,
 ⟨(some 47),.extract 0 (.tmp 39),none,0⟩,
 ⟨(some 48),.extract 1 (.tmp 39),none,0⟩,
 ⟨(some 17),.mov (.tmp 47),none,0⟩,
 ⟨(some 18),.mov (.tmp 48),none,0⟩])
 (.region 0 [] [
 ⟨(some 49),.mov (.tmp 13),none,0⟩,
 ⟨(some 50),.mov (.tmp 17),none,0⟩,
 ⟨(some 51),.bin .add (.tmp 49) (.tmp 50),none,0⟩,
 ⟨(some 52),.mov (.tmp 14),none,0⟩,
 ⟨(some 53),.mov (.tmp 18),none,0⟩,
 ⟨(some 54),.bin .add (.tmp 52) (.tmp 53),none,0⟩,
 ⟨(some 13),.mov (.tmp 51),none,0⟩,
 ⟨(some 14),.mov (.tmp 54),none,0⟩]))))
 (.region 0 [] [
 ⟨(some 55),.bin .add (.tmp 35) (.cst (.c (.int .i64 1))),none,0⟩,
 ⟨(some 35),.mov (.tmp 55),none,0⟩])))))))
 (.seq (.region 0 [] [
 ⟨(some 56),.mov (.tmp 13),none,0⟩,
 ⟨(some 57),.mov (.tmp 14),none,0⟩,
 ⟨(some 58),.call 133 true [(.tmp 56),(.tmp 57)],none,0⟩,
 ⟨(some 8),.mov (.tmp 58),none,0⟩,
 ⟨(some 9),.mov (.cst (.c (.int .i64 0))),none,0⟩])
 .ret)))))))⟩
def f84 : AFunc:=⟨24,[.tmp 7,.tmp 8],false,
 (.seq (.region 0 [] [
 ⟨(some 7),.mov (.cst (.c (.int .i64 0))),none,0⟩,
 ⟨(some 8),.mov (.cst (.c (.int .i64 0))),none,0⟩])
 (.seq (.seq (.region 0 [(0,2),(1,2),(0,3),(1,3),(2,3),(0,4),(1,4),(2,4),(3,4),(0,5),(1,5),(2,5),(0,6),(1,6),(2,6),(0,7),(1,7),(2,7),(3,7),(4,7),(5,7),(6,7),(0,8),(1,8),(2,8),(3,8),(4,8),(5,8),(6,8),(7,8),(0,9),(1,9),(2,9),(3,9),(4,9),(5,9),(6,9),(0,10),(1,10),(2,10),(3,10),(4,10),(5,10),(6,10)] [
 ⟨(some 9),.build [.nilfn] [(0,1,(.cst (.c (.fn 85 false [] []))))],none,0⟩,
 ⟨(some 10),.fld 0 none (.tmp 9),none,0⟩,
 ⟨(some 11),.load (some 17) (.tmp 2),none,0⟩,
 ⟨(some 12),.mov (.tmp 1),none,0⟩,
 ⟨(some 13),.load none (.tmp 3),none,0⟩,
 ⟨(some 14),.iaddr 1 (.tmp 12) (.tmp 13),none,0⟩,
 ⟨(some 15),.load none (.tmp 14),none,0⟩,
 ⟨(some 16),.mov (.tmp 1),none,0⟩,
 ⟨(some 17),.load none (.tmp 4),none,0⟩,
 ⟨(some 18),.iaddr 1 (.tmp 16) (.tmp 17),none,0⟩,
 ⟨(some 19),.load none (.tmp 18),none,0⟩,
 ⟨(some 20),.callv (.tmp 10) [(.tmp 11),(.tmp 15),(.tmp 19)],none,0⟩])
 (.cond (.tmp 20)
 (.region 0 [] [
 ⟨(some 21),.mov (.tmp 7),none,0⟩,
 ⟨(some 22),.bin .add (.tmp 21) (.cst (.c (.int .i64 1))),none,0⟩,
 ⟨(some 7),.mov (.tmp 22),none,0⟩])
 .skip))
 (.seq (.region 0 [] [
 ⟨(some 23),.mov (.tmp 7),none,0⟩,
 ⟨(some 7),.mov (.tmp 23),none,0⟩,
 ⟨(some 8),.mov (.cst (.c (.int .i64 1))),none,0⟩])
 .ret)))⟩
def f85 : AFunc:=⟨16,[.tmp 6],false,
 (.seq (.region 1 [] [
 ⟨(some 3),.box (.tmp 0),none,0⟩,
 ⟨(some 6),.mov (.cst (.c (.bool false))),none,1⟩])
 (.seq (.region 0 [] [
 ⟨(some 7),.mov (.tmp 1),none,0⟩,
 ⟨(some 8),.mov (.tmp 2),none,0⟩,
 ⟨(some 9),.bin .sub (.tmp 7) (.tmp 8),none,0⟩,
 ⟨(some 10),.faddr 14 (.tmp 3),none,0⟩,
 ⟨(some 11),.load none (.tmp 10),none,0⟩,
 ⟨(some 12),.neg (.tmp 11),none,0⟩,
 ⟨(some 13),.faddr 14 (.tmp 3),none,0⟩,
 ⟨(some 14),.load none (.tmp 13),none,0⟩,
 ⟨(some 15),.call 69 true [(.tmp 9),(.tmp 12),(.tmp 14)],none,0⟩,
 ⟨(some 6),.mov (.tmp 15),none,0⟩])
 .ret))⟩
def f86 : AFunc:=⟨53,[.tmp 6,.tmp 7],false,
 (.seq (.region 0 [] [
 ⟨(some 6),.mov (.cst (.c (.int .i64 0))),none,0⟩,
 ⟨(some 7),.mov (.cst (.c (.int .i64 0))),none,0⟩])
 (.seq (.region 1 [] [
 ⟨(some 11),.build [.nilfn] [(0,1,(.cst (.c (.fn 85 false [] []))))],none,0⟩,
 ⟨(some 8),.alloc [.nilfn],none,0⟩,
 ⟨none,.store (some 1) (.tmp 8) (.tmp 11),none,1⟩])
 (.seq (.seq (.region 2 [(0,3),(1,3),(2,3),(0,4),(1,4),(2,4),(0,5),(1,5),(2,5),(0,6),(1,6),(2,6),(3,6),(4,6),(5,6),(0,7),(1,7),(2,7),(3,7),(4,7),(5,7),(0,8),(1,8),(2,8),(3,8),(4,8),(5,8),(0,9),(1,9),(2,9),(3,9),(4,9),(5,9),(6,9),(7,9),(8,9),(0,10),(1,10),(2,10),(3,10),(4,10),(5,10),(6,10),(7,10),(8,10),(0,11),(1,11),(2,11),(3,11),(4,11),(5,11),(6,11),(7,11),(8,11),(0,12),(1,12),(2,12),(3,12),(4,12),(5,12),(6,12),(7,12),(8,12),(9,12),(10,12),(11,12),(0,13),(1,13),(2,13),(3,13),(4,13),(5,13),(6,13),(7,13),(8,13),(9,13),(10,13),(11,13),(12,13),(0,14),(1,14),(2,14),(3,14),(4,14),(5,14),(6,14),(7,14),(8,14),(9,14),(10,14),(11,14),(0,15),(1,15),(2,15),(3,15),(4,15),(5,15),(6,15),(7,15),(8,15),(9,15),(10,15),(11,15),(0,16),(1,16),(2,16),(3,16),(4,16),(5,16),(6,16),(7,16),(8,16),(0,17),(1,17),(2,17),(3,17),(4,17),(5,17),(6,17),(7,17),(8,17),(0,18),(1,18),(2,18),(3,18),(4,18),(5,18),(0,21),(1,21),(2,21),(3,21),(4,21),(5,21),(6,21),(7,21),(8,21),(9,21),(10,21),(11,21),(12,21),(13,21),(14,21),(15,21),(16,21),(17,21),(18,21),(19,21),(20,21)] [
 ⟨(some 12),.faddr 15 (.tmp 2),none,0⟩,
 ⟨(some 13),.faddr 0 (.tmp 12),none,0⟩,
 ⟨(some 14),.load none (.tmp 13),none,0⟩,
 ⟨(some 15),.faddr 15 (.tmp 2),none,0⟩,
 ⟨(some 16),.faddr 1 (.tmp 15),none,0⟩,
 ⟨(some 17),.load none (.tmp 16),none,0⟩,
 ⟨(some 18),.faddr 15 (.tmp 2),none,0⟩,
 ⟨(some 19),.faddr 0 (.tmp 18),none,0⟩,
 ⟨(some 20),.load none (.tmp 19),none,0⟩,
 ⟨(some 21),.faddr 15 (.tmp 2),none,0⟩,
 ⟨(some 22),.faddr 1 (.tmp 21),none,0⟩,
 ⟨(some 23),.load none (.tmp 22),none,0⟩,
 ⟨(some 24),.mov (.tmp 1),none,0⟩,
 ⟨(some 25),.load none (.tmp 3),none,0⟩,
 ⟨(some 26),.iaddr 1 (.tmp 24) (.tmp 25),none,0⟩,
 ⟨(some 27),.load none (.tmp 26),none,0⟩,
 ⟨(some 28),.bslice 1 2 [(.int .i64 0)] [(0,(.tmp 23)),(1,(.tmp 27))],none,0⟩,
 ⟨(some 29),.call 87 true [(.tmp 28)],none,1⟩,
 ⟨(some 30),.mm true (.tmp 20) (.tmp 29),none,1⟩,
 ⟨(some 31),.bslice 1 3 [(.int .i64 0)] [(0,(.tmp 14)),(1,(.tmp 17)),(2,(.tmp 30))],none,1⟩,
 ⟨(some 32),.len (.tmp 31),none,2⟩,
 ⟨(some 33),.mov (.cst (.c (.int .i64 0))),none,2⟩])
 (.block 0 (.loop ⟨[10,34,35,36,37,38,39,40,41,42,43,44,45,46,47,48,49,50],false,[]⟩
 (.seq (.region 0 [] [
 ⟨(some 34),.bin .lss (.tmp 33) (.tmp 32),none,0⟩])
 (.seq (.cond (.tmp 34)
 .skip
 (.exit 0))
 (.seq (.block 1 (.seq (.region 0 [] [
 ⟨(some 35),.iaddr 1 (.tmp 31) (.tmp 33),none,0⟩,
 ⟨(some 36),.load none (.tmp 35),none,0⟩,
 ⟨(some 10),.mov (.tmp 36),none,0⟩])
 (.seq (.region 0 [] [
 ⟨(some 37),.mov (.tmp 7),none,0⟩,
 ⟨(some 38),.bin .add (.tmp 37) (.cst (.c (.int .i64 1))),none,0⟩,
 ⟨(some 7),.mov (.tmp 38),none,0⟩])
 (.seq (.region 0 [(0,2),(1,2),(0,3),(1,3),(2,3),(0,4),(1,4),(2,4),(3,4),(0,5),(1,5),(2,5),(0,6),(1,6),(2,6),(0,7),(1,7),(2,7),(3,7),(4,7),(5,7),(6,7)] [
 ⟨(some 39),.faddr 0 (.tmp 8),none,0⟩,
 ⟨(some 40),.load none (.tmp 39),none,0⟩,
 ⟨(some 41),.load (some 17) (.tmp 2),none,0⟩,
 ⟨(some 42),.mov (.tmp 1),none,0⟩,
 ⟨(some 43),.load none (.tmp 3),none,0⟩,
 ⟨(some 44),.iaddr 1 (.tmp 42) (.tmp 43),none,0⟩,
 ⟨(some 45),.load none (.tmp 44),none,0⟩,
 ⟨(some 46),.mov (.tmp 10),none,0⟩,
 ⟨(some 47),.callv (.tmp 40) [(.tmp 41),(.tmp 45),(.tmp 46)],none,0⟩])
 (.cond (.tmp 47)
 (.region 0 [] [
 ⟨(some 48),.mov (.tmp 6),none,0⟩,
 ⟨(some 49),.bin .add (.tmp 48) (.cst (.c (.int .i64 1))),none,0⟩,
 ⟨(some 6),.mov (.tmp 49),none,0⟩])
 .skip)))))
 (.region 0 [] [
 ⟨(some 50),.bin .add (.tmp 33) (.cst (.c (.int .i64 1))),none,0⟩,
 ⟨(some 33),.mov (.tmp 50),none,0⟩])))))))
 (.seq (.region 0 [] [
 ⟨(some 51),.mov (.tmp 6),none,0⟩,
 ⟨(some 52),.mov (.tmp 7),none,0⟩,
 ⟨(some 6),.mov (.tmp 51),none,0⟩,
 ⟨(some 7),.mov (.tmp 52),none,0⟩])
 .ret))))⟩
def f87 : AFunc:=⟨5,[.tmp 2],false,
 (.seq (.region 0 [] [
 ⟨(some 2),.mov (.cst (.c (.int .i64 0))),none,0⟩])
 (.seq (.region 0 [] [
 ⟨(some 3),.mov (.tmp 0),none,0⟩,
 ⟨(some 4),.call 134 true [(.tmp 3)],none,0⟩,
 ⟨(some 2),.mov (.tmp 4),none,0⟩])
 .ret))⟩
def f88 : AFunc:=⟨20,[.tmp 6,.tmp 7],false,
 (.seq (.region 0 [] [
 ⟨(some 6),.mov (.cst (.c (.int .i64 0))),none,0⟩,
 ⟨(some 7),.mov (.cst (.c (.int .i64 0))),none,0⟩])
 (.seq (.seq (.region 0 [(0,2),(1,2),(0,3),(1,3),(2,3),(0,4),(1,4),(2,4),(3,4),(0,5),(1,5),(2,5),(0,6),(1,6),(2,6),(0,7),(1,7),(2,7),(3,7),(4,7),(5,7),(6,7)] [
 ⟨(some 8),.build [.nilfn] [(0,1,(.cst (.c (.fn 89 false [] []))))],none,0⟩,
 ⟨(some 9),.fld 0 none (.tmp 8),none,0⟩,
 ⟨(some 10),.load (some 17) (.tmp 2),none,0⟩,
 ⟨(some 11),.mov (.tmp 1),none,0⟩,
 ⟨(some 12),.load none (.tmp 3),none,0⟩,
 ⟨(some 13),.iaddr 1 (.tmp 11) (.tmp 12),none,0⟩,
 ⟨(some 14),.load none (.tmp 13),none,0⟩,
 ⟨(some 15),.load none (.tmp 3),none,0⟩,
 ⟨(some 16),.callv (.tmp 9) [(.tmp 10),(.tmp 14),(.tmp 15)],none,0⟩])
 (.cond (.tmp 16)
 (.region 0 [] [
 ⟨(some 17),.mov (.tmp 6),none,0⟩,
 ⟨(some 18),.bin .add (.tmp 17) (.cst (.c (.int .i64 1))),none,0⟩,
 ⟨(some 6),.mov (.tmp 18),none,0⟩])
 .skip))
 (.seq (.region 0 [] [
 ⟨(some 19),.mov (.tmp 6),none,0⟩,
 ⟨(some 6),.mov (.tmp 19),none,0⟩,
 ⟨(some 7),.mov (.cst (.c (.int .i64 1))),none,0⟩])
 .ret)))⟩
def f89 : AFunc:=⟨14,[.tmp 6],false,
 (.seq (.region 1 [] [
 ⟨(some 3),.box (.tmp 0),none,0⟩,
 ⟨(some 6),.mov (.cst (.c (.bool false))),none,1⟩])
 (.seq (.region 0 [] [
 ⟨(some 7),.faddr 13 (.tmp 3),none,0⟩,
 ⟨(some 8),.load none (.tmp 7),none,0⟩,
 ⟨(some 9),.mov (.tmp 2),none,0⟩,
 ⟨(some 10),.iaddr 2 (.tmp 8) (.tmp 9),none,0⟩,
 ⟨(some 11),.load (some 2) (.tmp 10),none,0⟩,
 ⟨(some 12),.mov (.tmp 1),none,0⟩,
 ⟨(some 13),.call 127 true [(.tmp 11),(.tmp 12)],none,0⟩,
 ⟨(some 6),.mov (.tmp 13),none,0⟩])
 .ret))⟩
def f91 : AFunc:=⟨15,[.cell 0 (some 12)],false,
 (.seq (.region 1 [] [
 ⟨(some 0),.alloc [(.int .i64 0),(.int .i64 0),(.int .i64 0),(.int .i64 0),(.int .i64 0),(.int .i64 0),(.int .i64 0),(.int .i64 0),.nils,.nils,.nils,.nils],none,0⟩])
 (.seq (.region 3 [] [
 ⟨(some 1),.call 52 true [(.cst (.c (.int .i64 0))),(.cst (.c (.int .i64 2)))],none,0⟩,
 ⟨(some 2),.call 52 true [(.cst (.c (.int .i64 100))),(.cst (.c (.int .i64 100)))],none,0⟩,
 ⟨(some 3),.call 52 true [(.cst (.c (.int .i64 1))),(.cst (.c (.int .i64 2)))],none,0⟩,
 ⟨(some 4),.call 52 true [(.cst (.c (.int .i64 1))),(.cst (.c (.int .i64 1)))],none,0⟩,
 ⟨(some 5),.call 52 true [(.cst (.c (.int .i64 2))),(.cst (.c (.int .i64 3)))],none,0⟩,
 ⟨(some 6),.call 52 true [(.cst (.c (.int .i64 0))),(.cst (.c (.int .i64 0)))],none,0⟩,
 ⟨(some 7),.bslice 2 4 [(.int .i64 0),(.int .i64 0)] [(0,(.tmp 3)),(1,(.tmp 4)),(2,(.tmp 5)),(3,(.tmp 6))],none,0⟩,
 ⟨(some 8),.build [(.int .i64 0),(.int .i64 0),(.int .i64 0)] [],none,1⟩,
 ⟨(some 9),.build [(.int .i64 0),(.int .i64 0),(.int .i64 0)] [(1,1,(.cst (.c (.int .i64 2))))],none,1⟩,
 ⟨(some 10),.build [(.int .i64 0),(.int .i64 0),(.int .i64 0)] [(2,1,(.cst (.c (.int .i64 1))))],none,1⟩,
 ⟨(some 11),.build [(.int .i64 0),(.int .i64 0),(.int .i64 0)] [],none,1⟩,
 ⟨(some 12),.bslice 3 4 [(.int .i64 0),(.int .i64 0),(.int .i64 0)] [(0,(.tmp 8)),(1,(.tmp 9)),(2,(.tmp 10)),(3,(.tmp 11))],none,1⟩,
 ⟨(some 13),.bslice 1 4 [(.int .i64 0)] [(0,(.cst (.c (.int .i64 1)))),(1,(.cst (.c (.int .i64 1)))),(2,(.cst (.c (.int .i64 1)))),(3,(.cst (.c (.int .i64 1))))],none,2⟩,
 ⟨(some 14),.build [(.int .i64 0),(.int .i64 0),(.int .i64 0),(.int .i64 0),(.int .i64 0),(.int .i64 0),(.int .i64 0),(.int .i64 0),.nils,.nils,.nils,.nils] [(0,1,(.cst (.c (.int .i64 3)))),(1,1,(.cst (.c (.int .i64 4)))),(2,2,(.tmp 1)),(4,2,(.tmp 2)),(6,1,(.cst (.c (.int .i64 10)))),(7,1,(.cst (.c (.int .i64 5)))),(8,1,(.tmp 7)),(9,1,(.tmp 12)),(10,1,(.tmp 13))],none,3⟩,
 ⟨none,.store (some 12) (.tmp 0) (.tmp 14),none,3⟩])
 .ret))⟩
def f92 : AFunc:=⟨4,[.tmp 1],false,
 (.seq (.region 0 [] [
 ⟨(some 1),.mov (.cst (.c (.bool false))),none,0⟩])
 (.seq (.region 0 [] [
 ⟨(some 2),.load none (.tmp 0),none,0⟩,
 ⟨(some 3),.call 69 true [(.tmp 2),(.cst (.c (.int .i64 0))),(.cst (.c (.int .i64 20)))],none,0⟩,
 ⟨(some 1),.mov (.tmp 3),none,0⟩])
 .ret))⟩
def f93 : AFunc:=⟨11,[.tmp 4],false,
 (.seq (.region 0 [] [
 ⟨(some 4),.mov (.cst (.c .nilp)),none,0⟩])
 (.seq (.region 3 [] [
 ⟨(some 5),.mov (.tmp 0),none,0⟩,
 ⟨(some 6),.mov (.tmp 1),none,0⟩,
 ⟨(some 7),.mkmap true true [(some .i64),(some .i64)],none,0⟩,
 ⟨(some 8),.mkmap true false [(some .i64),(some .i64),(some .i64)],none,1⟩,
 ⟨(some 9),.build [.nilp,(.int .i64 0),.any,.any] [(0,1,(.tmp 5)),(1,1,(.tmp 6)),(2,1,(.tmp 7)),(3,1,(.tmp 8))],none,2⟩,
 ⟨(some 10),.box (.tmp 9),none,2⟩,
 ⟨(some 4),.mov (.tmp 10),none,3⟩])
 .ret))⟩
def f94 : AFunc:=⟨39,[.tmp 2,.cell 3 (some 4)],false,
 (.seq (.region 1 [] [
 ⟨(some 2),.mov (.cst (.c .nils)),none,0⟩,
 ⟨(some 3),.alloc [(.int .i64 0),(.int .i64 0),(.int .i64 0),(.int .i64 0)],none,0⟩])
 (.seq (.region 1 [] [
 ⟨(some 4),.alloc [(.int .i64 0),(.int .i64 0)],none,0⟩])
 (.seq (.region 0 [] [
 ⟨(some 6),.mov (.tmp 0),none,0⟩,
 ⟨(some 7),.load (some 2) (.tmp 4),none,0⟩,
 ⟨(some 8),.call 135 false [(.tmp 6),(.tmp 7)],none,0⟩,
 ⟨none,.store (some 4) (.tmp 3) (.tmp 8),none,0⟩])
 (.seq (.seq (.region 1 [] [
 ⟨(some 9),.load (some 4) (.tmp 3),none,0⟩,
 ⟨(some 5),.alloc [(.int .i64 0),(.int .i64 0),(.int .i64 0),(.int .i64 0)],none,0⟩,
 ⟨none,.store (some 4) (.tmp 5) (.tmp 9),none,1⟩])
 (.block 0 (.loop ⟨[10,11,12,13,14,15,16,17,18,19,20,21,22,23,24,25,26,27,28,29,30,31,32,33,34,35,36],false,[(2,none,2)]⟩
 (.seq (.seq (.region 0 [] [
 ⟨(some 10),.faddr 2 (.tmp 5),none,0⟩,
 ⟨(some 11),.faddr 0 (.tmp 10),none,0⟩,
 ⟨(some 12),.load none (.tmp 11),none,0⟩,
 ⟨(some 13),.bin .geq (.tmp 12) (.cst (.c (.int .i64 0))),none,0⟩])
 (.cond (.tmp 13)
 .skip
 (.exit 0)))
 (.seq (.block 1 (.seq (.region 2 [] [
 ⟨(some 17),.mov (.tmp 2),none,0⟩,
 ⟨(some 18),.faddr 2 (.tmp 5),none,0⟩,
 ⟨(some 19),.load (some 2) (.tmp 18),none,0⟩,
 ⟨(some 20),.bslice 2 1 [(.int .i64 0),(.int .i64 0)] [(0,(.tmp 19))],none,0⟩,
 ⟨(some 21),.append 2 16 (.tmp 17) (.tmp 20),none,1⟩,
 ⟨(some 2),.mov (.tmp 21),none,2⟩])
 (.region 0 [(0,2),(1,2),(0,3),(1,3),(0,4),(1,4),(0,5),(1,5),(0,7),(1,7),(2,7),(3,7),(4,7),(5,7),(6,7),(0,8),(1,8),(2,8),(3,8),(4,8),(5,8),(6,8),(0,9),(1,9),(2,9),(3,9),(4,9),(5,9),(6,9),(7,9),(8,9),(0,10),(1,10),(2,10),(3,10),(4,10),(5,10),(6,10),(7,10),(8,10),(0,11),(1,11),(2,11),(3,11),(4,11),(5,11),(6,11),(7,11),(8,11),(0,12),(1,12),(2,12),(3,12),(4,12),(5,12),(6,12)] [
 ⟨(some 22),.faddr 0 (.tmp 4),none,0⟩,
 ⟨(some 23),.load none (.tmp 22),none,0⟩,
 ⟨(some 24),.faddr 2 (.tmp 5),none,0⟩,
 ⟨(some 25),.faddr 0 (.tmp 24),none,0⟩,
 ⟨(some 26),.load none (.tmp 25),none,0⟩,
 ⟨(some 27),.bin .shl (.cst (.c (.int .i64 1))) (.tmp 26),none,0⟩,
 ⟨(some 28),.bin .or (.tmp 23) (.tmp 27),none,0⟩,
 ⟨(some 29),.faddr 1 (.tmp 4),none,0⟩,
 ⟨(some 30),.load none (.tmp 29),none,0⟩,
 ⟨(some 31),.faddr 2 (.tmp 5),none,0⟩,
 ⟨(some 32),.faddr 1 (.tmp 31),none,0⟩,
 ⟨(some 33),.load none (.tmp 32),none,0⟩,
 ⟨(some 34),.bin .add (.tmp 30) (.tmp 33),none,0⟩,
 ⟨(some 35),.build [(.int .i64 0),(.int .i64 0)] [(0,1,(.tmp 28)),(1,1,(.tmp 34))],none,0⟩,
 ⟨none,.store (some 2) (.tmp 4) (.tmp 35),none,0⟩])))
 (.seq (.seq (.region 0 [] [
 ⟨(some 36),.load (some 4) (.tmp 5),none,0⟩])
 (.region 1 [] [
 ⟨(some 5),.alloc [(.int .i64 0),(.int .i64 0),(.int .i64 0),(.int .i64 0)],none,0⟩,
 ⟨none,.store (some 4) (.tmp 5) (.tmp 36),none,1⟩]))
 (.region 0 [] [
 ⟨(some 14),.mov (.tmp 0),none,0⟩,
 ⟨(some 15),.load (some 2) (.tmp 4),none,0⟩,
 ⟨(some 16),.call 135 false [(.tmp 14),(.tmp 15)],none,0⟩,
 ⟨none,.store (some 4) (.tmp 5) (.tmp 16),none,0⟩])))))))
 (.seq (.region 0 [(0,1),(1,2)] [
 ⟨(some 37),.mov (.tmp 2),none,0⟩,
 ⟨(some 38),.load (some 4) (.tmp 3),none,0⟩,
 ⟨(some 2),.mov (.tmp 37),none,0⟩,
 ⟨none,.store (some 4) (.tmp 3) (.tmp 38),none,0⟩])
 .ret)))))⟩
def f95 : AFunc:=⟨1,[.tmp 0],false,
 (.seq (.region 0 [] [
 ⟨(some 0),.mov (.cst (.c (.bool false))),none,0⟩])
 (.seq (.region 0 [] [
 ⟨(some 0),.mov (.cst (.c (.bool true))),none,0⟩])
 .ret))⟩
def f96 : AFunc:=⟨88,[.tmp 2],false,
 (.seq (.region 1 [] [
 ⟨(some 1),.box (.tmp 0),none,0⟩,
 ⟨(some 2),.mov (.cst (.c (.int .i64 0))),none,1⟩])
 (.seq (.region 0 [] [
 ⟨(some 7),.load (some 12) (.tmp 1),none,0⟩,
 ⟨(some 8),.mkfn 136 (some (.tmp 7)) [],none,0⟩,
 ⟨(some 3),.mov (.tmp 8),none,0⟩])
 (.seq (.block 0 (.seq (.region 0 [] [
 ⟨(some 10),.faddr 0 (.tmp 1),none,0⟩,
 ⟨(some 11),.load none (.tmp 10),none,0⟩,
 ⟨(some 12),.bin .gtr (.tmp 11) (.cst (.c (.int .i64 7))),none,0⟩,
 ⟨(some 13),.mov (.tmp 12),none,0⟩,
 ⟨(some 14),.faddr 11 (.tmp 1),some (13,false),0⟩,
 ⟨(some 15),.load none (.tmp 14),some (13,false),0⟩,
 ⟨(some 16),.len (.tmp 15),some (13,false),0⟩,
 ⟨(some 17),.bin .gtr (.tmp 16) (.cst (.c (.int .i64 5))),some (13,false),0⟩,
 ⟨(some 18),.pick (.tmp 13) (.cst (.c (.bool true))) (.tmp 17),none,0⟩,
 ⟨(some 9),.mov (.tmp 18),none,0⟩])
 (.cond (.tmp 9)
 (.seq (.region 0 [] [
 ⟨(some 2),.mov (.cst (.c (.int .i64 3))),none,0⟩])
 .ret)
 (.seq (.region 0 [(4,7),(5,7),(6,7),(4,8),(5,8),(6,8),(12,15),(13,15),(14,15),(12,16),(13,16),(14,16),(20,23),(21,23),(22,23),(20,24),(21,24),(22,24),(46,48),(47,48)] [
 ⟨(some 20),.load (some 12) (.tmp 1),none,0⟩,
 ⟨(some 21),.call 137 true [(.tmp 20)],none,0⟩,
 ⟨(some 22),.not (.tmp 21),none,0⟩,
 ⟨(some 23),.mov (.tmp 22),none,0⟩,
 ⟨(some 24),.faddr 8 (.tmp 1),some (23,false),0⟩,
 ⟨(some 25),.load none (.tmp 24),some (23,false),0⟩,
 ⟨(some 26),.len (.tmp 25),some (23,false),0⟩,
 ⟨(some 27),.load (some 12) (.tmp 1),some (23,false),0⟩,
 ⟨(some 28),.call 118 true [(.tmp 27)],some (23,false),0⟩,
 ⟨(some 29),.bin .neq (.tmp 26) (.tmp 28),some (23,false),0⟩,
 ⟨(some 30),.pick (.tmp 23) (.cst (.c (.bool true))) (.tmp 29),none,0⟩,
 ⟨(some 31),.mov (.tmp 30),none,0⟩,
 ⟨(some 32),.faddr 9 (.tmp 1),some (31,false),0⟩,
 ⟨(some 33),.load none (.tmp 32),some (31,false),0⟩,
 ⟨(some 34),.len (.tmp 33),some (31,false),0⟩,
 ⟨(some 35),.load (some 12) (.tmp 1),some (31,false),0⟩,
 ⟨(some 36),.call 118 true [(.tmp 35)],some (31,false),0⟩,
 ⟨(some 37),.bin .neq (.tmp 34) (.tmp 36),some (31,false),0⟩,
 ⟨(some 38),.pick (.tmp 31) (.cst (.c (.bool true))) (.tmp 37),none,0⟩,
 ⟨(some 39),.mov (.tmp 38),none,0⟩,
 ⟨(some 40),.faddr 10 (.tmp 1),some (39,false),0⟩,
 ⟨(some 41),.load none (.tmp 40),some (39,false),0⟩,
 ⟨(some 42),.len (.tmp 41),some (39,false),0⟩,
 ⟨(some 43),.load (some 12) (.tmp 1),some (39,false),0⟩,
 ⟨(some 44),.call 118 true [(.tmp 43)],some (39,false),0⟩,
 ⟨(some 45),.bin .neq (.tmp 42) (.tmp 44),some (39,false),0⟩,
 ⟨(some 46),.pick (.tmp 39) (.cst (.c (.bool true))) (.tmp 45),none,0⟩,
 ⟨(some 47),.mov (.tmp 46),none,0⟩,
 ⟨(some 48),.faddr 8 (.tmp 1),some (47,false),0⟩,
 ⟨(some 49),.load none (.tmp 48),some (47,false),0⟩,
 ⟨(some 50),.call 138 false [(.tmp 49),(.cst (.c (.fn 139 false [] [])))],some (47,false),0⟩,
 ⟨(some 51),.not (.tmp 50),some (47,false),0⟩,
 ⟨(some 52),.pick (.tmp 47) (.cst (.c (.bool true))) (.tmp 51),none,0⟩,
 ⟨(some 53),.mov (.tmp 52),none,0⟩,
 ⟨(some 54),.faddr 9 (.tmp 1),some (53,false),0⟩,
 ⟨(some 55),.load none (.tmp 54),some (53,false),0⟩,
 ⟨(some 56),.call 140 false [(.tmp 55),(.cst (.c (.fn 141 false [] [])))],some (53,false),0⟩,
 ⟨(some 57),.not (.tmp 56),some (53,false),0⟩,
 ⟨(some 58),.pick (.tmp 53) (.cst (.c (.bool true))) (.tmp 57),none,0⟩,
 ⟨(some 59),.mov (.tmp 58),none,0⟩,
 ⟨(some 60),.faddr 10 (.tmp 1),some (59,false),0⟩,
 ⟨(some 61),.load none (.tmp 60),some (59,false),0⟩,
 ⟨(some 62),.call 142 false [(.tmp 61),(.cst (.c (.fn 99 false [] [])))],some (59,false),0⟩,
 ⟨(some 63),.not (.tmp 62),some (59,false),0⟩,
 ⟨(some 64),.pick (.tmp 59) (.cst (.c (.bool true))) (.tmp 63),none,0⟩,
 ⟨(some 65),.mov (.tmp 64),none,0⟩,
 ⟨(some 66),.faddr 11 (.tmp 1),some (65,false),0⟩,
 ⟨(some 67),.load none (.tmp 66),some (65,false),0⟩,
 ⟨(some 68),.mov (.tmp 3),some (65,false),0⟩,
 ⟨(some 69),.call 143 false [(.tmp 67),(.tmp 68)],some (65,false),0⟩,
 ⟨(some 70),.not (.tmp 69),some (65,false),0⟩,
 ⟨(some 71),.pick (.tmp 65) (.cst (.c (.bool true))) (.tmp 70),none,0⟩,
 ⟨(some 19),.mov (.tmp 71),none,0⟩])
 (.cond (.tmp 19)
 (.seq (.region 0 [] [
 ⟨(some 2),.mov (.cst (.c (.int .i64 1))),none,0⟩])
 .ret)
 .skip)))))
 (.seq (.region 0 [] [
 ⟨(some 4),.mov (.cst (.c (.int .i64 1))),none,0⟩])
 (.seq (.seq (.region 0 [] [
 ⟨(some 72),.load (some 12) (.tmp 1),none,0⟩,
 ⟨(some 73),.call 144 true [(.tmp 72)],none,0⟩,
 ⟨(some 74),.len (.tmp 73),none,0⟩,
 ⟨(some 75),.mov (.cst (.c (.int .i64 0))),none,0⟩])
 (.block 1 (.loop ⟨[6,76,77,78,79,80,81,82,83,84,85],false,[]⟩
 (.seq (.region 0 [] [
 ⟨(some 76),.bin .lss (.tmp 75) (.tmp 74),none,0⟩])
 (.seq (.cond (.tmp 76)
 .skip
 (.exit 1))
 (.seq (.block 2 (.seq (.region 1 [] [
 ⟨(some 77),.iaddr 2 (.tmp 73) (.tmp 75),none,0⟩,
 ⟨(some 78),.load (some 2) (.tmp 77),none,0⟩,
 ⟨(some 6),.alloc [(.int .i64 0),(.int .i64 0)],none,0⟩,
 ⟨none,.store (some 2) (.tmp 6) (.tmp 78),none,1⟩])
 (.region 1 [] [
 ⟨(some 79),.mov (.tmp 4),none,0⟩,
 ⟨(some 80),.load (some 2) (.tmp 6),none,0⟩,
 ⟨(some 81),.call 146 true [(.tmp 80)],none,0⟩,
 ⟨(some 82),.bin .mul (.tmp 79) (.tmp 81),none,0⟩,
 ⟨(some 83),.bslice 1 2 [(.int .i64 0)] [(0,(.tmp 82)),(1,(.cst (.c (.int .i64 2001))))],none,0⟩,
 ⟨(some 84),.call 145 true [(.tmp 83)],none,1⟩,
 ⟨(some 4),.mov (.tmp 84),none,1⟩])))
 (.region 0 [] [
 ⟨(some 85),.bin .add (.tmp 75) (.cst (.c (.int .i64 1))),none,0⟩,
 ⟨(some 75),.mov (.tmp 85),none,0⟩])))))))
 (.seq (.seq (.region 0 [] [
 ⟨(some 86),.mov (.tmp 4),none,0⟩,
 ⟨(some 87),.bin .gtr (.tmp 86) (.cst (.c (.int .i64 2000))),none,0⟩])
 (.cond (.tmp 87)
 (.seq (.region 0 [] [
 ⟨(some 2),.mov (.cst (.c (.int .i64 3))),none,0⟩])
 .ret)
 .skip))
 (.seq (.region 0 [] [
 ⟨(some 2),.mov (.cst (.c (.int .i64 0))),none,0⟩])
 .ret)))))))⟩
def f97 : AFunc:=⟨46,[.tmp 4],false,
 (.seq (.region 2 [] [
 ⟨(some 2),.box (.tmp 0),none,0⟩,
 ⟨(some 3),.box (.tmp 1),none,1⟩,
 ⟨(some 4),.mov (.cst (.c (.bool false))),none,2⟩])
 (.seq (.seq (.region 0 [(0,3),(1,3),(2,3),(0,4),(1,4),(2,4),(7,9),(8,9),(7,10),(8,10),(15,17),(16,17),(15,18),(16,18)] [
 ⟨(some 7),.faddr 2 (.tmp 3),none,0⟩,
 ⟨(some 8),.load none (.tmp 7),none,0⟩,
 ⟨(some 9),.len (.tmp 8),none,0⟩,
 ⟨(some 10),.load (some 12) (.tmp 2),none,0⟩,
 ⟨(some 11),.call 118 true [(.tmp 10)],none,0⟩,
 ⟨(some 12),.bin .neq (.tmp 9) (.tmp 11),none,0⟩,
 ⟨(some 13),.mov (.tmp 12),none,0⟩,
 ⟨(some 14),.faddr 2 (.tmp 2),some (13,false),0⟩,
 ⟨(some 15),.load (some 2) (.tmp 14),some (13,false),0⟩,
 ⟨(some 16),.faddr 0 (.tmp 3),some (13,false),0⟩,
 ⟨(some 17),.load none (.tmp 16),some (13,false),0⟩,
 ⟨(some 18),.call 147 true [(.tmp 15),(.tmp 17)],some (13,false),0⟩,
 ⟨(some 19),.not (.tmp 18),some (13,false),0⟩,
 ⟨(some 20),.pick (.tmp 13) (.cst (.c (.bool true))) (.tmp 19),none,0⟩,
 ⟨(some 21),.mov (.tmp 20),none,0⟩,
 ⟨(some 22),.faddr 4 (.tmp 2),some (21,false),0⟩,
 ⟨(some 23),.load (some 2) (.tmp 22),some (21,false),0⟩,
 ⟨(some 24),.faddr 1 (.tmp 3),some (21,false),0⟩,
 ⟨(some 25),.load none (.tmp 24),some (21,false),0⟩,
 ⟨(some 26),.call 147 true [(.tmp 23),(.tmp 25)],some (21,false),0⟩,
 ⟨(some 27),.not (.tmp 26),some (21,false),0⟩,
 ⟨(some 28),.pick (.tmp 21) (.cst (.c (.bool true))) (.tmp 27),none,0⟩])
 (.cond (.tmp 28)
 (.seq (.region 0 [] [
 ⟨(some 4),.mov (.cst (.c (.bool false))),none,0⟩])
 .ret)
 .skip))
 (.seq (.seq (.region 0 [] [
 ⟨(some 29),.faddr 8 (.tmp 2),none,0⟩,
 ⟨(some 30),.load none (.tmp 29),none,0⟩,
 ⟨(some 31),.len (.tmp 30),none,0⟩,
 ⟨(some 32),.mov (.cst (.c (.int .i64 0))),none,0⟩])
 (.block 0 (.loop ⟨[4,5,6,33,34,35,36,37,38,39,40,41,42,43,44,45],true,[]⟩
 (.seq (.region 0 [] [
 ⟨(some 33),.bin .lss (.tmp 32) (.tmp 31),none,0⟩])
 (.seq (.cond (.tmp 33)
 .skip
 (.exit 0))
 (.seq (.block 1 (.seq (.region 1 [] [
 ⟨(some 34),.mov (.tmp 32),none,0⟩,
 ⟨(some 35),.iaddr 2 (.tmp 30) (.tmp 32),none,0⟩,
 ⟨(some 36),.load (some 2) (.tmp 35),none,0⟩,
 ⟨(some 6),.alloc [(.int .i64 0),(.int .i64 0)],none,0⟩,
 ⟨(some 5),.mov (.tmp 34),none,1⟩,
 ⟨none,.store (some 2) (.tmp 6) (.tmp 36),none,1⟩])
 (.seq (.region 0 [(0,1),(0,2),(0,3),(1,3),(2,3),(0,4),(0,5)] [
 ⟨(some 37),.load (some 2) (.tmp 6),none,0⟩,
 ⟨(some 38),.faddr 2 (.tmp 3),none,0⟩,
 ⟨(some 39),.load none (.tmp 38),none,0⟩,
 ⟨(some 40),.mov (.tmp 5),none,0⟩,
 ⟨(some 41),.iaddr 1 (.tmp 39) (.tmp 40),none,0⟩,
 ⟨(some 42),.load none (.tmp 41),none,0⟩,
 ⟨(some 43),.call 147 true [(.tmp 37),(.tmp 42)],none,0⟩,
 ⟨(some 44),.not (.tmp 43),none,0⟩])
 (.cond (.tmp 44)
 (.seq (.region 0 [] [
 ⟨(some 4),.mov (.cst (.c (.bool false))),none,0⟩])
 .ret)
 .skip))))
 (.region 0 [] [
 ⟨(some 45),.bin .add (.tmp 32) (.cst (.c (.int .i64 1))),none,0⟩,
 ⟨(some 32),.mov (.tmp 45),none,0⟩])))))))
 (.seq (.region 0 [] [
 ⟨(some 4),.mov (.cst (.c (.bool true))),none,0⟩])
 .ret))))⟩
def f98 : AFunc:=⟨9,[.tmp 4],false,
 (.seq (.region 1 [] [
 ⟨(some 2),.box (.tmp 0),none,0⟩,
 ⟨(some 4),.mov (.cst (.c (.bool false))),none,1⟩])
 (.seq (.region 0 [] [
 ⟨(some 5),.mov (.tmp 1),none,0⟩,
 ⟨(some 6),.faddr 0 (.tmp 2),none,0⟩,
 ⟨(some 7),.load none (.tmp 6),none,0⟩,
 ⟨(some 8),.call 148 true [(.tmp 5),(.cst (.c (.int .i64 0))),(.tmp 7)],none,0⟩,
 ⟨(some 4),.mov (.tmp 8),none,0⟩])
 .ret))⟩
def f99 : AFunc:=⟨5,[.tmp 2],false,
 (.seq (.region 0 [] [
 ⟨(some 2),.mov (.cst (.c (.bool false))),none,0⟩])
 (.seq (.region 0 [] [
 ⟨(some 3),.mov (.tmp 0),none,0⟩,
 ⟨(some 4),.call 148 true [(.tmp 3),(.cst (.c (.int .i64 0))),(.cst (.c (.int .i64 20)))],none,0⟩,
 ⟨(some 2),.mov (.tmp 4),none,0⟩])
 .ret))⟩
def f100 : AFunc:=⟨7,[.tmp 2],false,
 (.seq (.region 1 [] [
 ⟨(some 1),.box (.tmp 0),none,0⟩,
 ⟨(some 2),.mov (.cst (.c .nilp)),none,1⟩])
 (.seq (.region 2 [] [
 ⟨(some 3),.load (some 12) (.tmp 1),none,0⟩,
 ⟨(some 4),.mkmap true false [(some .i64),none],none,0⟩,
 ⟨(some 5),.build [(.int .i64 0),(.int .i64 0),(.int .i64 0),(.int .i64 0),(.int .i64 0),(.int .i64 0),(.int .i64 0),(.int .i64 0),.nils,.nils,.nils,.nils,.any] [(0,12,(.tmp 3)),(12,1,(.tmp 4))],none,1⟩,
 ⟨(some 6),.box (.tmp 5),none,1⟩,
 ⟨(some 2),.mov (.tmp 6),none,2⟩])
 .ret))⟩
def f101 : AFunc:=⟨36,[.tmp 6],false,
 (.seq (.region 1 [] [
 ⟨(some 4),.box (.tmp 1),none,0⟩,
 ⟨(some 6),.mov (.cst (.c .nils)),none,1⟩])
 (.seq (.region 1 [(0,2),(1,2),(0,3),(1,3),(0,4),(1,4),(0,5),(1,5),(0,6),(1,6),(2,6),(3,6),(4,6),(5,6),(0,7),(1,7),(2,7),(3,7),(4,7),(5,7),(0,8),(1,8),(0,10),(1,10),(2,10),(3,10),(4,10),(5,10),(6,10),(7,10),(8,10),(9,10)] [
 ⟨(some 10),.faddr 1 (.tmp 4),none,0⟩,
 ⟨(some 11),.load none (.tmp 10),none,0⟩,
 ⟨(some 12),.mov (.tmp 0),none,0⟩,
 ⟨(some 13),.nilchk (.tmp 12),none,0⟩,
 ⟨(some 14),.faddr 0 (.tmp 13),none,0⟩,
 ⟨(some 15),.load (some 12) (.tmp 14),none,0⟩,
 ⟨(some 16),.faddr 0 (.tmp 4),none,0⟩,
 ⟨(some 17),.load none (.tmp 16),none,0⟩,
 ⟨(some 18),.call 149 true [(.tmp 15),(.tmp 17)],none,0⟩,
 ⟨(some 19),.build [(.int .i64 0),(.bool false)] [(0,1,(.tmp 11)),(1,1,(.tmp 18))],none,0⟩,
 ⟨(some 7),.alloc [(.int .i64 0),(.bool false)],none,0⟩,
 ⟨none,.store (some 2) (.tmp 7) (.tmp 19),none,1⟩])
 (.seq (.seq (.region 0 [] [
 ⟨(some 20),.mov (.tmp 2),none,0⟩,
 ⟨(some 21),.mov (.cst (.c (.int .i64 0))),none,0⟩])
 (.block 0 (.loop ⟨[8,9,22,23,24,25,26,27,28,29,30,31,32,33,34],false,[(6,none,1)]⟩
 (.seq (.region 0 [] [
 ⟨(some 22),.bin .lss (.tmp 21) (.tmp 20),none,0⟩])
 (.seq (.cond (.tmp 22)
 .skip
 (.exit 0))
 (.seq (.block 1 (.seq (.region 1 [] [
 ⟨(some 24),.mov (.tmp 0),none,0⟩,
 ⟨(some 25),.load (some 2) (.tmp 7),none,0⟩,
 ⟨(some 26),.call 150 false [(.tmp 24),(.tmp 25)],none,0⟩,
 ⟨(some 23),.mov (.tmp 26),none,0⟩,
 ⟨(some 27),.extract 0 (.tmp 23),none,0⟩,
 ⟨(some 28),.extract 1 (.tmp 23),none,0⟩,
 ⟨(some 9),.alloc [(.int .i64 0),(.bool false)],none,0⟩,
 ⟨(some 8),.mov (.tmp 27),none,1⟩,
 ⟨none,.store (some 2) (.tmp 9) (.tmp 28),none,1⟩])
 (.region 2 [(0,1),(0,2),(0,4),(1,4),(2,4),(3,4),(4,5)] [
 ⟨(some 29),.mov (.tmp 6),none,0⟩,
 ⟨(some 30),.mov (.tmp 8),none,0⟩,
 ⟨(some 31),.bslice 1 1 [(.int .i64 0)] [(0,(.tmp 30))],none,0⟩,
 ⟨(some 32),.append 1 8 (.tmp 29) (.tmp 31),none,1⟩,
 ⟨(some 33),.load (some 2) (.tmp 9),none,2⟩,
 ⟨(some 6),.mov (.tmp 32),none,2⟩,
 ⟨none,.store (some 2) (.tmp 7) (.tmp 33),none,2⟩])))
 (.region 0 [] [
 ⟨(some 34),.bin .add (.tmp 21) (.cst (.c (.int .i64 1))),none,0⟩,
 ⟨(some 21),.mov (.tmp 34),none,0⟩])))))))
 (.seq (.region 0 [] [
 ⟨(some 35),.mov (.tmp 6),none,0⟩,
 ⟨(some 6),.mov (.tmp 35),none,0⟩])
 .ret))))⟩
def f102 : AFunc:=⟨9,[.tmp 4],false,
 (.seq (.region 1 [] [
 ⟨(some 3),.box (.tmp 1),none,0⟩,
 ⟨(some 4),.mov (.cst (.c .nils)),none,1⟩])
 (.seq (.region 0 [] [
 ⟨(some 5),.mov (.tmp 0),none,0⟩,
 ⟨(some 6),.load (some 3) (.tmp 3),none,0⟩,
 ⟨(some 7),.call 152 false [(.tmp 5),(.tmp 6)],none,0⟩,
 ⟨(some 8),.call 151 false [(.tmp 7)],none,0⟩,
 ⟨(some 4),.mov (.tmp 8),none,0⟩])
 .ret))⟩
def f104 : AFunc:=⟨21,[.tmp 4,.tmp 5],false,
 (.seq (.region 1 [] [
 ⟨(some 2),.box (.tmp 0),none,0⟩,
 ⟨(some 4),.mov (.cst (.c .nilp)),none,1⟩,
 ⟨(some 5),.mov (.cst (.c (.int .i64 0))),none,1⟩])
 (.seq (.seq (.region 0 [] [
 ⟨(some 8),.load (some 12) (.tmp 2),none,0⟩,
 ⟨(some 9),.call 96 true [(.tmp 8)],none,0⟩,
 ⟨(some 6),.mov (.tmp 9),none,0⟩])
 (.seq (.region 0 [] [
 ⟨(some 10),.mov (.tmp 6),none,0⟩,
 ⟨(some 11),.bin .neq (.tmp 10) (.cst (.c (.int .i64 0))),none,0⟩])
 (.cond (.tmp 11)
 (.seq (.region 0 [] [
 ⟨(some 12),.mov (.tmp 6),none,0⟩,
 ⟨(some 4),.mov (.cst (.c .nilp)),none,0⟩,
 ⟨(some 5),.mov (.tmp 12),none,0⟩])
 .ret)
 .skip)))
 (.seq (.seq (.region 0 [] [
 ⟨(some 13),.mov (.tmp 1),none,0⟩,
 ⟨(some 14),.not (.tmp 13),none,0⟩])
 (.cond (.tmp 14)
 (.seq (.region 0 [] [
 ⟨(some 4),.mov (.cst (.c .nilp)),none,0⟩,
 ⟨(some 5),.mov (.cst (.c (.int .i64 2))),none,0⟩])
 .ret)
 .skip))
 (.seq (.region 0 [] [
 ⟨(some 15),.load (some 12) (.tmp 2),none,0⟩,
 ⟨(some 16),.call 100 false [(.tmp 15)],none,0⟩,
 ⟨(some 7),.mov (.tmp 16),none,0⟩])
 (.seq (.seq (.region 0 [] [
 ⟨(some 17),.mov (.tmp 7),none,0⟩,
 ⟨(some 18),.call 153 false [(.tmp 17),(.cst (.c .nils))],none,0⟩,
 ⟨(some 19),.not (.tmp 18),none,0⟩])
 (.cond (.tmp 19)
 (.seq (.region 0 [] [
 ⟨(some 4),.mov (.cst (.c .nilp)),none,0⟩,
 ⟨(some 5),.mov (.cst (.c (.int .i64 11))),none,0⟩])
 .ret)
 .skip))
 (.seq (.region 0 [] [
 ⟨(some 20),.mov (.tmp 7),none,0⟩,
 ⟨(some 4),.mov (.tmp 20),none,0⟩,
 ⟨(some 5),.mov (.cst (.c (.int .i64 0))),none,0⟩])
 .ret))))))⟩
def f105 : AFunc:=⟨24,[.cell 4 (some 2)],false,
 (.seq (.region 2 [] [
 ⟨(some 3),.box (.tmp 1),none,0⟩,
 ⟨(some 4),.alloc [(.int .i64 0),(.int .i64 0)],none,1⟩])
 (.seq (.region 1 [] [
 ⟨(some 5),.alloc [(.bool false)],none,0⟩,
 ⟨none,.store none (.tmp 5) (.cst (.c (.bool true))),none,1⟩])
 (.seq (.seq (.region 0 [] [
 ⟨(some 9),.mov (.tmp 0),none,0⟩,
 ⟨(some 10),.call 154 false [(.tmp 9),(.cst (.c .nils))],none,0⟩])
 (.block 0 (.range (.tmp 10) [11,12]
 (.region 0 [] [
 ⟨(some 7),.mov (.tmp 12),none,0⟩])
 (.block 1 (.seq (.region 0 [] [
 ⟨(some 13),.load none (.tmp 3),none,0⟩,
 ⟨(some 14),.mov (.tmp 7),none,0⟩,
 ⟨(some 15),.callv (.tmp 13) [(.tmp 14)],none,0⟩,
 ⟨(some 8),.mov (.tmp 15),none,0⟩])
 (.seq (.seq (.region 0 [] [
 ⟨(some 16),.load none (.tmp 5),none,0⟩])
 (.cond (.tmp 16)
 (.region 0 [] [
 ⟨(some 17),.mov (.tmp 8),none,0⟩,
 ⟨(some 18),.mov (.tmp 8),none,0⟩,
 ⟨(some 19),.build [(.int .i64 0),(.int .i64 0)] [(0,1,(.tmp 17)),(1,1,(.tmp 18))],none,0⟩,
 ⟨none,.store (some 2) (.tmp 4) (.tmp 19),none,0⟩,
 ⟨none,.store none (.tmp 5) (.cst (.c (.bool false))),none,0⟩])
 .skip))
 (.region 0 [] [
 ⟨(some 20),.load (some 2) (.tmp 4),none,0⟩,
 ⟨(some 21),.mov (.tmp 8),none,0⟩,
 ⟨(some 22),.call 155 true [(.tmp 20),(.tmp 21)],none,0⟩,
 ⟨none,.store (some 2) (.tmp 4) (.tmp 22),none,0⟩])))))))
 (.seq (.region 0 [] [
 ⟨(some 23),.load (some 2) (.tmp 4),none,0⟩,
 ⟨none,.store (some 2) (.tmp 4) (.tmp 23),none,0⟩])
 .ret))))⟩
def f109 : AFunc:=⟨14,[.tmp 4],false,
 (.seq (.region 2 [] [
 ⟨(some 2),.box (.tmp 0),none,0⟩,
 ⟨(some 3),.box (.tmp 1),none,1⟩,
 ⟨(some 4),.mov (.cst (.c (.bool false))),none,2⟩])
 (.seq (.region 0 [] [
 ⟨(some 5),.load (some 17) (.tmp 2),none,0⟩,
 ⟨(some 6),.faddr 0 (.tmp 3),none,0⟩,
 ⟨(some 7),.load none (.tmp 6),none,0⟩,
 ⟨(some 8),.call 76 true [(.tmp 5),(.tmp 7)],none,0⟩,
 ⟨(some 9),.mov (.tmp 8),none,0⟩,
 ⟨(some 10),.faddr 1 (.tmp 3),some (9,true),0⟩,
 ⟨(some 11),.load none (.tmp 10),some (9,true),0⟩,
 ⟨(some 12),.call 69 true [(.tmp 11),(.cst (.c (.int .i64 0))),(.cst (.c (.int .i64 20)))],some (9,true),0⟩,
 ⟨(some 13),.pick (.tmp 9) (.tmp 12) (.cst (.c (.bool false))),none,0⟩,
 ⟨(some 4),.mov (.tmp 13),none,0⟩])
 .ret))⟩
def f110 : AFunc:=⟨9,[.tmp 4],false,
 (.seq (.region 1 [] [
 ⟨(some 3),.box (.tmp 1),none,0⟩,
 ⟨(some 4),.mov (.cst (.c (.bool false))),none,1⟩])
 (.seq (.region 0 [] [
 ⟨(some 5),.mov (.tmp 0),none,0⟩,
 ⟨(some 6),.mkfn 158 none [(.tmp 3)],none,0⟩,
 ⟨(some 7),.call 111 false [(.tmp 5),(.tmp 6)],none,0⟩,
 ⟨(some 8),.not (.tmp 7),none,0⟩,
 ⟨(some 4),.mov (.tmp 8),none,0⟩])
 .ret))⟩
def f111 : AFunc:=⟨9,[.tmp 4],false,
 (.seq (.region 0 [] [
 ⟨(some 4),.mov (.cst (.c (.bool false))),none,0⟩])
 (.seq (.region 0 [] [
 ⟨(some 5),.mov (.tmp 0),none,0⟩,
 ⟨(some 6),.mov (.tmp 1),none,0⟩,
 ⟨(some 7),.call 129 false [(.tmp 5),(.tmp 6)],none,0⟩,
 ⟨(some 8),.bin .geq (.tmp 7) (.cst (.c (.int .i64 0))),none,0⟩,
 ⟨(some 4),.mov (.tmp 8),none,0⟩])
 .ret))⟩
def f112 : AFunc:=⟨9,[.tmp 3],false,
 (.seq (.region 1 [] [
 ⟨(some 2),.box (.tmp 0),none,0⟩,
 ⟨(some 3),.mov (.cst (.c (.bool false))),none,1⟩])
 (.seq (.region 0 [] [
 ⟨(some 4),.faddr 0 (.tmp 2),none,0⟩,
 ⟨(some 5),.load none (.tmp 4),none,0⟩,
 ⟨(some 6),.faddr 0 (.tmp 1),none,0⟩,
 ⟨(some 7),.load none (.tmp 6),none,0⟩,
 ⟨(some 8),.bin .eql (.tmp 5) (.tmp 7),none,0⟩,
 ⟨(some 3),.mov (.tmp 8),none,0⟩])
 .ret))⟩
def f113 : AFunc:=⟨24,[.tmp 6],false,
 (.seq (.region 1 [] [
 ⟨(some 3),.box (.tmp 0),none,0⟩,
 ⟨(some 6),.mov (.cst (.c (.int .i64 0))),none,1⟩])
 (.seq (.seq (.region 0 [] [
 ⟨(some 9),.mov (.tmp 1),none,0⟩,
 ⟨(some 10),.mov (.tmp 1),none,0⟩,
 ⟨(some 11),.mov (.tmp 2),none,0⟩,
 ⟨(some 12),.bin .add (.tmp 10) (.tmp 11),none,0⟩,
 ⟨(some 13),.pslice 20 (.tmp 3) (some (.tmp 9)) (some (.tmp 12)),none,0⟩,
 ⟨(some 14),.len (.tmp 13),none,0⟩,
 ⟨(some 15),.mov (.cst (.c (.int .i64 0))),none,0⟩])
 (.block 0 (.loop ⟨[8,16,17,18,19,20,21,22],false,[]⟩
 (.seq (.region 0 [] [
 ⟨(some 16),.bin .lss (.tmp 15) (.tmp 14),none,0⟩])
 (.seq (.cond (.tmp 16)
 .skip
 (.exit 0))
 (.seq (.block 1 (.seq (.region 0 [] [
 ⟨(some 17),.iaddr 1 (.tmp 13) (.tmp 15),none,0⟩,
 ⟨(some 18),.load none (.tmp 17),none,0⟩,
 ⟨(some 8),.mov (.tmp 18),none,0⟩])
 (.region 0 [] [
 ⟨(some 19),.mov (.tmp 6),none,0⟩,
 ⟨(some 20),.mov (.tmp 8),none,0⟩,
 ⟨(some 21),.bin .add (.tmp 19) (.tmp 20),none,0⟩,
 ⟨(some 6),.mov (.tmp 21),none,0⟩])))
 (.region 0 [] [
 ⟨(some 22),.bin .add (.tmp 15) (.cst (.c (.int .i64 1))),none,0⟩,
 ⟨(some 15),.mov (.tmp 22),none,0⟩])))))))
 (.seq (.region 0 [] [
 ⟨(some 23),.mov (.tmp 6),none,0⟩,
 ⟨(some 6),.mov (.tmp 23),none,0⟩])
 .ret)))⟩
def f118 : AFunc:=⟨6,[.tmp 2],false,
 (.seq (.region 1 [] [
 ⟨(some 1),.box (.tmp 0),none,0⟩,
 ⟨(some 2),.mov (.cst (.c (.int .i64 0))),none,1⟩])
 (.seq (.region 0 [] [
 ⟨(some 3),.faddr 0 (.tmp 1),none,0⟩,
 ⟨(some 4),.load none (.tmp 3),none,0⟩,
 ⟨(some 5),.bin .add (.tmp 4) (.cst (.c (.int .i64 1))),none,0⟩,
 ⟨(some 2),.mov (.tmp 5),none,0⟩])
 .ret))⟩
def f119 : AFunc:=⟨5,[.tmp 2],false,
 (.seq (.region 1 [] [
 ⟨(some 1),.box (.tmp 0),none,0⟩,
 ⟨(some 2),.mov (.cst (.c (.int .i64 0))),none,1⟩])
 (.seq (.region 0 [] [
 ⟨(some 3),.faddr 0 (.tmp 1),none,0⟩,
 ⟨(some 4),.load none (.tmp 3),none,0⟩,
 ⟨(some 2),.mov (.tmp 4),none,0⟩])
 .ret))⟩
def f120 : AFunc:=⟨10,[.cell 6 (some 2)],false,
 (.seq (.region 3 [] [
 ⟨(some 3),.box (.tmp 0),none,0⟩,
 ⟨(some 5),.box (.tmp 2),none,1⟩,
 ⟨(some 6),.alloc [(.int .i64 0),(.int .i64 0)],none,2⟩])
 (.seq (.region 0 [] [
 ⟨(some 7),.mov (.tmp 1),none,0⟩,
 ⟨(some 8),.mkfn 160 none [(.tmp 3),(.tmp 5)],none,0⟩,
 ⟨(some 9),.call 105 false [(.tmp 7),(.tmp 8)],none,0⟩,
 ⟨none,.store (some 2) (.tmp 6) (.tmp 9),none,0⟩])
 .ret))⟩
def f121 : AFunc:=⟨5,[.tmp 2],false,
 (.seq (.region 1 [] [
 ⟨(some 1),.box (.tmp 0),none,0⟩,
 ⟨(some 2),.mov (.cst (.c (.int .i64 0))),none,1⟩])
 (.seq (.region 0 [] [
 ⟨(some 3),.faddr 1 (.tmp 1),none,0⟩,
 ⟨(some 4),.load none (.tmp 3),none,0⟩,
 ⟨(some 2),.mov (.tmp 4),none,0⟩])
 .ret))⟩
def f122 : AFunc:=⟨9,[.tmp 4],false,
 (.seq (.region 0 [] [
 ⟨(some 4),.mov (.cst (.c (.bool false))),none,0⟩])
 (.seq (.region 0 [] [
 ⟨(some 5),.mov (.tmp 0),none,0⟩,
 ⟨(some 6),.mov (.tmp 1),none,0⟩,
 ⟨(some 7),.call 161 false [(.tmp 5),(.tmp 6)],none,0⟩,
 ⟨(some 8),.bin .geq (.tmp 7) (.cst (.c (.int .i64 0))),none,0⟩,
 ⟨(some 4),.mov (.tmp 8),none,0⟩])
 .ret))⟩
def f123 : AFunc:=⟨8,[.tmp 3],false,
 (.seq (.region 1 [] [
 ⟨(some 2),.box (.tmp 0),none,0⟩,
 ⟨(some 3),.mov (.cst (.c (.bool false))),none,1⟩])
 (.seq (.region 0 [] [
 ⟨(some 4),.load none (.tmp 1),none,0⟩,
 ⟨(some 5),.load (some 2) (.tmp 2),none,0⟩,
 ⟨(some 6),.callv (.tmp 4) [(.tmp 5)],none,0⟩,
 ⟨(some 7),.not (.tmp 6),none,0⟩,
 ⟨(some 3),.mov (.tmp 7),none,0⟩])
 .ret))⟩
def f124 : AFunc:=⟨4,[.tmp 2],false,
 (.seq (.region 1 [] [
 ⟨(some 1),.box (.tmp 0),none,0⟩,
 ⟨(some 2),.mov (.cst (.c .nilfn)),none,1⟩])
 (.seq (.region 0 [] [
 ⟨(some 3),.mkfn 162 none [(.tmp 1)],none,0⟩,
 ⟨(some 2),.mov (.tmp 3),none,0⟩])
 .ret))⟩
def f125 : AFunc:=⟨9,[.tmp 4],false,
 (.seq (.region 1 [] [
 ⟨(some 3),.box (.tmp 1),none,0⟩,
 ⟨(some 4),.mov (.cst (.c (.bool false))),none,1⟩])
 (.seq (.region 0 [] [
 ⟨(some 5),.mov (.tmp 0),none,0⟩,
 ⟨(some 6),.mkfn 166 none [(.tmp 3)],none,0⟩,
 ⟨(some 7),.call 165 false [(.tmp 5),(.tmp 6)],none,0⟩,
 ⟨(some 8),.not (.tmp 7),none,0⟩,
 ⟨(some 4),.mov (.tmp 8),none,0⟩])
 .ret))⟩
def f126 : AFunc:=⟨20,[.tmp 6],false,
 (.seq (.region 1 [] [
 ⟨(some 5),.box (.tmp 0),none,0⟩,
 ⟨(some 6),.mov (.cst (.c (.bool false))),none,1⟩])
 (.seq (.region 0 [(0,5),(1,5),(2,5),(3,5),(4,5),(0,8),(1,8),(2,8),(3,8),(4,8),(5,8),(6,8),(7,8),(0,9),(1,9),(2,9),(3,9),(4,9),(5,9),(6,9),(7,9),(8,9),(0,10),(1,10),(2,10),(3,10),(4,10),(5,10),(6,10),(7,10),(8,10),(9,10),(0,11),(1,11),(2,11),(3,11),(4,11),(5,11),(6,11),(7,11)] [
 ⟨(some 7),.load none (.tmp 1),none,0⟩,
 ⟨(some 8),.nilchk (.tmp 7),none,0⟩,
 ⟨(some 9),.faddr 0 (.tmp 8),none,0⟩,
 ⟨(some 10),.faddr 13 (.tmp 9),none,0⟩,
 ⟨(some 11),.load none (.tmp 10),none,0⟩,
 ⟨(some 12),.load none (.tmp 2),none,0⟩,
 ⟨(some 13),.iaddr 2 (.tmp 11) (.tmp 12),none,0⟩,
 ⟨(some 14),.load (some 2) (.tmp 13),none,0⟩,
 ⟨(some 15),.load (some 20) (.tmp 5),none,0⟩,
 ⟨(some 16),.load none (.tmp 3),none,0⟩,
 ⟨(some 17),.load none (.tmp 4),none,0⟩,
 ⟨(some 18),.call 113 true [(.tmp 15),(.tmp 16),(.tmp 17)],none,0⟩,
 ⟨(some 19),.call 127 true [(.tmp 14),(.tmp 18)],none,0⟩,
 ⟨(some 6),.mov (.tmp 19),none,0⟩])
 .ret))⟩
def f127 : AFunc:=⟨11,[.tmp 4],false,
 (.seq (.region 1 [] [
 ⟨(some 2),.box (.tmp 0),none,0⟩,
 ⟨(some 4),.mov (.cst (.c (.bool false))),none,1⟩])
 (.seq (.region 0 [] [
 ⟨(some 5),.mov (.tmp 1),none,0⟩,
 ⟨(some 6),.faddr 0 (.tmp 2),none,0⟩,
 ⟨(some 7),.load none (.tmp 6),none,0⟩,
 ⟨(some 8),.faddr 1 (.tmp 2),none,0⟩,
 ⟨(some 9),.load none (.tmp 8),none,0⟩,
 ⟨(some 10),.call 69 true [(.tmp 5),(.tmp 7),(.tmp 9)],none,0⟩,
 ⟨(some 4),.mov (.tmp 10),none,0⟩])
 .ret))⟩
def f129 : AFunc:=⟨19,[.tmp 4],false,
 (.seq (.region 0 [] [
 ⟨(some 4),.mov (.cst (.c (.int .i64 0))),none,0⟩])
 (.seq (.seq (.region 0 [] [
 ⟨(some 6),.mov (.tmp 0),none,0⟩,
 ⟨(some 7),.len (.tmp 6),none,0⟩,
 ⟨(some 8),.mov (.cst (.c (.int .i64 0))),none,0⟩])
 (.block 0 (.loop ⟨[4,5,9,10,11,12,13,14,15,16,17,18],false,[]⟩
 (.seq (.region 0 [] [
 ⟨(some 9),.bin .lss (.tmp 8) (.tmp 7),none,0⟩])
 (.seq (.cond (.tmp 9)
 .skip
 (.exit 0))
 (.seq (.block 1 (.seq (.region 0 [] [
 ⟨(some 10),.mov (.tmp 8),none,0⟩,
 ⟨(some 5),.mov (.tmp 10),none,0⟩])
 (.seq (.region 0 [] [
 ⟨(some 11),.mov (.tmp 1),none,0⟩,
 ⟨(some 12),.mov (.tmp 0),none,0⟩,
 ⟨(some 13),.mov (.tmp 5),none,0⟩,
 ⟨(some 14),.iaddr 2 (.tmp 12) (.tmp 13),none,0⟩,
 ⟨(some 15),.load (some 2) (.tmp 14),none,0⟩,
 ⟨(some 16),.callv (.tmp 11) [(.tmp 15)],none,0⟩])
 (.cond (.tmp 16)
 (.seq (.region 0 [] [
 ⟨(some 17),.mov (.tmp 5),none,0⟩,
 ⟨(some 4),.mov (.tmp 17),none,0⟩])
 .ret)
 .skip))))
 (.region 0 [] [
 ⟨(some 18),.bin .add (.tmp 8) (.cst (.c (.int .i64 1))),none,0⟩,
 ⟨(some 8),.mov (.tmp 18),none,0⟩])))))))
 (.seq (.region 0 [] [
 ⟨(some 4),.mov (.cst (.c (.int .i64 (-1)))),none,0⟩])
 .ret)))⟩
def f130 : AFunc:=⟨8,[.tmp 3],false,
 (.seq (.region 1 [] [
 ⟨(some 2),.box (.tmp 0),none,0⟩,
 ⟨(some 3),.mov (.cst (.c (.bool false))),none,1⟩])
 (.seq (.region 0 [] [
 ⟨(some 4),.faddr 0 (.tmp 2),none,0⟩,
 ⟨(some 5),.load none (.tmp 4),none,0⟩,
 ⟨(some 6),.load none (.tmp 1),none,0⟩,
 ⟨(some 7),.bin .eql (.tmp 5) (.tmp 6),none,0⟩,
 ⟨(some 3),.mov (.tmp 7),none,0⟩])
 .ret))⟩
def f131 : AFunc:=⟨19,[.tmp 4],false,
 (.seq (.region 0 [] [
 ⟨(some 4),.mov (.cst (.c (.bool false))),none,0⟩])
 (.seq (.region 0 [] [
 ⟨(some 8),.load (some 17) (.tmp 0),none,0⟩,
 ⟨(some 9),.load none (.tmp 1),none,0⟩,
 ⟨(some 10),.call 63 true [(.tmp 8),(.tmp 9)],none,0⟩,
 ⟨(some 7),.mov (.tmp 10),none,0⟩,
 ⟨(some 11),.extract 0 (.tmp 7),none,0⟩,
 ⟨(some 12),.extract 1 (.tmp 7),none,0⟩,
 ⟨(some 5),.mov (.tmp 11),none,0⟩,
 ⟨(some 6),.mov (.tmp 12),none,0⟩])
 (.seq (.region 0 [] [
 ⟨(some 13),.mov (.tmp 6),none,0⟩,
 ⟨(some 14),.mov (.tmp 13),none,0⟩,
 ⟨(some 15),.load none (.tmp 2),some (14,true),0⟩,
 ⟨(some 16),.load none (.tmp 3),some (14,true),0⟩,
 ⟨(some 17),.call 132 false [(.tmp 15),(.tmp 16)],some (14,true),0⟩,
 ⟨(some 18),.pick (.tmp 14) (.tmp 17) (.cst (.c (.bool false))),none,0⟩,
 ⟨(some 4),.mov (.tmp 18),none,0⟩])
 .ret)))⟩
def f132 : AFunc:=⟨9,[.tmp 4],false,
 (.seq (.region 1 [] [
 ⟨(some 3),.box (.tmp 1),none,0⟩,
 ⟨(some 4),.mov (.cst (.c (.bool false))),none,1⟩])
 (.seq (.region 0 [] [
 ⟨(some 5),.mov (.tmp 0),none,0⟩,
 ⟨(some 6),.mkfn 168 none [(.tmp 3)],none,0⟩,
 ⟨(some 7),.call 167 false [(.tmp 5),(.tmp 6)],none,0⟩,
 ⟨(some 8),.not (.tmp 7),none,0⟩,
 ⟨(some 4),.mov (.tmp 8),none,0⟩])
 .ret))⟩
def f133 : AFunc:=⟨11,[.tmp 4],false,
 (.seq (.region 0 [] [
 ⟨(some 4),.mov (.cst (.c (.int .i64 0))),none,0⟩])
 (.seq (.seq (.region 0 [] [
 ⟨(some 5),.mov (.tmp 0),none,0⟩])
 (.block 0 (.seq (.region 0 [] [
 ⟨(some 7),.mov (.tmp 1),none,0⟩,
 ⟨(some 8),.bin .eql (.tmp 5) (.tmp 7),none,0⟩,
 ⟨(some 6),.mov (.tmp 8),none,0⟩])
 (.cond (.tmp 6)
 (.seq (.region 0 [] [
 ⟨(some 4),.mov (.cst (.c (.int .i64 1))),none,0⟩])
 .ret)
 (.seq (.region 0 [] [
 ⟨(some 10),.bin .eql (.tmp 5) (.cst (.c (.int .i64 0))),none,0⟩,
 ⟨(some 9),.mov (.tmp 10),none,0⟩])
 (.cond (.tmp 9)
 (.seq (.region 0 [] [
 ⟨(some 4),.mov (.cst (.c (.int .i64 2))),none,0⟩])
 .ret)
 .skip))))))
 (.seq (.region 0 [] [
 ⟨(some 4),.mov (.cst (.c (.int .i64 3))),none,0⟩])
 .ret)))⟩
def f134 : AFunc:=⟨25,[.tmp 2],false,
 (.seq (.region 0 [] [
 ⟨(some 2),.mov (.cst (.c (.int .i64 0))),none,0⟩])
 (.seq (.seq (.region 0 [] [
 ⟨(some 5),.mov (.tmp 0),none,0⟩,
 ⟨(some 6),.len (.tmp 5),none,0⟩,
 ⟨(some 7),.bin .lss (.tmp 6) (.cst (.c (.int .i64 1))),none,0⟩])
 (.cond (.tmp 7)
 (.region 0 [] [
 ⟨(some 8),.pick (.cst (.c .any)) (.cst (.c .any)) (.cst (.c .any)),none,0⟩,
 ⟨none,.pick (.cst (.c .any)) (.cst (.c .any)) (.cst (.c .any)),none,0⟩])
 .skip))
 (.seq (.region 0 [] [
 ⟨(some 9),.mov (.tmp 0),none,0⟩,
 ⟨(some 10),.iaddr 1 (.tmp 9) (.cst (.c (.int .i64 0))),none,0⟩,
 ⟨(some 11),.load none (.tmp 10),none,0⟩,
 ⟨(some 3),.mov (.tmp 11),none,0⟩])
 (.seq (.seq (.region 0 [] [
 ⟨(some 4),.mov (.cst (.c (.int .i64 1))),none,0⟩])
 (.block 0 (.loop ⟨[12,13,14,15,16,17,18,19,20,21,22,23],false,[]⟩
 (.seq (.seq (.region 0 [] [
 ⟨(some 12),.mov (.tmp 4),none,0⟩,
 ⟨(some 13),.mov (.tmp 0),none,0⟩,
 ⟨(some 14),.len (.tmp 13),none,0⟩,
 ⟨(some 15),.bin .lss (.tmp 12) (.tmp 14),none,0⟩])
 (.cond (.tmp 15)
 .skip
 (.exit 0)))
 (.seq (.block 1 (.region 0 [] [
 ⟨(some 18),.mov (.tmp 3),none,0⟩,
 ⟨(some 19),.mov (.tmp 0),none,0⟩,
 ⟨(some 20),.mov (.tmp 4),none,0⟩,
 ⟨(some 21),.iaddr 1 (.tmp 19) (.tmp 20),none,0⟩,
 ⟨(some 22),.load none (.tmp 21),none,0⟩,
 ⟨(some 23),.mm false (.tmp 18) (.tmp 22),none,0⟩,
 ⟨(some 3),.mov (.tmp 23),none,0⟩]))
 (.region 0 [] [
 ⟨(some 16),.mov (.tmp 4),none,0⟩,
 ⟨(some 17),.bin .add (.tmp 16) (.cst (.c (.int .i64 1))),none,0⟩,
 ⟨(some 4),.mov (.tmp 17),none,0⟩]))))))
 (.seq (.region 0 [] [
 ⟨(some 24),.mov (.tmp 3),none,0⟩,
 ⟨(some 2),.mov (.tmp 24),none,0⟩])
 .ret)))))⟩
def f135 : AFunc:=⟨95,[.cell 4 (some 4)],false,
 (.seq (.region 2 [] [
 ⟨(some 3),.box (.tmp 1),none,0⟩,
 ⟨(some 4),.alloc [(.int .i64 0),(.int .i64 0),(.int .i64 0),(.int .i64 0)],none,1⟩])
 (.seq (.seq (.region 1 [(0,4),(1,4),(2,4),(3,4),(7,8),(0,9),(1,9),(2,9),(3,9),(4,9),(5,9),(6,9),(7,9),(8,9),(8,10)] [
 ⟨(some 11),.mov (.tmp 0),none,0⟩,
 ⟨(some 12),.nilchk (.tmp 11),none,0⟩,
 ⟨(some 13),.faddr 2 (.tmp 12),none,0⟩,
 ⟨(some 14),.load none (.tmp 13),none,0⟩,
 ⟨(some 15),.load (some 2) (.tmp 3),none,0⟩,
 ⟨(some 16),.lookup true true [(some .i64),(some .i64)] (.agg [(.int .i64 0),(.int .i64 0),(.int .i64 0),(.int .i64 0)]) true (.tmp 14) (.tmp 15),none,0⟩,
 ⟨(some 10),.mov (.tmp 16),none,0⟩,
 ⟨(some 17),.extract 0 (.tmp 10),none,0⟩,
 ⟨(some 18),.extract 1 (.tmp 10),none,0⟩,
 ⟨(some 5),.alloc [(.int .i64 0),(.int .i64 0),(.int .i64 0),(.int .i64 0)],none,0⟩,
 ⟨none,.store (some 4) (.tmp 5) (.tmp 17),none,1⟩,
 ⟨(some 6),.mov (.tmp 18),none,1⟩])
 (.seq (.region 0 [] [
 ⟨(some 19),.mov (.tmp 6),none,0⟩])
 (.cond (.tmp 19)
 (.seq (.region 0 [] [
 ⟨(some 20),.load (some 4) (.tmp 5),none,0⟩,
 ⟨none,.store (some 4) (.tmp 4) (.tmp 20),none,0⟩])
 .ret)
 .skip)))
 (.seq (.region 0 [] [
 ⟨(some 21),.faddr 2 (.tmp 4),none,0⟩,
 ⟨(some 22),.faddr 0 (.tmp 21),none,0⟩,
 ⟨none,.store none (.tmp 22) (.cst (.c (.int .i64 (-1)))),none,0⟩])
 (.seq (.seq (.region 0 [] [
 ⟨(some 23),.mov (.tmp 0),none,0⟩,
 ⟨(some 24),.nilchk (.tmp 23),none,0⟩,
 ⟨(some 25),.faddr 0 (.tmp 24),none,0⟩,
 ⟨(some 26),.load none (.tmp 25),none,0⟩,
 ⟨(some 27),.nilchk (.tmp 26),none,0⟩,
 ⟨(some 28),.faddr 0 (.tmp 27),none,0⟩,
 ⟨(some 29),.faddr 13 (.tmp 28),none,0⟩,
 ⟨(some 30),.load none (.tmp 29),none,0⟩,
 ⟨(some 31),.len (.tmp 30),none,0⟩,
 ⟨(some 32),.mov (.cst (.c (.int .i64 0))),none,0⟩])
 (.block 0 (.loop ⟨[7,8,9,33,34,35,36,37,38,39,40,41,42,43,44,45,46,47,48,49,50,51,52,53,54,55,56,57,58,59,60,61,62,63,64,65,66,67,68,69,70,71,72,73,74,75,76,77,78,79,80,81,82,83,84,85,86,87],false,[]⟩
 (.seq (.region 0 [] [
 ⟨(some 33),.bin .lss (.tmp 32) (.tmp 31),none,0⟩])
 (.seq (.cond (.tmp 33)
 .skip
 (.exit 0))
 (.seq (.block 1 (.seq (.region 0 [] [
 ⟨(some 34),.mov (.tmp 32),none,0⟩,
 ⟨(some 7),.mov (.tmp 34),none,0⟩])
 (.seq (.seq (.region 0 [] [
 ⟨(some 35),.faddr 0 (.tmp 3),none,0⟩,
 ⟨(some 36),.load none (.tmp 35),none,0⟩,
 ⟨(some 37),.mov (.tmp 7),none,0⟩,
 ⟨(some 38),.bin .shr (.tmp 36) (.tmp 37),none,0⟩,
 ⟨(some 39),.bin .rem (.tmp 38) (.cst (.c (.int .i64 2))),none,0⟩,
 ⟨(some 40),.bin .eql (.tmp 39) (.cst (.c (.int .i64 1))),none,0⟩])
 (.cond (.tmp 40)
 (.exit 1)
 .skip))
 (.seq (.region 0 [(0,4),(1,4),(2,4),(3,4),(0,5),(1,5),(2,5),(3,5),(0,8),(1,8),(2,8),(3,8),(4,8),(5,8),(6,8),(7,8)] [
 ⟨(some 41),.mov (.tmp 0),none,0⟩,
 ⟨(some 42),.nilchk (.tmp 41),none,0⟩,
 ⟨(some 43),.faddr 1 (.tmp 42),none,0⟩,
 ⟨(some 44),.load none (.tmp 43),none,0⟩,
 ⟨(some 45),.faddr 1 (.tmp 3),none,0⟩,
 ⟨(some 46),.load none (.tmp 45),none,0⟩,
 ⟨(some 47),.bin .sub (.tmp 44) (.tmp 46),none,0⟩,
 ⟨(some 48),.bin .add (.tmp 47) (.cst (.c (.int .i64 1))),none,0⟩,
 ⟨(some 49),.mov (.cst (.c (.int .i64 0))),none,0⟩])
 (.block 2 (.loop ⟨[8,9,50,51,52,53,54,55,56,57,58,59,60,61,62,63,64,65,66,67,68,69,70,71,72,73,74,75,76,77,78,79,80,81,82,83,84,85,86],false,[]⟩
 (.seq (.region 0 [] [
 ⟨(some 50),.bin .lss (.tmp 49) (.tmp 48),none,0⟩])
 (.seq (.cond (.tmp 50)
 .skip
 (.exit 2))
 (.seq (.block 3 (.seq (.region 0 [] [
 ⟨(some 51),.mov (.tmp 49),none,0⟩,
 ⟨(some 8),.mov (.tmp 51),none,0⟩])
 (.seq (.region 1 [(0,1),(0,2),(0,3),(1,3),(2,3),(0,4),(1,4),(2,4),(0,5),(0,6),(1,6),(2,6),(3,6),(4,6),(5,6),(0,7),(1,7),(2,7),(3,7),(4,7),(5,7),(0,8),(1,8),(2,8),(3,8),(4,8),(5,8),(6,8),(7,8),(0,9),(1,9),(2,9),(3,9),(4,9),(5,9),(0,10),(0,12),(1,12),(2,12),(3,12),(4,12),(5,12),(6,12),(7,12),(8,12),(9,12),(10,12)] [
 ⟨(some 52),.mov (.tmp 0),none,0⟩,
 ⟨(some 53),.faddr 0 (.tmp 3),none,0⟩,
 ⟨(some 54),.load none (.tmp 53),none,0⟩,
 ⟨(some 55),.mov (.tmp 7),none,0⟩,
 ⟨(some 56),.bin .shl (.cst (.c (.int .i64 1))) (.tmp 55),none,0⟩,
 ⟨(some 57),.bin .or (.tmp 54) (.tmp 56),none,0⟩,
 ⟨(some 58),.faddr 1 (.tmp 3),none,0⟩,
 ⟨(some 59),.load none (.tmp 58),none,0⟩,
 ⟨(some 60),.mov (.tmp 8),none,0⟩,
 ⟨(some 61),.bin .add (.tmp 59) (.tmp 60),none,0⟩,
 ⟨(some 62),.build [(.int .i64 0),(.int .i64 0)] [(0,1,(.tmp 57)),(1,1,(.tmp 61))],none,0⟩,
 ⟨(some 63),.call 135 false [(.tmp 52),(.tmp 62)],none,0⟩,
 ⟨(some 9),.alloc [(.int .i64 0),(.int .i64 0),(.int .i64 0),(.int .i64 0)],none,0⟩,
 ⟨none,.store (some 4) (.tmp 9) (.tmp 63),none,1⟩])
 (.seq (.region 0 [(0,2),(1,2),(0,3),(1,3),(2,3),(0,4),(1,4),(2,4),(3,4),(0,5),(1,5),(2,5),(3,5),(0,6),(1,6),(2,6),(3,6),(4,6),(5,6),(0,7),(1,7),(2,7),(0,8),(1,8),(0,10),(1,10),(2,10),(3,10),(4,10),(5,10),(6,10),(7,10),(8,10),(9,10),(0,11),(1,11),(2,11),(3,11),(4,11),(5,11),(6,11),(7,11),(8,11),(9,11),(0,12),(1,12),(2,12),(3,12),(4,12),(5,12),(6,12),(7,12),(8,12),(9,12),(10,12),(11,12),(0,13),(1,13),(2,13),(3,13),(4,13),(5,13),(6,13),(7,13),(8,13),(9,13),(0,14),(1,14),(2,14),(3,14),(4,14),(5,14),(6,14),(7,14),(8,14),(9,14),(10,14),(11,14),(12,14),(13,14),(0,15),(1,15),(2,15),(3,15),(4,15),(5,15),(6,15),(7,15),(8,15),(9,15),(10,15),(11,15),(12,15),(13,15),(14,15),(0,16),(1,16),(2,16),(3,16),(4,16),(5,16),(6,16),(7,16),(8,16),(9,16),(10,16),(11,16),(12,16),(13,16)] [
 ⟨(some 64),.faddr 0 (.tmp 9),none,0⟩,
 ⟨(some 65),.load none (.tmp 64),none,0⟩,
 ⟨(some 66),.mov (.tmp 0),none,0⟩,
 ⟨(some 67),.mov (.tmp 7),none,0⟩,
 ⟨(some 68),.faddr 1 (.tmp 3),none,0⟩,
 ⟨(some 69),.load none (.tmp 68),none,0⟩,
 ⟨(some 70),.mov (.tmp 8),none,0⟩,
 ⟨(some 71),.build [(.int .i64 0),(.int .i64 0),(.int .i64 0)] [(0,1,(.tmp 67)),(1,1,(.tmp 69)),(2,1,(.tmp 70))],none,0⟩,
 ⟨(some 72),.call 169 false [(.tmp 66),(.tmp 71)],none,0⟩,
 ⟨(some 73),.bin .add (.tmp 65) (.tmp 72),none,0⟩,
 ⟨(some 74),.faddr 1 (.tmp 9),none,0⟩,
 ⟨(some 75),.load none (.tmp 74),none,0⟩,
 ⟨(some 76),.mov (.tmp 8),none,0⟩,
 ⟨(some 77),.bin .add (.tmp 75) (.tmp 76),none,0⟩,
 ⟨(some 78),.mov (.tmp 7),none,0⟩,
 ⟨(some 79),.mov (.tmp 8),none,0⟩,
 ⟨(some 80),.build [(.int .i64 0),(.int .i64 0)] [(0,1,(.tmp 78)),(1,1,(.tmp 79))],none,0⟩,
 ⟨(some 81),.build [(.int .i64 0),(.int .i64 0),(.int .i64 0),(.int .i64 0)] [(0,1,(.tmp 73)),(1,1,(.tmp 77)),(2,2,(.tmp 80))],none,0⟩,
 ⟨none,.store (some 4) (.tmp 9) (.tmp 81),none,0⟩])
 (.seq (.region 0 [] [
 ⟨(some 82),.load (some 4) (.tmp 9),none,0⟩,
 ⟨(some 83),.load (some 4) (.tmp 4),none,0⟩,
 ⟨(some 84),.call 170 true [(.tmp 82),(.tmp 83)],none,0⟩])
 (.cond (.tmp 84)
 (.region 0 [] [
 ⟨(some 85),.load (some 4) (.tmp 9),none,0⟩,
 ⟨none,.store (some 4) (.tmp 4) (.tmp 85),none,0⟩])
 .skip))))))
 (.region 0 [] [
 ⟨(some 86),.bin .add (.tmp 49) (.cst (.c (.int .i64 1))),none,0⟩,
 ⟨(some 49),.mov (.tmp 86),none,0⟩]))))))))))
 (.region 0 [] [
 ⟨(some 87),.bin .add (.tmp 32) (.cst (.c (.int .i64 1))),none,0⟩,
 ⟨(some 32),.mov (.tmp 87),none,0⟩])))))))
 (.seq (.region 0 [(0,4),(1,4),(2,4),(3,4),(0,5),(1,5),(2,5),(3,5),(4,5)] [
 ⟨(some 88),.mov (.tmp 0),none,0⟩,
 ⟨(some 89),.nilchk (.tmp 88),none,0⟩,
 ⟨(some 90),.faddr 2 (.tmp 89),none,0⟩,
 ⟨(some 91),.load none (.tmp 90),none,0⟩,
 ⟨(some 92),.load (some 2) (.tmp 3),none,0⟩,
 ⟨(some 93),.load (some 4) (.tmp 4),none,0⟩,
 ⟨none,.mapupd true true [(some .i64),(some .i64)] (.tmp 91) (.tmp 92) (.tmp 93),none,0⟩])
 (.seq (.region 0 [] [
 ⟨(some 94),.load (some 4) (.tmp 4),none,0⟩,
 ⟨none,.store (some 4) (.tmp 4) (.tmp 94),none,0⟩])
 .ret))))))⟩
def f136 : AFunc:=⟨14,[.tmp 4],false,
 (.seq (.region 2 [] [
 ⟨(some 2),.box (.tmp 0),none,0⟩,
 ⟨(some 3),.box (.tmp 1),none,1⟩,
 ⟨(some 4),.mov (.cst (.c (.bool false))),none,2⟩])
 (.seq (.region 0 [] [
 ⟨(some 5),.load (some 12) (.tmp 2),none,0⟩,
 ⟨(some 6),.faddr 0 (.tmp 3),none,0⟩,
 ⟨(some 7),.load none (.tmp 6),none,0⟩,
 ⟨(some 8),.call 98 true [(.tmp 5),(.tmp 7)],none,0⟩,
 ⟨(some 9),.mov (.tmp 8),none,0⟩,
 ⟨(some 10),.faddr 2 (.tmp 3),some (9,true),0⟩,
 ⟨(some 11),.load (some 2) (.tmp 10),some (9,true),0⟩,
 ⟨(some 12),.call 171 true [(.tmp 11),(.cst (.c (.int .i64 (-5000)))),(.cst (.c (.int .i64 5000)))],some (9,true),0⟩,
 ⟨(some 13),.pick (.tmp 9) (.tmp 12) (.cst (.c (.bool false))),none,0⟩,
 ⟨(some 4),.mov (.tmp 13),none,0⟩])
 .ret))⟩
def f137 : AFunc:=⟨31,[.tmp 2],false,
 (.seq (.region 1 [] [
 ⟨(some 1),.box (.tmp 0),none,0⟩,
 ⟨(some 2),.mov (.cst (.c (.bool false))),none,1⟩])
 (.seq (.region 0 [] [
 ⟨(some 3),.faddr 0 (.tmp 1),none,0⟩,
 ⟨(some 4),.load none (.tmp 3),none,0⟩,
 ⟨(some 5),.bin .geq (.tmp 4) (.cst (.c (.int .i64 0))),none,0⟩,
 ⟨(some 6),.mov (.tmp 5),none,0⟩,
 ⟨(some 7),.faddr 1 (.tmp 1),some (6,true),0⟩,
 ⟨(some 8),.load none (.tmp 7),some (6,true),0⟩,
 ⟨(some 9),.call 148 true [(.tmp 8),(.cst (.c (.int .i64 0))),(.cst (.c (.int .i64 20)))],some (6,true),0⟩,
 ⟨(some 10),.pick (.tmp 6) (.tmp 9) (.cst (.c (.bool false))),none,0⟩,
 ⟨(some 11),.mov (.tmp 10),none,0⟩,
 ⟨(some 12),.faddr 2 (.tmp 1),some (11,true),0⟩,
 ⟨(some 13),.load (some 2) (.tmp 12),some (11,true),0⟩,
 ⟨(some 14),.call 171 true [(.tmp 13),(.cst (.c (.int .i64 (-50)))),(.cst (.c (.int .i64 50)))],some (11,true),0⟩,
 ⟨(some 15),.pick (.tmp 11) (.tmp 14) (.cst (.c (.bool false))),none,0⟩,
 ⟨(some 16),.mov (.tmp 15),none,0⟩,
 ⟨(some 17),.faddr 4 (.tmp 1),some (16,true),0⟩,
 ⟨(some 18),.load (some 2) (.tmp 17),some (16,true),0⟩,
 ⟨(some 19),.call 171 true [(.tmp 18),(.cst (.c (.int .i64 0))),(.cst (.c (.int .i64 999)))],some (16,true),0⟩,
 ⟨(some 20),.pick (.tmp 16) (.tmp 19) (.cst (.c (.bool false))),none,0⟩,
 ⟨(some 21),.mov (.tmp 20),none,0⟩,
 ⟨(some 22),.faddr 6 (.tmp 1),some (21,true),0⟩,
 ⟨(some 23),.load none (.tmp 22),some (21,true),0⟩,
 ⟨(some 24),.call 148 true [(.tmp 23),(.cst (.c (.int .i64 0))),(.cst (.c (.int .i64 50)))],some (21,true),0⟩,
 ⟨(some 25),.pick (.tmp 21) (.tmp 24) (.cst (.c (.bool false))),none,0⟩,
 ⟨(some 26),.mov (.tmp 25),none,0⟩,
 ⟨(some 27),.faddr 7 (.tmp 1),some (26,true),0⟩,
 ⟨(some 28),.load none (.tmp 27),some (26,true),0⟩,
 ⟨(some 29),.call 148 true [(.tmp 28),(.cst (.c (.int .i64 0))),(.cst (.c (.int .i64 50)))],some (26,true),0⟩,
 ⟨(some 30),.pick (.tmp 26) (.tmp 29) (.cst (.c (.bool false))),none,0⟩,
 ⟨(some 2),.mov (.tmp 30),none,0⟩])
 .ret))⟩
def f138 : AFunc:=⟨9,[.tmp 4],false,
 (.seq (.region 1 [] [
 ⟨(some 3),.box (.tmp 1),none,0⟩,
 ⟨(some 4),.mov (.cst (.c (.bool false))),none,1⟩])
 (.seq (.region 0 [] [
 ⟨(some 5),.mov (.tmp 0),none,0⟩,
 ⟨(some 6),.mkfn 173 none [(.tmp 3)],none,0⟩,
 ⟨(some 7),.call 172 false [(.tmp 5),(.tmp 6)],none,0⟩,
 ⟨(some 8),.not (.tmp 7),none,0⟩,
 ⟨(some 4),.mov (.tmp 8),none,0⟩])
 .ret))⟩
def f139 : AFunc:=⟨5,[.tmp 2],true,
 (.seq (.region 1 [] [
 ⟨(some 1),.box (.tmp 0),none,0⟩,
 ⟨(some 2),.mov (.cst (.c (.bool false))),none,1⟩])
 (.seq (.region 0 [] [
 ⟨(some 3),.load (some 2) (.tmp 1),none,0⟩,
 ⟨(some 4),.call 171 true [(.tmp 3),(.cst (.c (.int .i64 (-9)))),(.cst (.c (.int .i64 9)))],none,0⟩,
 ⟨(some 2),.mov (.tmp 4),none,0⟩])
 .ret))⟩
def f140 : AFunc:=⟨9,[.tmp 4],false,
 (.seq (.region 1 [] [
 ⟨(some 3),.box (.tmp 1),none,0⟩,
 ⟨(some 4),.mov (.cst (.c (.bool false))),none,1⟩])
 (.seq (.region 0 [] [
 ⟨(some 5),.mov (.tmp 0),none,0⟩,
 ⟨(some 6),.mkfn 175 none [(.tmp 3)],none,0⟩,
 ⟨(some 7),.call 174 false [(.tmp 5),(.tmp 6)],none,0⟩,
 ⟨(some 8),.not (.tmp 7),none,0⟩,
 ⟨(some 4),.mov (.tmp 8),none,0⟩])
 .ret))⟩
def f141 : AFunc:=⟨16,[.tmp 2],true,
 (.seq (.region 1 [] [
 ⟨(some 1),.box (.tmp 0),none,0⟩,
 ⟨(some 2),.mov (.cst (.c (.bool false))),none,1⟩])
 (.seq (.region 0 [] [
 ⟨(some 3),.faddr 0 (.tmp 1),none,0⟩,
 ⟨(some 4),.load none (.tmp 3),none,0⟩,
 ⟨(some 5),.call 176 true [(.tmp 4)],none,0⟩,
 ⟨(some 6),.mov (.tmp 5),none,0⟩,
 ⟨(some 7),.faddr 1 (.tmp 1),some (6,true),0⟩,
 ⟨(some 8),.load none (.tmp 7),some (6,true),0⟩,
 ⟨(some 9),.call 176 true [(.tmp 8)],some (6,true),0⟩,
 ⟨(some 10),.pick (.tmp 6) (.tmp 9) (.cst (.c (.bool false))),none,0⟩,
 ⟨(some 11),.mov (.tmp 10),none,0⟩,
 ⟨(some 12),.faddr 2 (.tmp 1),some (11,true),0⟩,
 ⟨(some 13),.load none (.tmp 12),some (11,true),0⟩,
 ⟨(some 14),.call 176 true [(.tmp 13)],some (11,true),0⟩,
 ⟨(some 15),.pick (.tmp 11) (.tmp 14) (.cst (.c (.bool false))),none,0⟩,
 ⟨(some 2),.mov (.tmp 15),none,0⟩])
 .ret))⟩
def f142 : AFunc:=⟨9,[.tmp 4],false,
 (.seq (.region 1 [] [
 ⟨(some 3),.box (.tmp 1),none,0⟩,
 ⟨(some 4),.mov (.cst (.c (.bool false))),none,1⟩])
 (.seq (.region 0 [] [
 ⟨(some 5),.mov (.tmp 0),none,0⟩,
 ⟨(some 6),.mkfn 177 none [(.tmp 3)],none,0⟩,
 ⟨(some 7),.call 167 false [(.tmp 5),(.tmp 6)],none,0⟩,
 ⟨(some 8),.not (.tmp 7),none,0⟩,
 ⟨(some 4),.mov (.tmp 8),none,0⟩])
 .ret))⟩
def f143 : AFunc:=⟨9,[.tmp 4],false,
 (.seq (.region 1 [] [
 ⟨(some 3),.box (.tmp 1),none,0⟩,
 ⟨(some 4),.mov (.cst (.c (.bool false))),none,1⟩])
 (.seq (.region 0 [] [
 ⟨(some 5),.mov (.tmp 0),none,0⟩,
 ⟨(some 6),.mkfn 179 none [(.tmp 3)],none,0⟩,
 ⟨(some 7),.call 178 false [(.tmp 5),(.tmp 6)],none,0⟩,
 ⟨(some 8),.not (.tmp 7),none,0⟩,
 ⟨(some 4),.mov (.tmp 8),none,0⟩])
 .ret))⟩
def f144 : AFunc:=⟨11,[.tmp 2],false,
 (.seq (.region 1 [] [
 ⟨(some 1),.box (.tmp 0),none,0⟩,
 ⟨(some 2),.mov (.cst (.c .nils)),none,1⟩])
 (.seq (.region 2 [] [
 ⟨(some 3),.faddr 2 (.tmp 1),none,0⟩,
 ⟨(some 4),.load (some 2) (.tmp 3),none,0⟩,
 ⟨(some 5),.faddr 4 (.tmp 1),none,0⟩,
 ⟨(some 6),.load (some 2) (.tmp 5),none,0⟩,
 ⟨(some 7),.bslice 2 2 [(.int .i64 0),(.int .i64 0)] [(0,(.tmp 4)),(1,(.tmp 6))],none,0⟩,
 ⟨(some 8),.faddr 8 (.tmp 1),none,1⟩,
 ⟨(some 9),.load none (.tmp 8),none,1⟩,
 ⟨(some 10),.append 2 16 (.tmp 7) (.tmp 9),none,1⟩,
 ⟨(some 2),.mov (.tmp 10),none,2⟩])
 .ret))⟩
def f145 : AFunc:=⟨5,[.tmp 2],false,
 (.seq (.region 0 [] [
 ⟨(some 2),.mov (.cst (.c (.int .i64 0))),none,0⟩])
 (.seq (.region 0 [] [
 ⟨(some 3),.mov (.tmp 0),none,0⟩,
 ⟨(some 4),.call 134 true [(.tmp 3)],none,0⟩,
 ⟨(some 2),.mov (.tmp 4),none,0⟩])
 .ret))⟩
def f146 : AFunc:=⟨9,[.tmp 2],false,
 (.seq (.region 1 [] [
 ⟨(some 1),.box (.tmp 0),none,0⟩,
 ⟨(some 2),.mov (.cst (.c (.int .i64 0))),none,1⟩])
 (.seq (.region 0 [] [
 ⟨(some 3),.faddr 1 (.tmp 1),none,0⟩,
 ⟨(some 4),.load none (.tmp 3),none,0⟩,
 ⟨(some 5),.faddr 0 (.tmp 1),none,0⟩,
 ⟨(some 6),.load none (.tmp 5),none,0⟩,
 ⟨(some 7),.bin .sub (.tmp 4) (.tmp 6),none,0⟩,
 ⟨(some 8),.bin .add (.tmp 7) (.cst (.c (.int .i64 1))),none,0⟩,
 ⟨(some 2),.mov (.tmp 8),none,0⟩])
 .ret))⟩
def f147 : AFunc:=⟨11,[.tmp 4],false,
 (.seq (.region 1 [] [
 ⟨(some 2),.box (.tmp 0),none,0⟩,
 ⟨(some 4),.mov (.cst (.c (.bool false))),none,1⟩])
 (.seq (.region 0 [] [
 ⟨(some 5),.mov (.tmp 1),none,0⟩,
 ⟨(some 6),.faddr 0 (.tmp 2),none,0⟩,
 ⟨(some 7),.load none (.tmp 6),none,0⟩,
 ⟨(some 8),.faddr 1 (.tmp 2),none,0⟩,
 ⟨(some 9),.load none (.tmp 8),none,0⟩,
 ⟨(some 10),.call 148 true [(.tmp 5),(.tmp 7),(.tmp 9)],none,0⟩,
 ⟨(some 4),.mov (.tmp 10),none,0⟩])
 .ret))⟩
def f148 : AFunc:=⟨15,[.tmp 6],false,
 (.seq (.region 0 [] [
 ⟨(some 6),.mov (.cst (.c (.bool false))),none,0⟩])
 (.seq (.region 0 [] [
 ⟨(some 7),.mov (.tmp 1),none,0⟩,
 ⟨(some 8),.mov (.tmp 0),none,0⟩,
 ⟨(some 9),.bin .leq (.tmp 7) (.tmp 8),none,0⟩,
 ⟨(some 10),.mov (.tmp 9),none,0⟩,
 ⟨(some 11),.mov (.tmp 0),some (10,true),0⟩,
 ⟨(some 12),.mov (.tmp 2),some (10,true),0⟩,
 ⟨(some 13),.bin .leq (.tmp 11) (.tmp 12),some (10,true),0⟩,
 ⟨(some 14),.pick (.tmp 10) (.tmp 13) (.cst (.c (.bool false))),none,0⟩,
 ⟨(some 6),.mov (.tmp 14),none,0⟩])
 .ret))⟩
def f149 : AFunc:=⟨12,[.tmp 4],false,
 (.seq (.region 1 [] [
 ⟨(some 2),.box (.tmp 0),none,0⟩,
 ⟨(some 4),.mov (.cst (.c (.bool false))),none,1⟩])
 (.seq (.region 0 [] [
 ⟨(some 5),.mov (.tmp 1),none,0⟩,
 ⟨(some 6),.faddr 1 (.tmp 2),none,0⟩,
 ⟨(some 7),.load none (.tmp 6),none,0⟩,
 ⟨(some 8),.neg (.tmp 7),none,0⟩,
 ⟨(some 9),.faddr 1 (.tmp 2),none,0⟩,
 ⟨(some 10),.load none (.tmp 9),none,0⟩,
 ⟨(some 11),.call 148 true [(.tmp 5),(.tmp 8),(.tmp 10)],none,0⟩,
 ⟨(some 4),.mov (.tmp 11),none,0⟩])
 .ret))⟩
def f150 : AFunc:=⟨44,[.tmp 4,.cell 5 (some 2)],false,
 (.seq (.region 2 [] [
 ⟨(some 3),.box (.tmp 1),none,0⟩,
 ⟨(some 4),.mov (.cst (.c (.int .i64 0))),none,1⟩,
 ⟨(some 5),.alloc [(.int .i64 0),(.bool false)],none,1⟩])
 (.seq (.region 0 [(0,4),(1,4),(2,4),(3,4),(7,8),(8,9)] [
 ⟨(some 9),.mov (.tmp 0),none,0⟩,
 ⟨(some 10),.nilchk (.tmp 9),none,0⟩,
 ⟨(some 11),.faddr 12 (.tmp 10),none,0⟩,
 ⟨(some 12),.load none (.tmp 11),none,0⟩,
 ⟨(some 13),.load (some 2) (.tmp 3),none,0⟩,
 ⟨(some 14),.lookup true false [(some .i64),none] (.c (.int .i64 0)) true (.tmp 12) (.tmp 13),none,0⟩,
 ⟨(some 8),.mov (.tmp 14),none,0⟩,
 ⟨(some 15),.extract 0 (.tmp 8),none,0⟩,
 ⟨(some 16),.extract 1 (.tmp 8),none,0⟩,
 ⟨(some 4),.mov (.tmp 15),none,0⟩,
 ⟨(some 6),.mov (.tmp 16),none,0⟩])
 (.seq (.seq (.region 0 [] [
 ⟨(some 17),.mov (.tmp 6),none,0⟩,
 ⟨(some 18),.not (.tmp 17),none,0⟩])
 (.cond (.tmp 18)
 (.seq (.region 0 [] [
 ⟨(some 7),.mov (.cst (.c (.int .i64 20))),none,0⟩])
 (.seq (.seq (.region 0 [] [
 ⟨(some 19),.faddr 1 (.tmp 3),none,0⟩,
 ⟨(some 20),.load none (.tmp 19),none,0⟩])
 (.cond (.tmp 20)
 (.region 0 [] [
 ⟨(some 7),.mov (.cst (.c (.int .i64 10))),none,0⟩])
 .skip))
 (.seq (.region 0 [] [
 ⟨(some 21),.faddr 0 (.tmp 3),none,0⟩,
 ⟨(some 22),.load none (.tmp 21),none,0⟩,
 ⟨(some 23),.mov (.tmp 7),none,0⟩,
 ⟨(some 24),.bin .quo (.tmp 22) (.tmp 23),none,0⟩,
 ⟨(some 4),.mov (.tmp 24),none,0⟩])
 (.region 0 [(0,4),(1,4),(2,4),(3,4),(0,5),(1,5),(2,5),(3,5),(4,5)] [
 ⟨(some 25),.mov (.tmp 0),none,0⟩,
 ⟨(some 26),.nilchk (.tmp 25),none,0⟩,
 ⟨(some 27),.faddr 12 (.tmp 26),none,0⟩,
 ⟨(some 28),.load none (.tmp 27),none,0⟩,
 ⟨(some 29),.load (some 2) (.tmp 3),none,0⟩,
 ⟨(some 30),.mov (.tmp 4),none,0⟩,
 ⟨none,.mapupd true false [(some .i64),none] (.tmp 28) (.tmp 29) (.tmp 30),none,0⟩]))))
 .skip))
 (.seq (.region 0 [(0,1),(0,2),(0,3),(1,3),(2,3),(0,4),(1,4),(2,4),(0,5),(1,5),(2,5),(0,6),(1,6),(2,6),(0,7),(1,7),(2,7),(0,8),(0,9),(0,10),(1,10),(2,10),(3,10),(4,10),(5,10),(6,10),(7,10),(8,10),(9,10),(0,11),(1,11),(2,11),(3,11),(4,11),(5,11),(6,11),(7,11),(8,11),(9,11),(0,12),(1,13),(2,13),(3,13),(4,13),(5,13),(6,13),(7,13),(8,13),(9,13),(10,13),(11,13),(12,13)] [
 ⟨(some 31),.mov (.tmp 4),none,0⟩,
 ⟨(some 32),.faddr 0 (.tmp 3),none,0⟩,
 ⟨(some 33),.load none (.tmp 32),none,0⟩,
 ⟨(some 34),.mov (.tmp 0),none,0⟩,
 ⟨(some 35),.nilchk (.tmp 34),none,0⟩,
 ⟨(some 36),.faddr 0 (.tmp 35),none,0⟩,
 ⟨(some 37),.faddr 7 (.tmp 36),none,0⟩,
 ⟨(some 38),.load none (.tmp 37),none,0⟩,
 ⟨(some 39),.bin .sub (.tmp 33) (.tmp 38),none,0⟩,
 ⟨(some 40),.mm true (.cst (.c (.int .i64 0))) (.tmp 39),none,0⟩,
 ⟨(some 41),.faddr 1 (.tmp 3),none,0⟩,
 ⟨(some 42),.load none (.tmp 41),none,0⟩,
 ⟨(some 43),.build [(.int .i64 0),(.bool false)] [(0,1,(.tmp 40)),(1,1,(.tmp 42))],none,0⟩,
 ⟨(some 4),.mov (.tmp 31),none,0⟩,
 ⟨none,.store (some 2) (.tmp 5) (.tmp 43),none,0⟩])
 .ret))))⟩
def f151 : AFunc:=⟨5,[.tmp 2],false,
 (.seq (.region 0 [] [
 ⟨(some 2),.mov (.cst (.c .nils)),none,0⟩])
 (.seq (.region 0 [] [
 ⟨(some 3),.mov (.tmp 0),none,0⟩,
 ⟨(some 4),.call 180 false [(.cst (.c .nils)),(.tmp 3)],none,0⟩,
 ⟨(some 2),.mov (.tmp 4),none,0⟩])
 .ret))⟩
def f152 : AFunc:=⟨6,[.tmp 4],false,
 (.seq (.region 2 [] [
 ⟨(some 2),.box (.tmp 0),none,0⟩,
 ⟨(some 3),.box (.tmp 1),none,1⟩,
 ⟨(some 4),.mov (.cst (.c .nilfn)),none,2⟩])
 (.seq (.region 0 [] [
 ⟨(some 5),.mkfn 181 none [(.tmp 3),(.tmp 2)],none,0⟩,
 ⟨(some 4),.mov (.tmp 5),none,0⟩])
 .ret))⟩
def f153 : AFunc:=⟨10,[.cell 4 none],false,
 (.seq (.region 1 [] [
 ⟨(some 4),.alloc [(.bool false)],none,0⟩])
 (.seq (.seq (.region 0 [] [
 ⟨(some 5),.mov (.tmp 0),none,0⟩,
 ⟨(some 6),.mov (.tmp 1),none,0⟩,
 ⟨(some 7),.call 154 false [(.tmp 5),(.tmp 6)],none,0⟩])
 (.block 0 (.range (.tmp 7) [8,9]
 .skip
 (.block 1 (.seq (.region 0 [] [
 ⟨none,.store none (.tmp 4) (.cst (.c (.bool true))),none,0⟩])
 .ret)))))
 (.seq (.region 0 [] [
 ⟨none,.store none (.tmp 4) (.cst (.c (.bool false))),none,0⟩])
 .ret)))⟩
def f154 : AFunc:=⟨6,[.tmp 4],false,
 (.seq (.region 2 [] [
 ⟨(some 2),.box (.tmp 0),none,0⟩,
 ⟨(some 3),.box (.tmp 1),none,1⟩,
 ⟨(some 4),.mov (.cst (.c .nilfn)),none,2⟩])
 (.seq (.region 0 [] [
 ⟨(some 5),.mkfn 182 none [(.tmp 2),(.tmp 3)],none,0⟩,
 ⟨(some 4),.mov (.tmp 5),none,0⟩])
 .ret))⟩
def f155 : AFunc:=⟨15,[.cell 4 (some 2)],false,
 (.seq (.region 2 [] [
 ⟨(some 2),.box (.tmp 0),none,0⟩,
 ⟨(some 4),.alloc [(.int .i64 0),(.int .i64 0)],none,1⟩])
 (.seq (.region 1 [(0,2),(1,2),(0,5),(1,5),(2,5),(3,5),(4,5),(0,6),(1,6),(2,6),(3,6),(4,6),(0,7),(1,7),(2,7),(3,7),(4,7),(5,7),(6,7),(0,8),(1,8),(2,8),(3,8),(4,8)] [
 ⟨(some 5),.faddr 0 (.tmp 2),none,0⟩,
 ⟨(some 6),.load none (.tmp 5),none,0⟩,
 ⟨(some 7),.mov (.tmp 1),none,0⟩,
 ⟨(some 8),.bslice 1 2 [(.int .i64 0)] [(0,(.tmp 6)),(1,(.tmp 7))],none,0⟩,
 ⟨(some 9),.call 145 true [(.tmp 8)],none,1⟩,
 ⟨(some 10),.faddr 1 (.tmp 2),none,1⟩,
 ⟨(some 11),.load none (.tmp 10),none,1⟩,
 ⟨(some 12),.mov (.tmp 1),none,1⟩,
 ⟨(some 13),.mm true (.tmp 11) (.tmp 12),none,1⟩,
 ⟨(some 14),.build [(.int .i64 0),(.int .i64 0)] [(0,1,(.tmp 9)),(1,1,(.tmp 13))],none,1⟩,
 ⟨none,.store (some 2) (.tmp 4) (.tmp 14),none,1⟩])
 .ret))⟩
def f158 : AFunc:=⟨8,[.tmp 3],false,
 (.seq (.region 1 [] [
 ⟨(some 2),.box (.tmp 0),none,0⟩,
 ⟨(some 3),.mov (.cst (.c (.bool false))),none,1⟩])
 (.seq (.region 0 [] [
 ⟨(some 4),.load none (.tmp 1),none,0⟩,
 ⟨(some 5),.load (some 2) (.tmp 2),none,0⟩,
 ⟨(some 6),.callv (.tmp 4) [(.tmp 5)],none,0⟩,
 ⟨(some 7),.not (.tmp 6),none,0⟩,
 ⟨(some 3),.mov (.tmp 7),none,0⟩])
 .ret))⟩
def f160 : AFunc:=⟨12,[.tmp 4],false,
 (.seq (.region 0 [] [
 ⟨(some 4),.mov (.cst (.c (.int .i64 0))),none,0⟩])
 (.seq (.region 0 [(0,2),(1,2),(0,3),(1,3),(2,3),(0,4),(1,4),(0,5),(1,5)] [
 ⟨(some 5),.faddr 0 (.tmp 1),none,0⟩,
 ⟨(some 6),.load none (.tmp 5),none,0⟩,
 ⟨(some 7),.mov (.tmp 0),none,0⟩,
 ⟨(some 8),.load none (.tmp 2),none,0⟩,
 ⟨(some 9),.iaddr 2 (.tmp 7) (.tmp 8),none,0⟩,
 ⟨(some 10),.load (some 2) (.tmp 9),none,0⟩,
 ⟨(some 11),.callv (.tmp 6) [(.tmp 10)],none,0⟩,
 ⟨(some 4),.mov (.tmp 11),none,0⟩])
 .ret))⟩
def f161 : AFunc:=⟨19,[.tmp 4],false,
 (.seq (.region 0 [] [
 ⟨(some 4),.mov (.cst (.c (.int .i64 0))),none,0⟩])
 (.seq (.seq (.region 0 [] [
 ⟨(some 6),.mov (.tmp 0),none,0⟩,
 ⟨(some 7),.len (.tmp 6),none,0⟩,
 ⟨(some 8),.mov (.cst (.c (.int .i64 0))),none,0⟩])
 (.block 0 (.loop ⟨[4,5,9,10,11,12,13,14,15,16,17,18],false,[]⟩
 (.seq (.region 0 [] [
 ⟨(some 9),.bin .lss (.tmp 8) (.tmp 7),none,0⟩])
 (.seq (.cond (.tmp 9)
 .skip
 (.exit 0))
 (.seq (.block 1 (.seq (.region 0 [] [
 ⟨(some 10),.mov (.tmp 8),none,0⟩,
 ⟨(some 5),.mov (.tmp 10),none,0⟩])
 (.seq (.region 0 [] [
 ⟨(some 11),.mov (.tmp 1),none,0⟩,
 ⟨(some 12),.mov (.tmp 0),none,0⟩,
 ⟨(some 13),.mov (.tmp 5),none,0⟩,
 ⟨(some 14),.iaddr 2 (.tmp 12) (.tmp 13),none,0⟩,
 ⟨(some 15),.load (some 2) (.tmp 14),none,0⟩,
 ⟨(some 16),.callv (.tmp 11) [(.tmp 15)],none,0⟩])
 (.cond (.tmp 16)
 (.seq (.region 0 [] [
 ⟨(some 17),.mov (.tmp 5),none,0⟩,
 ⟨(some 4),.mov (.tmp 17),none,0⟩])
 .ret)
 .skip))))
 (.region 0 [] [
 ⟨(some 18),.bin .add (.tmp 8) (.cst (.c (.int .i64 1))),none,0⟩,
 ⟨(some 8),.mov (.tmp 18),none,0⟩])))))))
 (.seq (.region 0 [] [
 ⟨(some 4),.mov (.cst (.c (.int .i64 (-1)))),none,0⟩])
 .ret)))⟩
def f162 : AFunc:=⟨40,[],false,
 (.seq (.region 1 [] [
 ⟨(some 2),.box (.tmp 0),none,0⟩])
 (.seq (.region 1 [] [
 ⟨(some 8),.faddr 0 (.tmp 1),none,0⟩,
 ⟨(some 9),.load (some 12) (.tmp 8),none,0⟩,
 ⟨(some 3),.alloc [(.int .i64 0),(.int .i64 0),(.int .i64 0),(.int .i64 0),(.int .i64 0),(.int .i64 0),(.int .i64 0),(.int .i64 0),.nils,.nils,.nils,.nils],none,0⟩,
 ⟨none,.store (some 12) (.tmp 3) (.tmp 9),none,1⟩])
 (.seq (.region 2 [] [
 ⟨(some 10),.faddr 8 (.tmp 3),none,0⟩,
 ⟨(some 11),.load none (.tmp 10),none,0⟩,
 ⟨(some 12),.len (.tmp 11),none,0⟩,
 ⟨(some 13),.mkslice 1 8 [(.int .i64 0)] (.tmp 12),none,0⟩,
 ⟨(some 4),.alloc [.nils],none,1⟩,
 ⟨none,.store none (.tmp 4) (.tmp 13),none,2⟩])
 (.seq (.region 1 [] [
 ⟨(some 14),.faddr 2 (.tmp 3),none,0⟩,
 ⟨(some 15),.faddr 0 (.tmp 14),none,0⟩,
 ⟨(some 16),.load none (.tmp 15),none,0⟩,
 ⟨(some 5),.alloc [(.int .i64 0)],none,0⟩,
 ⟨none,.store none (.tmp 5) (.tmp 16),none,1⟩])
 (.block 0 (.loop ⟨[6,7,17,18,19,20,21,22,23,24,25,26,27,28,29,30,31,32,33,34,35,36,37,38,39],false,[]⟩
 (.seq (.seq (.region 0 [] [
 ⟨(some 17),.load none (.tmp 5),none,0⟩,
 ⟨(some 18),.faddr 2 (.tmp 3),none,0⟩,
 ⟨(some 19),.faddr 1 (.tmp 18),none,0⟩,
 ⟨(some 20),.load none (.tmp 19),none,0⟩,
 ⟨(some 21),.bin .leq (.tmp 17) (.tmp 20),none,0⟩])
 (.cond (.tmp 21)
 .skip
 (.exit 0)))
 (.seq (.block 1 (.seq (.region 1 [] [
 ⟨(some 24),.faddr 4 (.tmp 3),none,0⟩,
 ⟨(some 25),.faddr 0 (.tmp 24),none,0⟩,
 ⟨(some 26),.load none (.tmp 25),none,0⟩,
 ⟨(some 6),.alloc [(.int .i64 0)],none,0⟩,
 ⟨none,.store none (.tmp 6) (.tmp 26),none,1⟩])
 (.block 2 (.loop ⟨[7,27,28,29,30,31,32,33,34,35,36,37,38],false,[]⟩
 (.seq (.seq (.region 0 [] [
 ⟨(some 27),.load none (.tmp 6),none,0⟩,
 ⟨(some 28),.faddr 4 (.tmp 3),none,0⟩,
 ⟨(some 29),.faddr 1 (.tmp 28),none,0⟩,
 ⟨(some 30),.load none (.tmp 29),none,0⟩,
 ⟨(some 31),.bin .leq (.tmp 27) (.tmp 30),none,0⟩])
 (.cond (.tmp 31)
 .skip
 (.exit 2)))
 (.seq (.block 3 (.seq (.region 1 [] [
 ⟨(some 7),.alloc [.nilfn],none,0⟩])
 (.seq (.region 0 [] [
 ⟨(some 34),.mkfn 163 none [(.tmp 4),(.tmp 5),(.tmp 6),(.tmp 3),(.tmp 2),(.tmp 7)],none,0⟩,
 ⟨none,.store none (.tmp 7) (.tmp 34),none,0⟩])
 (.seq (.region 0 [] [
 ⟨(some 35),.load none (.tmp 7),none,0⟩,
 ⟨(some 36),.callv (.tmp 35) [(.cst (.c (.int .i64 0)))],none,0⟩,
 ⟨(some 37),.not (.tmp 36),none,0⟩])
 (.cond (.tmp 37)
 .ret
 .skip)))))
 (.seq (.seq (.region 0 [] [
 ⟨(some 38),.load none (.tmp 6),none,0⟩])
 (.region 1 [] [
 ⟨(some 6),.alloc [(.int .i64 0)],none,0⟩,
 ⟨none,.store none (.tmp 6) (.tmp 38),none,1⟩]))
 (.region 0 [] [
 ⟨(some 32),.load none (.tmp 6),none,0⟩,
 ⟨(some 33),.bin .add (.tmp 32) (.cst (.c (.int .i64 1))),none,0⟩,
 ⟨none,.store none (.tmp 6) (.tmp 33),none,0⟩]))))))))
 (.seq (.seq (.region 0 [] [
 ⟨(some 39),.load none (.tmp 5),none,0⟩])
 (.region 1 [] [
 ⟨(some 5),.alloc [(.int .i64 0)],none,0⟩,
 ⟨none,.store none (.tmp 5) (.tmp 39),none,1⟩]))
 (.region 0 [] [
 ⟨(some 22),.load none (.tmp 5),none,0⟩,
 ⟨(some 23),.bin .add (.tmp 22) (.cst (.c (.int .i64 1))),none,0⟩,
 ⟨none,.store none (.tmp 5) (.tmp 23),none,0⟩]))))))))))⟩
def f163 : AFunc:=⟨53,[.tmp 8],false,
 (.seq (.region 0 [] [
 ⟨(some 8),.mov (.cst (.c (.bool false))),none,0⟩])
 (.seq (.seq (.region 0 [] [
 ⟨(some 11),.mov (.tmp 0),none,0⟩,
 ⟨(some 12),.load none (.tmp 1),none,0⟩,
 ⟨(some 13),.len (.tmp 12),none,0⟩,
 ⟨(some 14),.bin .eql (.tmp 11) (.tmp 13),none,0⟩])
 (.cond (.tmp 14)
 (.seq (.region 1 [] [
 ⟨(some 15),.load none (.tmp 2),none,0⟩,
 ⟨(some 16),.load none (.tmp 3),none,0⟩,
 ⟨(some 17),.load none (.tmp 1),none,0⟩,
 ⟨(some 18),.build [(.int .i64 0),(.int .i64 0),.nils] [(0,1,(.tmp 15)),(1,1,(.tmp 16)),(2,1,(.tmp 17))],none,0⟩,
 ⟨(some 9),.alloc [(.int .i64 0),(.int .i64 0),.nils],none,0⟩,
 ⟨none,.store (some 3) (.tmp 9) (.tmp 18),none,1⟩])
 (.seq (.region 0 [] [
 ⟨(some 19),.load (some 12) (.tmp 4),none,0⟩,
 ⟨(some 20),.load (some 3) (.tmp 9),none,0⟩,
 ⟨(some 21),.call 164 true [(.tmp 19),(.tmp 20)],none,0⟩,
 ⟨(some 22),.not (.tmp 21),none,0⟩,
 ⟨(some 23),.mov (.tmp 22),none,0⟩,
 ⟨(some 24),.load none (.tmp 5),some (23,false),0⟩,
 ⟨(some 25),.load (some 3) (.tmp 9),some (23,false),0⟩,
 ⟨(some 26),.callv (.tmp 24) [(.tmp 25)],some (23,false),0⟩,
 ⟨(some 27),.pick (.tmp 23) (.cst (.c (.bool true))) (.tmp 26),none,0⟩,
 ⟨(some 8),.mov (.tmp 27),none,0⟩])
 .ret))
 .skip))
 (.seq (.seq (.region 0 [] [
 ⟨(some 28),.faddr 8 (.tmp 4),none,0⟩,
 ⟨(some 29),.load none (.tmp 28),none,0⟩,
 ⟨(some 30),.mov (.tmp 0),none,0⟩,
 ⟨(some 31),.iaddr 2 (.tmp 29) (.tmp 30),none,0⟩,
 ⟨(some 32),.faddr 0 (.tmp 31),none,0⟩,
 ⟨(some 33),.load none (.tmp 32),none,0⟩,
 ⟨(some 10),.mov (.tmp 33),none,0⟩])
 (.block 0 (.loop ⟨[8,34,35,36,37,38,39,40,41,42,43,44,45,46,47,48,49,50,51,52],false,[]⟩
 (.seq (.seq (.region 0 [] [
 ⟨(some 34),.mov (.tmp 10),none,0⟩,
 ⟨(some 35),.faddr 8 (.tmp 4),none,0⟩,
 ⟨(some 36),.load none (.tmp 35),none,0⟩,
 ⟨(some 37),.mov (.tmp 0),none,0⟩,
 ⟨(some 38),.iaddr 2 (.tmp 36) (.tmp 37),none,0⟩,
 ⟨(some 39),.faddr 1 (.tmp 38),none,0⟩,
 ⟨(some 40),.load none (.tmp 39),none,0⟩,
 ⟨(some 41),.bin .leq (.tmp 34) (.tmp 40),none,0⟩])
 (.cond (.tmp 41)
 .skip
 (.exit 0)))
 (.seq (.block 1 (.seq (.region 0 [] [
 ⟨(some 44),.load none (.tmp 1),none,0⟩,
 ⟨(some 45),.mov (.tmp 0),none,0⟩,
 ⟨(some 46),.mov (.tmp 10),none,0⟩,
 ⟨(some 47),.iaddr 1 (.tmp 44) (.tmp 45),none,0⟩,
 ⟨none,.store none (.tmp 47) (.tmp 46),none,0⟩])
 (.seq (.region 0 [] [
 ⟨(some 48),.load none (.tmp 6),none,0⟩,
 ⟨(some 49),.mov (.tmp 0),none,0⟩,
 ⟨(some 50),.bin .add (.tmp 49) (.cst (.c (.int .i64 1))),none,0⟩,
 ⟨(some 51),.callv (.tmp 48) [(.tmp 50)],none,0⟩,
 ⟨(some 52),.not (.tmp 51),none,0⟩])
 (.cond (.tmp 52)
 (.seq (.region 0 [] [
 ⟨(some 8),.mov (.cst (.c (.bool false))),none,0⟩])
 .ret)
 .skip))))
 (.region 0 [] [
 ⟨(some 42),.mov (.tmp 10),none,0⟩,
 ⟨(some 43),.bin .add (.tmp 42) (.cst (.c (.int .i64 1))),none,0⟩,
 ⟨(some 10),.mov (.tmp 43),none,0⟩]))))))
 (.seq (.region 0 [] [
 ⟨(some 8),.mov (.cst (.c (.bool true))),none,0⟩])
 .ret))))⟩
def f164 : AFunc:=⟨23,[.tmp 4],false,
 (.seq (.region 2 [] [
 ⟨(some 2),.box (.tmp 0),none,0⟩,
 ⟨(some 3),.box (.tmp 1),none,1⟩,
 ⟨(some 4),.mov (.cst (.c (.bool false))),none,2⟩])
 (.seq (.seq (.region 0 [] [
 ⟨(some 6),.load (some 12) (.tmp 2),none,0⟩,
 ⟨(some 7),.call 96 true [(.tmp 6)],none,0⟩,
 ⟨(some 8),.bin .neq (.tmp 7) (.cst (.c (.int .i64 0))),none,0⟩,
 ⟨(some 9),.mov (.tmp 8),none,0⟩,
 ⟨(some 10),.load (some 12) (.tmp 2),some (9,false),0⟩,
 ⟨(some 11),.load (some 3) (.tmp 3),some (9,false),0⟩,
 ⟨(some 12),.call 97 true [(.tmp 10),(.tmp 11)],some (9,false),0⟩,
 ⟨(some 13),.not (.tmp 12),some (9,false),0⟩,
 ⟨(some 14),.pick (.tmp 9) (.cst (.c (.bool true))) (.tmp 13),none,0⟩])
 (.cond (.tmp 14)
 (.seq (.region 0 [] [
 ⟨(some 4),.mov (.cst (.c (.bool false))),none,0⟩])
 .ret)
 .skip))
 (.seq (.region 1 [(0,2),(1,2),(0,4),(2,4)] [
 ⟨(some 15),.load (some 12) (.tmp 2),none,0⟩,
 ⟨(some 16),.call 100 false [(.tmp 15)],none,0⟩,
 ⟨(some 17),.load (some 3) (.tmp 3),none,0⟩,
 ⟨(some 18),.call 102 false [(.tmp 16),(.tmp 17)],none,0⟩,
 ⟨(some 5),.alloc [.nils],none,0⟩,
 ⟨none,.store none (.tmp 5) (.tmp 18),none,1⟩])
 (.seq (.region 0 [] [
 ⟨(some 19),.faddr 11 (.tmp 2),none,0⟩,
 ⟨(some 20),.load none (.tmp 19),none,0⟩,
 ⟨(some 21),.mkfn 186 none [(.tmp 5)],none,0⟩,
 ⟨(some 22),.call 143 false [(.tmp 20),(.tmp 21)],none,0⟩,
 ⟨(some 4),.mov (.tmp 22),none,0⟩])
 .ret))))⟩
def f165 : AFunc:=⟨9,[.tmp 4],false,
 (.seq (.region 0 [] [
 ⟨(some 4),.mov (.cst (.c (.bool false))),none,0⟩])
 (.seq (.region 0 [] [
 ⟨(some 5),.mov (.tmp 0),none,0⟩,
 ⟨(some 6),.mov (.tmp 1),none,0⟩,
 ⟨(some 7),.call 187 false [(.tmp 5),(.tmp 6)],none,0⟩,
 ⟨(some 8),.bin .geq (.tmp 7) (.cst (.c (.int .i64 0))),none,0⟩,
 ⟨(some 4),.mov (.tmp 8),none,0⟩])
 .ret))⟩
def f166 : AFunc:=⟨8,[.tmp 3],false,
 (.seq (.region 1 [] [
 ⟨(some 2),.box (.tmp 0),none,0⟩,
 ⟨(some 3),.mov (.cst (.c (.bool false))),none,1⟩])
 (.seq (.region 0 [] [
 ⟨(some 4),.load none (.tmp 1),none,0⟩,
 ⟨(some 5),.load (some 20) (.tmp 2),none,0⟩,
 ⟨(some 6),.callv (.tmp 4) [(.tmp 5)],none,0⟩,
 ⟨(some 7),.not (.tmp 6),none,0⟩,
 ⟨(some 3),.mov (.tmp 7),none,0⟩])
 .ret))⟩
def f167 : AFunc:=⟨9,[.tmp 4],false,
 (.seq (.region 0 [] [
 ⟨(some 4),.mov (.cst (.c (.bool false))),none,0⟩])
 (.seq (.region 0 [] [
 ⟨(some 5),.mov (.tmp 0),none,0⟩,
 ⟨(some 6),.mov (.tmp 1),none,0⟩,
 ⟨(some 7),.call 188 false [(.tmp 5),(.tmp 6)],none,0⟩,
 ⟨(some 8),.bin .geq (.tmp 7) (.cst (.c (.int .i64 0))),none,0⟩,
 ⟨(some 4),.mov (.tmp 8),none,0⟩])
 .ret))⟩
def f168 : AFunc:=⟨8,[.tmp 3],false,
 (.seq (.region 0 [] [
 ⟨(some 3),.mov (.cst (.c (.bool false))),none,0⟩])
 (.seq (.region 0 [] [
 ⟨(some 4),.load none (.tmp 1),none,0⟩,
 ⟨(some 5),.mov (.tmp 0),none,0⟩,
 ⟨(some 6),.callv (.tmp 4) [(.tmp 5)],none,0⟩,
 ⟨(some 7),.not (.tmp 6),none,0⟩,
 ⟨(some 3),.mov (.tmp 7),none,0⟩])
 .ret))⟩
def f169 : AFunc:=⟨38,[.tmp 4],false,
 (.seq (.region 1 [] [
 ⟨(some 3),.box (.tmp 1),none,0⟩,
 ⟨(some 4),.mov (.cst (.c (.int .i64 0))),none,1⟩])
 (.seq (.region 0 [(0,4),(1,4),(2,4),(3,4),(7,8),(8,9)] [
 ⟨(some 8),.mov (.tmp 0),none,0⟩,
 ⟨(some 9),.nilchk (.tmp 8),none,0⟩,
 ⟨(some 10),.faddr 3 (.tmp 9),none,0⟩,
 ⟨(some 11),.load none (.tmp 10),none,0⟩,
 ⟨(some 12),.load (some 3) (.tmp 3),none,0⟩,
 ⟨(some 13),.lookup true false [(some .i64),(some .i64),(some .i64)] (.c (.int .i64 0)) true (.tmp 11) (.tmp 12),none,0⟩,
 ⟨(some 7),.mov (.tmp 13),none,0⟩,
 ⟨(some 14),.extract 0 (.tmp 7),none,0⟩,
 ⟨(some 15),.extract 1 (.tmp 7),none,0⟩,
 ⟨(some 5),.mov (.tmp 14),none,0⟩,
 ⟨(some 6),.mov (.tmp 15),none,0⟩])
 (.seq (.seq (.region 0 [(3,7),(4,7),(5,7),(6,7),(3,8),(4,8),(5,8),(6,8),(3,9),(4,9),(5,9),(6,9),(7,9),(8,9),(3,10),(4,10),(5,10),(6,10),(7,10),(8,10),(3,11),(4,11),(5,11),(6,11),(7,11),(8,11),(9,11),(10,11),(3,12),(4,12),(5,12),(6,12),(7,12),(8,12),(9,12),(10,12)] [
 ⟨(some 16),.mov (.tmp 6),none,0⟩,
 ⟨(some 17),.not (.tmp 16),none,0⟩,
 ⟨(some 18),.mov (.tmp 17),none,0⟩,
 ⟨(some 19),.mov (.tmp 0),some (18,true),0⟩,
 ⟨(some 20),.nilchk (.tmp 19),some (18,true),0⟩,
 ⟨(some 21),.faddr 0 (.tmp 20),some (18,true),0⟩,
 ⟨(some 22),.load none (.tmp 21),some (18,true),0⟩,
 ⟨(some 23),.faddr 0 (.tmp 3),some (18,true),0⟩,
 ⟨(some 24),.load none (.tmp 23),some (18,true),0⟩,
 ⟨(some 25),.faddr 1 (.tmp 3),some (18,true),0⟩,
 ⟨(some 26),.load none (.tmp 25),some (18,true),0⟩,
 ⟨(some 27),.faddr 2 (.tmp 3),some (18,true),0⟩,
 ⟨(some 28),.load none (.tmp 27),some (18,true),0⟩,
 ⟨(some 29),.call 77 false [(.tmp 22),(.tmp 24),(.tmp 26),(.tmp 28)],some (18,true),0⟩,
 ⟨(some 30),.pick (.tmp 18) (.tmp 29) (.cst (.c (.bool false))),none,0⟩])
 (.cond (.tmp 30)
 (.region 0 [] [
 ⟨(some 5),.mov (.cst (.c (.int .i64 1))),none,0⟩])
 .skip))
 (.seq (.region 0 [(0,4),(1,4),(2,4),(3,4),(0,5),(1,5),(2,5),(3,5),(4,5)] [
 ⟨(some 31),.mov (.tmp 0),none,0⟩,
 ⟨(some 32),.nilchk (.tmp 31),none,0⟩,
 ⟨(some 33),.faddr 3 (.tmp 32),none,0⟩,
 ⟨(some 34),.load none (.tmp 33),none,0⟩,
 ⟨(some 35),.load (some 3) (.tmp 3),none,0⟩,
 ⟨(some 36),.mov (.tmp 5),none,0⟩,
 ⟨none,.mapupd true false [(some .i64),(some .i64),(some .i64)] (.tmp 34) (.tmp 35) (.tmp 36),none,0⟩])
 (.seq (.region 0 [] [
 ⟨(some 37),.mov (.tmp 5),none,0⟩,
 ⟨(some 4),.mov (.tmp 37),none,0⟩])
 .ret)))))⟩
def f170 : AFunc:=⟨24,[.tmp 4],false,
 (.seq (.region 2 [] [
 ⟨(some 2),.box (.tmp 0),none,0⟩,
 ⟨(some 3),.box (.tmp 1),none,1⟩,
 ⟨(some 4),.mov (.cst (.c (.bool false))),none,2⟩])
 (.seq (.region 0 [] [
 ⟨(some 5),.faddr 0 (.tmp 2),none,0⟩,
 ⟨(some 6),.load none (.tmp 5),none,0⟩,
 ⟨(some 7),.faddr 0 (.tmp 3),none,0⟩,
 ⟨(some 8),.load none (.tmp 7),none,0⟩,
 ⟨(some 9),.bin .gtr (.tmp 6) (.tmp 8),none,0⟩,
 ⟨(some 10),.mov (.tmp 9),none,0⟩,
 ⟨(some 11),.faddr 0 (.tmp 2),some (10,false),0⟩,
 ⟨(some 12),.load none (.tmp 11),some (10,false),0⟩,
 ⟨(some 13),.faddr 0 (.tmp 3),some (10,false),0⟩,
 ⟨(some 14),.load none (.tmp 13),some (10,false),0⟩,
 ⟨(some 15),.bin .eql (.tmp 12) (.tmp 14),some (10,false),0⟩,
 ⟨(some 16),.mov (.tmp 15),some (10,false),0⟩,
 ⟨(some 17),.faddr 1 (.tmp 2),some (16,true),0⟩,
 ⟨(some 18),.load none (.tmp 17),some (16,true),0⟩,
 ⟨(some 19),.faddr 1 (.tmp 3),some (16,true),0⟩,
 ⟨(some 20),.load none (.tmp 19),some (16,true),0⟩,
 ⟨(some 21),.bin .lss (.tmp 18) (.tmp 20),some (16,true),0⟩,
 ⟨(some 22),.pick (.tmp 16) (.tmp 21) (.cst (.c (.bool false))),some (10,false),0⟩,
 ⟨(some 23),.pick (.tmp 10) (.cst (.c (.bool true))) (.tmp 22),none,0⟩,
 ⟨(some 4),.mov (.tmp 23),none,0⟩])
 .ret))⟩
def f171 : AFunc:=⟨24,[.tmp 6],false,
 (.seq (.region 1 [] [
 ⟨(some 3),.box (.tmp 0),none,0⟩,
 ⟨(some 6),.mov (.cst (.c (.bool false))),none,1⟩])
 (.seq (.region 0 [] [
 ⟨(some 7),.mov (.tmp 1),none,0⟩,
 ⟨(some 8),.faddr 0 (.tmp 3),none,0⟩,
 ⟨(some 9),.load none (.tmp 8),none,0⟩,
 ⟨(some 10),.bin .leq (.tmp 7) (.tmp 9),none,0⟩,
 ⟨(some 11),.mov (.tmp 10),none,0⟩,
 ⟨(some 12),.faddr 0 (.tmp 3),some (11,true),0⟩,
 ⟨(some 13),.load none (.tmp 12),some (11,true),0⟩,
 ⟨(some 14),.faddr 1 (.tmp 3),some (11,true),0⟩,
 ⟨(some 15),.load none (.tmp 14),some (11,true),0⟩,
 ⟨(some 16),.bin .leq (.tmp 13) (.tmp 15),some (11,true),0⟩,
 ⟨(some 17),.pick (.tmp 11) (.tmp 16) (.cst (.c (.bool false))),none,0⟩,
 ⟨(some 18),.mov (.tmp 17),none,0⟩,
 ⟨(some 19),.faddr 1 (.tmp 3),some (18,true),0⟩,
 ⟨(some 20),.load none (.tmp 19),some (18,true),0⟩,
 ⟨(some 21),.mov (.tmp 2),some (18,true),0⟩,
 ⟨(some 22),.bin .leq (.tmp 20) (.tmp 21),some (18,true),0⟩,
 ⟨(some 23),.pick (.tmp 18) (.tmp 22) (.cst (.c (.bool false))),none,0⟩,
 ⟨(some 6),.mov (.tmp 23),none,0⟩])
 .ret))⟩
def f172 : AFunc:=⟨9,[.tmp 4],false,
 (.seq (.region 0 [] [
 ⟨(some 4),.mov (.cst (.c (.bool false))),none,0⟩])
 (.seq (.region 0 [] [
 ⟨(some 5),.mov (.tmp 0),none,0⟩,
 ⟨(some 6),.mov (.tmp 1),none,0⟩,
 ⟨(some 7),.call 189 false [(.tmp 5),(.tmp 6)],none,0⟩,
 ⟨(some 8),.bin .geq (.tmp 7) (.cst (.c (.int .i64 0))),none,0⟩,
 ⟨(some 4),.mov (.tmp 8),none,0⟩])
 .ret))⟩
def f173 : AFunc:=⟨8,[.tmp 3],true,
 (.seq (.region 1 [] [
 ⟨(some 2),.box (.tmp 0),none,0⟩,
 ⟨(some 3),.mov (.cst (.c (.bool false))),none,1⟩])
 (.seq (.region 0 [] [
 ⟨(some 4),.load none (.tmp 1),none,0⟩,
 ⟨(some 5),.load (some 2) (.tmp 2),none,0⟩,
 ⟨(some 6),.callv (.tmp 4) [(.tmp 5)],none,0⟩,
 ⟨(some 7),.not (.tmp 6),none,0⟩,
 ⟨(some 3),.mov (.tmp 7),none,0⟩])
 .ret))⟩
def f174 : AFunc:=⟨9,[.tmp 4],false,
 (.seq (.region 0 [] [
 ⟨(some 4),.mov (.cst (.c (.bool false))),none,0⟩])
 (.seq (.region 0 [] [
 ⟨(some 5),.mov (.tmp 0),none,0⟩,
 ⟨(some 6),.mov (.tmp 1),none,0⟩,
 ⟨(some 7),.call 190 false [(.tmp 5),(.tmp 6)],none,0⟩,
 ⟨(some 8),.bin .geq (.tmp 7) (.cst (.c (.int .i64 0))),none,0⟩,
 ⟨(some 4),.mov (.tmp 8),none,0⟩])
 .ret))⟩
def f175 : AFunc:=⟨8,[.tmp 3],true,
 (.seq (.region 1 [] [
 ⟨(some 2),.box (.tmp 0),none,0⟩,
 ⟨(some 3),.mov (.cst (.c (.bool false))),none,1⟩])
 (.seq (.region 0 [] [
 ⟨(some 4),.load none (.tmp 1),none,0⟩,
 ⟨(some 5),.load (some 3) (.tmp 2),none,0⟩,
 ⟨(some 6),.callv (.tmp 4) [(.tmp 5)],none,0⟩,
 ⟨(some 7),.not (.tmp 6),none,0⟩,
 ⟨(some 3),.mov (.tmp 7),none,0⟩])
 .ret))⟩
def f176 : AFunc:=⟨5,[.tmp 2],false,
 (.seq (.region 0 [] [
 ⟨(some 2),.mov (.cst (.c (.bool false))),none,0⟩])
 (.seq (.region 0 [] [
 ⟨(some 3),.mov (.tmp 0),none,0⟩,
 ⟨(some 4),.call 148 true [(.tmp 3),(.cst (.c (.int .i64 0))),(.cst (.c (.int .i64 9)))],none,0⟩,
 ⟨(some 2),.mov (.tmp 4),none,0⟩])
 .ret))⟩
def f177 : AFunc:=⟨8,[.tmp 3],false,
 (.seq (.region 0 [] [
 ⟨(some 3),.mov (.cst (.c (.bool false))),none,0⟩])
 (.seq (.region 0 [] [
 ⟨(some 4),.load none (.tmp 1),none,0⟩,
 ⟨(some 5),.mov (.tmp 0),none,0⟩,
 ⟨(some 6),.callv (.tmp 4) [(.tmp 5)],none,0⟩,
 ⟨(some 7),.not (.tmp 6),none,0⟩,
 ⟨(some 3),.mov (.tmp 7),none,0⟩])
 .ret))⟩
def f178 : AFunc:=⟨9,[.tmp 4],false,
 (.seq (.region 0 [] [
 ⟨(some 4),.mov (.cst (.c (.bool false))),none,0⟩])
 (.seq (.region 0 [] [
 ⟨(some 5),.mov (.tmp 0),none,0⟩,
 ⟨(some 6),.mov (.tmp 1),none,0⟩,
 ⟨(some 7),.call 191 false [(.tmp 5),(.tmp 6)],none,0⟩,
 ⟨(some 8),.bin .geq (.tmp 7) (.cst (.c (.int .i64 0))),none,0⟩,
 ⟨(some 4),.mov (.tmp 8),none,0⟩])
 .ret))⟩
def f179 : AFunc:=⟨8,[.tmp 3],false,
 (.seq (.region 1 [] [
 ⟨(some 2),.box (.tmp 0),none,0⟩,
 ⟨(some 3),.mov (.cst (.c (.bool false))),none,1⟩])
 (.seq (.region 0 [] [
 ⟨(some 4),.load none (.tmp 1),none,0⟩,
 ⟨(some 5),.load (some 4) (.tmp 2),none,0⟩,
 ⟨(some 6),.callv (.tmp 4) [(.tmp 5)],none,0⟩,
 ⟨(some 7),.not (.tmp 6),none,0⟩,
 ⟨(some 3),.mov (.tmp 7),none,0⟩])
 .ret))⟩
def f180 : AFunc:=⟨13,[.tmp 4],false,
 (.seq (.region 1 [] [
 ⟨(some 2),.box (.tmp 0),none,0⟩,
 ⟨(some 4),.mov (.cst (.c .nils)),none,1⟩])
 (.seq (.seq (.region 0 [] [
 ⟨(some 6),.mov (.tmp 1),none,0⟩])
 (.block 0 (.range (.tmp 6) [7]
 (.region 1 [] [
 ⟨(some 5),.alloc [(.int .i64 0),(.int .i64 0)],none,0⟩,
 ⟨none,.store (some 2) (.tmp 5) (.tmp 7),none,1⟩])
 (.block 1 (.region 2 [] [
 ⟨(some 8),.load none (.tmp 2),none,0⟩,
 ⟨(some 9),.load (some 2) (.tmp 5),none,0⟩,
 ⟨(some 10),.bslice 2 1 [(.int .i64 0),(.int .i64 0)] [(0,(.tmp 9))],none,0⟩,
 ⟨(some 11),.append 2 16 (.tmp 8) (.tmp 10),none,1⟩,
 ⟨none,.store none (.tmp 2) (.tmp 11),none,2⟩])))))
 (.seq (.region 0 [] [
 ⟨(some 12),.load none (.tmp 2),none,0⟩,
 ⟨(some 4),.mov (.tmp 12),none,0⟩])
 .ret)))⟩
def f181 : AFunc:=⟨83,[],false,
 (.seq (.region 1 [] [
 ⟨(some 8),.faddr 0 (.tmp 1),none,0⟩,
 ⟨(some 9),.load none (.tmp 8),none,0⟩,
 ⟨(some 10),.faddr 1 (.tmp 1),none,0⟩,
 ⟨(some 11),.load none (.tmp 10),none,0⟩,
 ⟨(some 12),.build [(.int .i64 0),(.int .i64 0)] [(0,1,(.tmp 9)),(1,1,(.tmp 11))],none,0⟩,
 ⟨(some 4),.alloc [(.int .i64 0),(.int .i64 0)],none,0⟩,
 ⟨none,.store (some 2) (.tmp 4) (.tmp 12),none,1⟩])
 (.seq (.region 0 [] [
 ⟨(some 13),.load none (.tmp 2),none,0⟩,
 ⟨(some 14),.nilchk (.tmp 13),none,0⟩,
 ⟨(some 15),.faddr 0 (.tmp 14),none,0⟩,
 ⟨(some 16),.faddr 9 (.tmp 15),none,0⟩,
 ⟨(some 17),.load none (.tmp 16),none,0⟩,
 ⟨(some 18),.len (.tmp 17),none,0⟩,
 ⟨(some 19),.mov (.cst (.c (.int .i64 0))),none,0⟩])
 (.block 0 (.loop ⟨[5,6,7,20,21,22,23,24,25,26,27,28,29,30,31,32,33,34,35,36,37,38,39,40,41,42,43,44,45,46,47,48,49,50,51,52,53,54,55,56,57,58,59,60,61,62,63,64,65,66,67,68,69,70,71,72,73,74,75,76,77,78,79,80,81,82],false,[]⟩
 (.seq (.region 0 [] [
 ⟨(some 20),.bin .lss (.tmp 19) (.tmp 18),none,0⟩])
 (.seq (.cond (.tmp 20)
 .skip
 (.exit 0))
 (.seq (.block 1 (.seq (.region 1 [] [
 ⟨(some 21),.mov (.tmp 19),none,0⟩,
 ⟨(some 22),.iaddr 3 (.tmp 17) (.tmp 19),none,0⟩,
 ⟨(some 23),.load (some 3) (.tmp 22),none,0⟩,
 ⟨(some 6),.alloc [(.int .i64 0),(.int .i64 0),(.int .i64 0)],none,0⟩,
 ⟨(some 5),.mov (.tmp 21),none,1⟩,
 ⟨none,.store (some 3) (.tmp 6) (.tmp 23),none,1⟩])
 (.seq (.region 0 [(0,2),(1,2),(0,3),(1,3),(0,4),(1,4),(2,4),(3,4),(0,5),(1,5),(2,5),(3,5),(0,6),(1,6),(0,7),(1,7),(2,7),(3,7),(4,7),(5,7),(6,7),(0,8),(1,8),(2,8),(3,8),(4,8),(5,8),(6,8),(0,9),(1,9),(2,9),(3,9),(4,9),(5,9),(6,9),(7,9),(8,9),(0,10),(1,10),(2,10),(3,10),(4,10),(5,10),(6,10),(0,11),(1,11),(2,11),(3,11),(4,11),(5,11),(6,11),(0,12),(1,12)] [
 ⟨(some 24),.faddr 0 (.tmp 4),none,0⟩,
 ⟨(some 25),.load none (.tmp 24),none,0⟩,
 ⟨(some 26),.faddr 0 (.tmp 6),none,0⟩,
 ⟨(some 27),.load none (.tmp 26),none,0⟩,
 ⟨(some 28),.faddr 1 (.tmp 6),none,0⟩,
 ⟨(some 29),.load none (.tmp 28),none,0⟩,
 ⟨(some 30),.bin .sub (.tmp 27) (.tmp 29),none,0⟩,
 ⟨(some 31),.faddr 2 (.tmp 1),none,0⟩,
 ⟨(some 32),.load none (.tmp 31),none,0⟩,
 ⟨(some 33),.mov (.tmp 5),none,0⟩,
 ⟨(some 34),.iaddr 1 (.tmp 32) (.tmp 33),none,0⟩,
 ⟨(some 35),.load none (.tmp 34),none,0⟩,
 ⟨(some 36),.bin .add (.tmp 30) (.tmp 35),none,0⟩,
 ⟨(some 37),.bin .add (.tmp 25) (.tmp 36),none,0⟩,
 ⟨(some 38),.faddr 0 (.tmp 4),none,0⟩,
 ⟨none,.store none (.tmp 38) (.tmp 37),none,0⟩])
 (.seq (.region 1 [(0,2),(1,2),(0,3),(1,3),(0,4),(1,4),(2,4),(3,4),(0,5),(1,5),(2,5),(3,5),(0,6),(1,6),(2,6),(3,6),(0,7),(1,7),(2,7),(3,7),(0,8),(1,8),(2,8),(3,8),(0,9),(1,9),(0,11),(1,11),(2,11),(3,11),(4,11),(5,11),(6,11),(7,11),(8,11),(9,11),(10,11),(0,12),(1,12),(2,12),(3,12),(4,12),(5,12),(6,12),(7,12),(8,12),(9,12),(10,12),(0,13),(1,13),(2,13),(3,13),(4,13),(5,13),(6,13),(7,13),(8,13),(9,13),(10,13),(0,14),(1,14),(2,14),(3,14),(4,14),(5,14),(6,14),(7,14),(8,14),(9,14),(10,14),(0,15),(1,15),(2,15),(3,15),(4,15),(5,15),(6,15),(7,15),(8,15),(9,15),(10,15),(11,15),(12,15),(13,15),(14,15),(0,16),(1,16),(2,16),(3,16),(4,16),(5,16),(6,16),(7,16),(8,16),(9,16),(10,16),(11,16),(12,16),(13,16),(14,16),(0,17),(1,17),(2,17),(3,17),(4,17),(5,17),(6,17),(7,17),(8,17),(9,17),(10,17),(0,19),(1,19),(2,19),(3,19),(4,19),(5,19),(6,19),(7,19),(8,19),(9,19),(10,19),(11,19),(12,19),(13,19),(14,19),(15,19),(16,19),(17,19),(18,19)] [
 ⟨(some 39),.faddr 1 (.tmp 4),none,0⟩,
 ⟨(some 40),.load none (.tmp 39),none,0⟩,
 ⟨(some 41),.faddr 2 (.tmp 6),none,0⟩,
 ⟨(some 42),.load none (.tmp 41),none,0⟩,
 ⟨(some 43),.load none (.tmp 2),none,0⟩,
 ⟨(some 44),.nilchk (.tmp 43),none,0⟩,
 ⟨(some 45),.faddr 0 (.tmp 44),none,0⟩,
 ⟨(some 46),.faddr 6 (.tmp 45),none,0⟩,
 ⟨(some 47),.load none (.tmp 46),none,0⟩,
 ⟨(some 48),.bin .mul (.tmp 42) (.tmp 47),none,0⟩,
 ⟨(some 49),.bin .add (.tmp 40) (.tmp 48),none,0⟩,
 ⟨(some 50),.load none (.tmp 2),none,0⟩,
 ⟨(some 51),.nilchk (.tmp 50),none,0⟩,
 ⟨(some 52),.faddr 0 (.tmp 51),none,0⟩,
 ⟨(some 53),.load (some 12) (.tmp 52),none,0⟩,
 ⟨(some 54),.faddr 0 (.tmp 4),none,0⟩,
 ⟨(some 55),.load none (.tmp 54),none,0⟩,
 ⟨(some 56),.call 149 true [(.tmp 53),(.tmp 55)],none,0⟩,
 ⟨(some 57),.build [(.int .i64 0),(.bool false)] [(0,1,(.tmp 49)),(1,1,(.tmp 56))],none,0⟩,
 ⟨(some 7),.alloc [(.int .i64 0),(.bool false)],none,0⟩,
 ⟨none,.store (some 2) (.tmp 7) (.tmp 57),none,1⟩])
 (.seq (.seq (.region 0 [] [
 ⟨(some 58),.load none (.tmp 2),none,0⟩,
 ⟨(some 59),.nilchk (.tmp 58),none,0⟩,
 ⟨(some 60),.faddr 0 (.tmp 59),none,0⟩,
 ⟨(some 61),.faddr 10 (.tmp 60),none,0⟩,
 ⟨(some 62),.load none (.tmp 61),none,0⟩,
 ⟨(some 63),.mov (.tmp 5),none,0⟩,
 ⟨(some 64),.iaddr 1 (.tmp 62) (.tmp 63),none,0⟩,
 ⟨(some 65),.load none (.tmp 64),none,0⟩,
 ⟨(some 66),.mov (.cst (.c (.int .i64 0))),none,0⟩])
 (.block 2 (.loop ⟨[67,68,69,70,71,72,73,74],false,[]⟩
 (.seq (.region 0 [] [
 ⟨(some 67),.bin .lss (.tmp 66) (.tmp 65),none,0⟩])
 (.seq (.cond (.tmp 67)
 .skip
 (.exit 2))
 (.seq (.block 3 (.region 0 [] [
 ⟨(some 69),.load none (.tmp 2),none,0⟩,
 ⟨(some 70),.load (some 2) (.tmp 7),none,0⟩,
 ⟨(some 71),.call 150 false [(.tmp 69),(.tmp 70)],none,0⟩,
 ⟨(some 68),.mov (.tmp 71),none,0⟩,
 ⟨(some 72),.extract 0 (.tmp 68),none,0⟩,
 ⟨(some 73),.extract 1 (.tmp 68),none,0⟩,
 ⟨none,.store (some 2) (.tmp 7) (.tmp 73),none,0⟩]))
 (.region 0 [] [
 ⟨(some 74),.bin .add (.tmp 66) (.cst (.c (.int .i64 1))),none,0⟩,
 ⟨(some 66),.mov (.tmp 74),none,0⟩])))))))
 (.seq (.region 0 [] [
 ⟨(some 75),.faddr 0 (.tmp 7),none,0⟩,
 ⟨(some 76),.load none (.tmp 75),none,0⟩,
 ⟨(some 77),.faddr 1 (.tmp 4),none,0⟩,
 ⟨none,.store none (.tmp 77) (.tmp 76),none,0⟩])
 (.seq (.region 0 [] [
 ⟨(some 78),.mov (.tmp 0),none,0⟩,
 ⟨(some 79),.load (some 2) (.tmp 4),none,0⟩,
 ⟨(some 80),.callv (.tmp 78) [(.tmp 79)],none,0⟩,
 ⟨(some 81),.not (.tmp 80),none,0⟩])
 (.cond (.tmp 81)
 .ret
 .skip))))))))
 (.region 0 [] [
 ⟨(some 82),.bin .add (.tmp 19) (.cst (.c (.int .i64 1))),none,0⟩,
 ⟨(some 19),.mov (.tmp 82),none,0⟩]))))))))⟩
def f182 : AFunc:=⟨60,[],false,
 (.seq (.region 1 [] [
 ⟨(some 3),.box (.tmp 0),none,0⟩])
 (.seq (.region 0 [] [
 ⟨(some 10),.load none (.tmp 1),none,0⟩,
 ⟨(some 11),.nilchk (.tmp 10),none,0⟩,
 ⟨(some 12),.faddr 0 (.tmp 11),none,0⟩,
 ⟨(some 13),.load (some 12) (.tmp 12),none,0⟩,
 ⟨(some 14),.call 144 true [(.tmp 13)],none,0⟩,
 ⟨(some 15),.call 183 false [(.tmp 14)],none,0⟩])
 (.block 0 (.range (.tmp 15) [16]
 (.region 0 [] [
 ⟨(some 4),.mov (.tmp 16),none,0⟩])
 (.block 1 (.seq (.region 1 [(0,3),(1,3),(2,3),(0,4),(1,4),(2,4),(0,5),(1,5),(2,5),(0,6),(1,6),(2,6),(3,6),(4,6),(5,6),(0,7),(1,7),(2,7),(3,7),(4,7),(5,7),(0,9),(1,9),(2,9),(3,9),(4,9),(5,9),(6,9),(7,9),(8,9)] [
 ⟨(some 17),.mov (.tmp 4),none,0⟩,
 ⟨(some 18),.iaddr 1 (.tmp 17) (.cst (.c (.int .i64 0))),none,0⟩,
 ⟨(some 19),.load none (.tmp 18),none,0⟩,
 ⟨(some 20),.mov (.tmp 4),none,0⟩,
 ⟨(some 21),.iaddr 1 (.tmp 20) (.cst (.c (.int .i64 1))),none,0⟩,
 ⟨(some 22),.load none (.tmp 21),none,0⟩,
 ⟨(some 23),.mov (.tmp 4),none,0⟩,
 ⟨(some 24),.slice 1 (.tmp 23) (some (.cst (.c (.int .i64 2)))) none,none,0⟩,
 ⟨(some 25),.build [(.int .i64 0),(.int .i64 0),.nils] [(0,1,(.tmp 19)),(1,1,(.tmp 22)),(2,1,(.tmp 24))],none,0⟩,
 ⟨(some 5),.alloc [(.int .i64 0),(.int .i64 0),.nils],none,0⟩,
 ⟨none,.store (some 3) (.tmp 5) (.tmp 25),none,1⟩])
 (.seq (.region 0 [] [
 ⟨(some 26),.load none (.tmp 1),none,0⟩,
 ⟨(some 27),.load (some 3) (.tmp 5),none,0⟩,
 ⟨(some 28),.call 102 false [(.tmp 26),(.tmp 27)],none,0⟩,
 ⟨(some 6),.mov (.tmp 28),none,0⟩])
 (.seq (.region 0 [] [
 ⟨(some 7),.mov (.cst (.c (.bool true))),none,0⟩])
 (.seq (.seq (.region 0 [] [
 ⟨(some 29),.load none (.tmp 1),none,0⟩,
 ⟨(some 30),.nilchk (.tmp 29),none,0⟩,
 ⟨(some 31),.faddr 0 (.tmp 30),none,0⟩,
 ⟨(some 32),.faddr 11 (.tmp 31),none,0⟩,
 ⟨(some 33),.load none (.tmp 32),none,0⟩,
 ⟨(some 34),.len (.tmp 33),none,0⟩,
 ⟨(some 35),.mov (.cst (.c (.int .i64 0))),none,0⟩])
 (.block 2 (.loop ⟨[8,9,36,37,38,39,40,41,42,43,44,45,46,47,48,49,50,51],false,[]⟩
 (.seq (.region 0 [] [
 ⟨(some 36),.bin .lss (.tmp 35) (.tmp 34),none,0⟩])
 (.seq (.cond (.tmp 36)
 .skip
 (.exit 2))
 (.seq (.block 3 (.seq (.region 1 [] [
 ⟨(some 37),.mov (.tmp 35),none,0⟩,
 ⟨(some 38),.iaddr 4 (.tmp 33) (.tmp 35),none,0⟩,
 ⟨(some 39),.load (some 4) (.tmp 38),none,0⟩,
 ⟨(some 9),.alloc [(.int .i64 0),(.bool false),(.int .i64 0),(.int .i64 0)],none,0⟩,
 ⟨(some 8),.mov (.tmp 37),none,1⟩,
 ⟨none,.store (some 4) (.tmp 9) (.tmp 39),none,1⟩])
 (.region 0 [] [
 ⟨(some 40),.mov (.tmp 7),none,0⟩,
 ⟨(some 41),.mov (.tmp 40),none,0⟩,
 ⟨(some 42),.load none (.tmp 2),some (41,true),0⟩,
 ⟨(some 43),.mov (.tmp 8),some (41,true),0⟩,
 ⟨(some 44),.call 184 true [(.tmp 42),(.tmp 43)],some (41,true),0⟩,
 ⟨(some 45),.mov (.tmp 44),some (41,true),0⟩,
 ⟨(some 46),.load (some 4) (.tmp 9),some (45,false),0⟩,
 ⟨(some 47),.mov (.tmp 6),some (45,false),0⟩,
 ⟨(some 48),.call 185 true [(.tmp 46),(.tmp 47)],some (45,false),0⟩,
 ⟨(some 49),.pick (.tmp 45) (.cst (.c (.bool true))) (.tmp 48),some (41,true),0⟩,
 ⟨(some 50),.pick (.tmp 41) (.tmp 49) (.cst (.c (.bool false))),none,0⟩,
 ⟨(some 7),.mov (.tmp 50),none,0⟩])))
 (.region 0 [] [
 ⟨(some 51),.bin .add (.tmp 35) (.cst (.c (.int .i64 1))),none,0⟩,
 ⟨(some 35),.mov (.tmp 51),none,0⟩])))))))
 (.seq (.region 0 [] [
 ⟨(some 52),.mov (.tmp 7),none,0⟩,
 ⟨(some 53),.mov (.tmp 52),none,0⟩,
 ⟨(some 54),.load none (.tmp 3),some (53,true),0⟩,
 ⟨(some 55),.load (some 3) (.tmp 5),some (53,true),0⟩,
 ⟨(some 56),.mov (.tmp 6),some (53,true),0⟩,
 ⟨(some 57),.callv (.tmp 54) [(.tmp 55),(.tmp 56)],some (53,true),0⟩,
 ⟨(some 58),.not (.tmp 57),some (53,true),0⟩,
 ⟨(some 59),.pick (.tmp 53) (.tmp 58) (.cst (.c (.bool false))),none,0⟩])
 (.cond (.tmp 59)
 .ret
 .skip)))))))))))⟩
def f183 : AFunc:=⟨4,[.tmp 2],false,
 (.seq (.region 1 [] [
 ⟨(some 1),.box (.tmp 0),none,0⟩,
 ⟨(some 2),.mov (.cst (.c .nilfn)),none,1⟩])
 (.seq (.region 0 [] [
 ⟨(some 3),.mkfn 192 none [(.tmp 1)],none,0⟩,
 ⟨(some 2),.mov (.tmp 3),none,0⟩])
 .ret))⟩
def f184 : AFunc:=⟨9,[.tmp 4],false,
 (.seq (.region 0 [] [
 ⟨(some 4),.mov (.cst (.c (.bool false))),none,0⟩])
 (.seq (.region 0 [] [
 ⟨(some 5),.mov (.tmp 0),none,0⟩,
 ⟨(some 6),.mov (.tmp 1),none,0⟩,
 ⟨(some 7),.call 194 true [(.tmp 5),(.tmp 6)],none,0⟩,
 ⟨(some 8),.bin .geq (.tmp 7) (.cst (.c (.int .i64 0))),none,0⟩,
 ⟨(some 4),.mov (.tmp 8),none,0⟩])
 .ret))⟩
def f185 : AFunc:=⟨25,[.tmp 4],false,
 (.seq (.region 1 [] [
 ⟨(some 2),.box (.tmp 0),none,0⟩,
 ⟨(some 4),.mov (.cst (.c (.bool false))),none,1⟩])
 (.seq (.seq (.region 0 [] [
 ⟨(some 5),.faddr 1 (.tmp 2),none,0⟩,
 ⟨(some 6),.load none (.tmp 5),none,0⟩])
 (.cond (.tmp 6)
 (.seq (.region 0 [(0,2),(1,2),(0,3),(1,3),(2,3),(0,4),(1,4),(2,4),(0,5),(1,5),(0,6),(1,6),(0,7),(1,7)] [
 ⟨(some 7),.faddr 2 (.tmp 2),none,0⟩,
 ⟨(some 8),.load (some 2) (.tmp 7),none,0⟩,
 ⟨(some 9),.mov (.tmp 1),none,0⟩,
 ⟨(some 10),.faddr 0 (.tmp 2),none,0⟩,
 ⟨(some 11),.load none (.tmp 10),none,0⟩,
 ⟨(some 12),.iaddr 2 (.tmp 9) (.tmp 11),none,0⟩,
 ⟨(some 13),.faddr 0 (.tmp 12),none,0⟩,
 ⟨(some 14),.load none (.tmp 13),none,0⟩,
 ⟨(some 15),.call 147 true [(.tmp 8),(.tmp 14)],none,0⟩,
 ⟨(some 4),.mov (.tmp 15),none,0⟩])
 .ret)
 .skip))
 (.seq (.region 0 [(0,2),(1,2),(0,3),(1,3),(2,3),(0,4),(1,4),(2,4),(0,5),(1,5),(0,6),(1,6),(0,7),(1,7)] [
 ⟨(some 16),.faddr 2 (.tmp 2),none,0⟩,
 ⟨(some 17),.load (some 2) (.tmp 16),none,0⟩,
 ⟨(some 18),.mov (.tmp 1),none,0⟩,
 ⟨(some 19),.faddr 0 (.tmp 2),none,0⟩,
 ⟨(some 20),.load none (.tmp 19),none,0⟩,
 ⟨(some 21),.iaddr 2 (.tmp 18) (.tmp 20),none,0⟩,
 ⟨(some 22),.faddr 1 (.tmp 21),none,0⟩,
 ⟨(some 23),.load none (.tmp 22),none,0⟩,
 ⟨(some 24),.call 147 true [(.tmp 17),(.tmp 23)],none,0⟩,
 ⟨(some 4),.mov (.tmp 24),none,0⟩])
 .ret)))⟩
def f186 : AFunc:=⟨7,[.tmp 3],false,
 (.seq (.region 1 [] [
 ⟨(some 2),.box (.tmp 0),none,0⟩,
 ⟨(some 3),.mov (.cst (.c (.bool false))),none,1⟩])
 (.seq (.region 0 [] [
 ⟨(some 4),.load (some 4) (.tmp 2),none,0⟩,
 ⟨(some 5),.load none (.tmp 1),none,0⟩,
 ⟨(some 6),.call 185 true [(.tmp 4),(.tmp 5)],none,0⟩,
 ⟨(some 3),.mov (.tmp 6),none,0⟩])
 .ret))⟩
def f187 : AFunc:=⟨19,[.tmp 4],false,
 (.seq (.region 0 [] [
 ⟨(some 4),.mov (.cst (.c (.int .i64 0))),none,0⟩])
 (.seq (.seq (.region 0 [] [
 ⟨(some 6),.mov (.tmp 0),none,0⟩,
 ⟨(some 7),.len (.tmp 6),none,0⟩,
 ⟨(some 8),.mov (.cst (.c (.int .i64 0))),none,0⟩])
 (.block 0 (.loop ⟨[4,5,9,10,11,12,13,14,15,16,17,18],false,[]⟩
 (.seq (.region 0 [] [
 ⟨(some 9),.bin .lss (.tmp 8) (.tmp 7),none,0⟩])
 (.seq (.cond (.tmp 9)
 .skip
 (.exit 0))
 (.seq (.block 1 (.seq (.region 0 [] [
 ⟨(some 10),.mov (.tmp 8),none,0⟩,
 ⟨(some 5),.mov (.tmp 10),none,0⟩])
 (.seq (.region 0 [] [
 ⟨(some 11),.mov (.tmp 1),none,0⟩,
 ⟨(some 12),.mov (.tmp 0),none,0⟩,
 ⟨(some 13),.mov (.tmp 5),none,0⟩,
 ⟨(some 14),.iaddr 20 (.tmp 12) (.tmp 13),none,0⟩,
 ⟨(some 15),.load (some 20) (.tmp 14),none,0⟩,
 ⟨(some 16),.callv (.tmp 11) [(.tmp 15)],none,0⟩])
 (.cond (.tmp 16)
 (.seq (.region 0 [] [
 ⟨(some 17),.mov (.tmp 5),none,0⟩,
 ⟨(some 4),.mov (.tmp 17),none,0⟩])
 .ret)
 .skip))))
 (.region 0 [] [
 ⟨(some 18),.bin .add (.tmp 8) (.cst (.c (.int .i64 1))),none,0⟩,
 ⟨(some 8),.mov (.tmp 18),none,0⟩])))))))
 (.seq (.region 0 [] [
 ⟨(some 4),.mov (.cst (.c (.int .i64 (-1)))),none,0⟩])
 .ret)))⟩
def f188 : AFunc:=⟨19,[.tmp 4],false,
 (.seq (.region 0 [] [
 ⟨(some 4),.mov (.cst (.c (.int .i64 0))),none,0⟩])
 (.seq (.seq (.region 0 [] [
 ⟨(some 6),.mov (.tmp 0),none,0⟩,
 ⟨(some 7),.len (.tmp 6),none,0⟩,
 ⟨(some 8),.mov (.cst (.c (.int .i64 0))),none,0⟩])
 (.block 0 (.loop ⟨[4,5,9,10,11,12,13,14,15,16,17,18],false,[]⟩
 (.seq (.region 0 [] [
 ⟨(some 9),.bin .lss (.tmp 8) (.tmp 7),none,0⟩])
 (.seq (.cond (.tmp 9)
 .skip
 (.exit 0))
 (.seq (.block 1 (.seq (.region 0 [] [
 ⟨(some 10),.mov (.tmp 8),none,0⟩,
 ⟨(some 5),.mov (.tmp 10),none,0⟩])
 (.seq (.region 0 [] [
 ⟨(some 11),.mov (.tmp 1),none,0⟩,
 ⟨(some 12),.mov (.tmp 0),none,0⟩,
 ⟨(some 13),.mov (.tmp 5),none,0⟩,
 ⟨(some 14),.iaddr 1 (.tmp 12) (.tmp 13),none,0⟩,
 ⟨(some 15),.load none (.tmp 14),none,0⟩,
 ⟨(some 16),.callv (.tmp 11) [(.tmp 15)],none,0⟩])
 (.cond (.tmp 16)
 (.seq (.region 0 [] [
 ⟨(some 17),.mov (.tmp 5),none,0⟩,
 ⟨(some 4),.mov (.tmp 17),none,0⟩])
 .ret)
 .skip))))
 (.region 0 [] [
 ⟨(some 18),.bin .add (.tmp 8) (.cst (.c (.int .i64 1))),none,0⟩,
 ⟨(some 8),.mov (.tmp 18),none,0⟩])))))))
 (.seq (.region 0 [] [
 ⟨(some 4),.mov (.cst (.c (.int .i64 (-1)))),none,0⟩])
 .ret)))⟩
def f189 : AFunc:=⟨19,[.tmp 4],false,
 (.seq (.region 0 [] [
 ⟨(some 4),.mov (.cst (.c (.int .i64 0))),none,0⟩])
 (.seq (.seq (.region 0 [] [
 ⟨(some 6),.mov (.tmp 0),none,0⟩,
 ⟨(some 7),.len (.tmp 6),none,0⟩,
 ⟨(some 8),.mov (.cst (.c (.int .i64 0))),none,0⟩])
 (.block 0 (.loop ⟨[4,5,9,10,11,12,13,14,15,16,17,18],false,[]⟩
 (.seq (.region 0 [] [
 ⟨(some 9),.bin .lss (.tmp 8) (.tmp 7),none,0⟩])
 (.seq (.cond (.tmp 9)
 .skip
 (.exit 0))
 (.seq (.block 1 (.seq (.region 0 [] [
 ⟨(some 10),.mov (.tmp 8),none,0⟩,
 ⟨(some 5),.mov (.tmp 10),none,0⟩])
 (.seq (.region 0 [] [
 ⟨(some 11),.mov (.tmp 1),none,0⟩,
 ⟨(some 12),.mov (.tmp 0),none,0⟩,
 ⟨(some 13),.mov (.tmp 5),none,0⟩,
 ⟨(some 14),.iaddr 2 (.tmp 12) (.tmp 13),none,0⟩,
 ⟨(some 15),.load (some 2) (.tmp 14),none,0⟩,
 ⟨(some 16),.callv (.tmp 11) [(.tmp 15)],none,0⟩])
 (.cond (.tmp 16)
 (.seq (.region 0 [] [
 ⟨(some 17),.mov (.tmp 5),none,0⟩,
 ⟨(some 4),.mov (.tmp 17),none,0⟩])
 .ret)
 .skip))))
 (.region 0 [] [
 ⟨(some 18),.bin .add (.tmp 8) (.cst (.c (.int .i64 1))),none,0⟩,
 ⟨(some 8),.mov (.tmp 18),none,0⟩])))))))
 (.seq (.region 0 [] [
 ⟨(some 4),.mov (.cst (.c (.int .i64 (-1)))),none,0⟩])
 .ret)))⟩
def f190 : AFunc:=⟨19,[.tmp 4],false,
 (.seq (.region 0 [] [
 ⟨(some 4),.mov (.cst (.c (.int .i64 0))),none,0⟩])
 (.seq (.seq (.region 0 [] [
 ⟨(some 6),.mov (.tmp 0),none,0⟩,
 ⟨(some 7),.len (.tmp 6),none,0⟩,
 ⟨(some 8),.mov (.cst (.c (.int .i64 0))),none,0⟩])
 (.block 0 (.loop ⟨[4,5,9,10,11,12,13,14,15,16,17,18],false,[]⟩
 (.seq (.region 0 [] [
 ⟨(some 9),.bin .lss (.tmp 8) (.tmp 7),none,0⟩])
 (.seq (.cond (.tmp 9)
 .skip
 (.exit 0))
 (.seq (.block 1 (.seq (.region 0 [] [
 ⟨(some 10),.mov (.tmp 8),none,0⟩,
 ⟨(some 5),.mov (.tmp 10),none,0⟩])
 (.seq (.region 0 [] [
 ⟨(some 11),.mov (.tmp 1),none,0⟩,
 ⟨(some 12),.mov (.tmp 0),none,0⟩,
 ⟨(some 13),.mov (.tmp 5),none,0⟩,
 ⟨(some 14),.iaddr 3 (.tmp 12) (.tmp 13),none,0⟩,
 ⟨(some 15),.load (some 3) (.tmp 14),none,0⟩,
 ⟨(some 16),.callv (.tmp 11) [(.tmp 15)],none,0⟩])
 (.cond (.tmp 16)
 (.seq (.region 0 [] [
 ⟨(some 17),.mov (.tmp 5),none,0⟩,
 ⟨(some 4),.mov (.tmp 17),none,0⟩])
 .ret)
 .skip))))
 (.region 0 [] [
 ⟨(some 18),.bin .add (.tmp 8) (.cst (.c (.int .i64 1))),none,0⟩,
 ⟨(some 8),.mov (.tmp 18),none,0⟩])))))))
 (.seq (.region 0 [] [
 ⟨(some 4),.mov (.cst (.c (.int .i64 (-1)))),none,0⟩])
 .ret)))⟩
def f191 : AFunc:=⟨19,[.tmp 4],false,
 (.seq (.region 0 [] [
 ⟨(some 4),.mov (.cst (.c (.int .i64 0))),none,0⟩])
 (.seq (.seq (.region 0 [] [
 ⟨(some 6),.mov (.tmp 0),none,0⟩,
 ⟨(some 7),.len (.tmp 6),none,0⟩,
 ⟨(some 8),.mov (.cst (.c (.int .i64 0))),none,0⟩])
 (.block 0 (.loop ⟨[4,5,9,10,11,12,13,14,15,16,17,18],false,[]⟩
 (.seq (.region 0 [] [
 ⟨(some 9),.bin .lss (.tmp 8) (.tmp 7),none,0⟩])
 (.seq (.cond (.tmp 9)
 .skip
 (.exit 0))
 (.seq (.block 1 (.seq (.region 0 [] [
 ⟨(some 10),.mov (.tmp 8),none,0⟩,
 ⟨(some 5),.mov (.tmp 10),none,0⟩])
 (.seq (.region 0 [] [
 ⟨(some 11),.mov (.tmp 1),none,0⟩,
 ⟨(some 12),.mov (.tmp 0),none,0⟩,
 ⟨(some 13),.mov (.tmp 5),none,0⟩,
 ⟨(some 14),.iaddr 4 (.tmp 12) (.tmp 13),none,0⟩,
 ⟨(some 15),.load (some 4) (.tmp 14),none,0⟩,
 ⟨(some 16),.callv (.tmp 11) [(.tmp 15)],none,0⟩])
 (.cond (.tmp 16)
 (.seq (.region 0 [] [
 ⟨(some 17),.mov (.tmp 5),none,0⟩,
 ⟨(some 4),.mov (.tmp 17),none,0⟩])
 .ret)
 .skip))))
 (.region 0 [] [
 ⟨(some 18),.bin .add (.tmp 8) (.cst (.c (.int .i64 1))),none,0⟩,
 ⟨(some 8),.mov (.tmp 18),none,0⟩])))))))
 (.seq (.region 0 [] [
 ⟨(some 4),.mov (.cst (.c (.int .i64 (-1)))),none,0⟩])
 .ret)))⟩
def f192 : AFunc:=⟨11,[],false,
 (.seq (.region 1 [] [
 ⟨(some 2),.box (.tmp 0),none,0⟩])
 (.seq (.region 2 [] [
 ⟨(some 5),.load none (.tmp 1),none,0⟩,
 ⟨(some 6),.len (.tmp 5),none,0⟩,
 ⟨(some 7),.mkslice 1 8 [(.int .i64 0)] (.tmp 6),none,0⟩,
 ⟨(some 3),.alloc [.nils],none,1⟩,
 ⟨none,.store none (.tmp 3) (.tmp 7),none,2⟩])
 (.seq (.region 1 [] [
 ⟨(some 4),.alloc [.nilfn],none,0⟩])
 (.seq (.region 0 [] [
 ⟨(some 8),.mkfn 193 none [(.tmp 1),(.tmp 2),(.tmp 3),(.tmp 4)],none,0⟩,
 ⟨none,.store none (.tmp 4) (.tmp 8),none,0⟩])
 (.region 0 [] [
 ⟨(some 9),.load none (.tmp 4),none,0⟩,
 ⟨(some 10),.callv (.tmp 9) [(.cst (.c (.int .i64 0)))],none,0⟩])))))⟩
def f193 : AFunc:=⟨39,[.tmp 6],false,
 (.seq (.region 0 [] [
 ⟨(some 6),.mov (.cst (.c (.bool false))),none,0⟩])
 (.seq (.seq (.region 0 [] [
 ⟨(some 8),.mov (.tmp 0),none,0⟩,
 ⟨(some 9),.load none (.tmp 1),none,0⟩,
 ⟨(some 10),.len (.tmp 9),none,0⟩,
 ⟨(some 11),.bin .eql (.tmp 8) (.tmp 10),none,0⟩])
 (.cond (.tmp 11)
 (.seq (.region 0 [] [
 ⟨(some 12),.load none (.tmp 2),none,0⟩,
 ⟨(some 13),.load none (.tmp 3),none,0⟩,
 ⟨(some 14),.callv (.tmp 12) [(.tmp 13)],none,0⟩,
 ⟨(some 6),.mov (.tmp 14),none,0⟩])
 .ret)
 .skip))
 (.seq (.seq (.region 0 [] [
 ⟨(some 15),.load none (.tmp 1),none,0⟩,
 ⟨(some 16),.mov (.tmp 0),none,0⟩,
 ⟨(some 17),.iaddr 2 (.tmp 15) (.tmp 16),none,0⟩,
 ⟨(some 18),.load (some 2) (.tmp 17),none,0⟩,
 ⟨(some 19),.call 146 true [(.tmp 18)],none,0⟩,
 ⟨(some 20),.mov (.cst (.c (.int .i64 0))),none,0⟩])
 (.block 0 (.loop ⟨[6,7,21,22,23,24,25,26,27,28,29,30,31,32,33,34,35,36,37,38],false,[]⟩
 (.seq (.region 0 [] [
 ⟨(some 21),.bin .lss (.tmp 20) (.tmp 19),none,0⟩])
 (.seq (.cond (.tmp 21)
 .skip
 (.exit 0))
 (.seq (.block 1 (.seq (.region 0 [] [
 ⟨(some 22),.mov (.tmp 20),none,0⟩,
 ⟨(some 7),.mov (.tmp 22),none,0⟩])
 (.seq (.region 0 [(0,1),(0,2),(1,2),(0,3),(1,3),(2,3),(0,4),(1,4),(0,5),(1,5),(0,6),(1,6),(0,7),(1,7),(2,7),(3,7),(4,7),(5,7),(6,7),(0,8),(1,8)] [
 ⟨(some 23),.load none (.tmp 3),none,0⟩,
 ⟨(some 24),.mov (.tmp 0),none,0⟩,
 ⟨(some 25),.load none (.tmp 1),none,0⟩,
 ⟨(some 26),.mov (.tmp 0),none,0⟩,
 ⟨(some 27),.iaddr 2 (.tmp 25) (.tmp 26),none,0⟩,
 ⟨(some 28),.faddr 0 (.tmp 27),none,0⟩,
 ⟨(some 29),.load none (.tmp 28),none,0⟩,
 ⟨(some 30),.mov (.tmp 7),none,0⟩,
 ⟨(some 31),.bin .add (.tmp 29) (.tmp 30),none,0⟩,
 ⟨(some 32),.iaddr 1 (.tmp 23) (.tmp 24),none,0⟩,
 ⟨none,.store none (.tmp 32) (.tmp 31),none,0⟩])
 (.seq (.region 0 [] [
 ⟨(some 33),.load none (.tmp 4),none,0⟩,
 ⟨(some 34),.mov (.tmp 0),none,0⟩,
 ⟨(some 35),.bin .add (.tmp 34) (.cst (.c (.int .i64 1))),none,0⟩,
 ⟨(some 36),.callv (.tmp 33) [(.tmp 35)],none,0⟩,
 ⟨(some 37),.not (.tmp 36),none,0⟩])
 (.cond (.tmp 37)
 (.seq (.region 0 [] [
 ⟨(some 6),.mov (.cst (.c (.bool false))),none,0⟩])
 .ret)
 .skip)))))
 (.region 0 [] [
 ⟨(some 38),.bin .add (.tmp 20) (.cst (.c (.int .i64 1))),none,0⟩,
 ⟨(some 20),.mov (.tmp 38),none,0⟩])))))))
 (.seq (.region 0 [] [
 ⟨(some 6),.mov (.cst (.c (.bool true))),none,0⟩])
 .ret))))⟩
def f194 : AFunc:=⟨19,[.tmp 4],false,
 (.seq (.region 0 [] [
 ⟨(some 4),.mov (.cst (.c (.int .i64 0))),none,0⟩])
 (.seq (.seq (.region 0 [] [
 ⟨(some 6),.mov (.tmp 0),none,0⟩,
 ⟨(some 7),.len (.tmp 6),none,0⟩,
 ⟨(some 8),.mov (.cst (.c (.int .i64 0))),none,0⟩])
 (.block 0 (.loop ⟨[4,5,9,10,11,12,13,14,15,16,17,18],false,[]⟩
 (.seq (.region 0 [] [
 ⟨(some 9),.bin .lss (.tmp 8) (.tmp 7),none,0⟩])
 (.seq (.cond (.tmp 9)
 .skip
 (.exit 0))
 (.seq (.block 1 (.seq (.region 0 [] [
 ⟨(some 10),.mov (.tmp 8),none,0⟩,
 ⟨(some 5),.mov (.tmp 10),none,0⟩])
 (.seq (.region 0 [] [
 ⟨(some 11),.mov (.tmp 1),none,0⟩,
 ⟨(some 12),.mov (.tmp 0),none,0⟩,
 ⟨(some 13),.mov (.tmp 5),none,0⟩,
 ⟨(some 14),.iaddr 1 (.tmp 12) (.tmp 13),none,0⟩,
 ⟨(some 15),.load none (.tmp 14),none,0⟩,
 ⟨(some 16),.bin .eql (.tmp 11) (.tmp 15),none,0⟩])
 (.cond (.tmp 16)
 (.seq (.region 0 [] [
 ⟨(some 17),.mov (.tmp 5),none,0⟩,
 ⟨(some 4),.mov (.tmp 17),none,0⟩])
 .ret)
 .skip))))
 (.region 0 [] [
 ⟨(some 18),.bin .add (.tmp 8) (.cst (.c (.int .i64 1))),none,0⟩,
 ⟨(some 8),.mov (.tmp 18),none,0⟩])))))))
 (.seq (.region 0 [] [
 ⟨(some 4),.mov (.cst (.c (.int .i64 (-1)))),none,0⟩])
 .ret)))⟩
def tabL : List (Option AFunc):=[none,none,none,none,none,none,none,none,none,some f9,none,none,none,none,none,none,some f16,some f17,none,none,none,none,some f22,none,none,some f25,none,none,some f28,none,none,none,none,none,some f34,some f35,none,none,none,some f39,some f40,some f41,none,none,none,none,some f46,some f47,some f48,some f49,some f50,some f51,some f52,none,none,none,none,some f57,none,none,none,none,some f62,some f63,some f64,none,none,none,some f68,some f69,some f70,some f71,none,none,some f74,some f75,some f76,some f77,none,none,none,some f81,some f82,some f83,some f84,some f85,some f86,some f87,some f88,some f89,none,some f91,some f92,some f93,some f94,some f95,some f96,some f97,some f98,some f99,some f100,some f101,some f102,none,some f104,some f105,none,none,none,some f109,some f110,some f111,some f112,some f113,none,none,none,none,some f118,some f119,some f120,some f121,some f122,some f123,some f124,some f125,some f126,some f127,none,some f129,some f130,some f131,some f132,some f133,some f134,some f135,some f136,some f137,some f138,some f139,some f140,some f141,some f142,some f143,some f144,some f145,some f146,some f147,some f148,some f149,some f150,some f151,some f152,some f153,some f154,some f155,none,none,some f158,none,some f160,some f161,some f162,some f163,some f164,some f165,some f166,some f167,some f168,some f169,some f170,some f171,some f172,some f173,some f174,some f175,some f176,some f177,some f178,some f179,some f180,some f181,some f182,some f183,some f184,some f185,some f186,some f187,some f188,some f189,some f190,some f191,some f192,some f193,some f194,none,none,none,none,none,none,none,none,none,none,none,none,none,none,none,none,none]
def tab (k:Nat):Option AFunc:=(nth tabL k).join
def annL : List (Nat × Nat × Ann):=[(9,0,⟨[0,5,6,39,40,41,42,43,44,45,46,47,48,49,50,51,52,53,54,55,56,57,58,59,60,61,62],false,[]⟩),(9,2,⟨[0,8,9,10,11,63,64,65,66,67,68,69,70,71,72,73,74,75,76,77,78,79,80,81,82,83,84,85,86,87,88,89,90,91,92,93,94,95,96,97,98],false,[]⟩),(10,0,⟨[6,12,13,14,15,16,55,56,57,58,59,60,61,62,63,64,65,66,67,68,69,70,71,72,73,74,75,76,77,78,79,80,81,82,83,84,85,86,87,88,89,90,91,92,93,94,95,96,97,98,99,100,101,102,103,104,105,106,107,108,109,110,111,112,113,114,115,116,117,118,119,120,121,122,123,124,125,126,127,128,129],false,[]⟩),(10,2,⟨[6,186,187,188,189,190,191,192,193,194,195,196,197,198,199,200,201,202,203,204,205,206,207,208,209],false,[]⟩),(11,0,⟨[8,28,29,164,165,166,167,168,169,170,171,172,173,174,175,176,177,178,179,180,181,182,183,184,185,186,187,188,189],false,[]⟩),(11,2,⟨[170,171,172,173,174,175,176,177,178,179,180,181,182,183,184,185,186,187],false,[]⟩),(13,0,⟨[6,92,93,94,95,96,97,98,99,100,101,102,103],false,[]⟩),(18,0,⟨[16,17,18,19,20,21,22,23,24,25,26,27,28,29,30,31,32,33],true,[(3,(some 13),2)]⟩),(19,0,⟨[6,7,8,9,10,11,12,13,14,15,16,17,18,19,20,21,22,23,24,25],true,[(3,none,2)]⟩),(23,0,⟨[4,5,9,10,11,12,13,14,15,16,17,18,19,20,21,22,23,24,25,26,27,28,29,30,31,32,33,34,35,36,37,38,39,40,41,42,43,44,45,46,47,48,49,50,51,52],true,[]⟩),(24,0,⟨[4,37,38,39,40,41,42,43,44,45,46,47,48,49,50,51,52,53,54,55,56,57,58,59,60,61,62],false,[]⟩),(25,0,⟨[4,11,12,13,14,15,16,17,18,19,20,21,22,23,24,25],false,[]⟩),(26,0,⟨[14,15,16,17,18,19,20,21,22,23,24,25,26,27,28,29,30,31,32,33,34,35,36,37,38,39,40,41,42,43,44],false,[]⟩),(27,0,⟨[11,22,23,24,25,26,27,28,29,30,31,32,33,34,35,36,37,38],true,[(10,none,1)]⟩),(28,0,⟨[6,7,10,24,25,26,27,28,29,30,31,32],false,[]⟩),(31,0,⟨[8,10,11,12,13,14,15,16,17,18,19,20,21,22],false,[]⟩),(33,0,⟨[9,10,11,12,13,14,15,16,17,18,19,20,21,22,23],false,[]⟩),(38,0,⟨[8,9,10,11,12,13,14,15,16,17,18,19,20,21,22,23,24,25,26,27,28,29,30,31,32,33,34,35,36,37,38,39,40,41,42,43,44,45,46,47,48,49,50,51],false,[]⟩),(42,0,⟨[11,12,13,14,15,16,17,18,19,20,21,22,23,24,25,26,27,28,29,30,31,32,33,34,35,36,37,38,39,40,41],false,[]⟩),(43,0,⟨[12,13,14,15,16,17,18,19,20,21,22,23,24,25,26,27,28,29,30,31,32,33,34,35,36,37,38,39,40,41,42,43,44,45,46,47],false,[]⟩),(43,2,⟨[33,34,35,36,37,38,39,40,41,42,43,44,45,46,47],false,[]⟩),(44,0,⟨[13,14,15,16,17,18,19,20,21,22,23,24,25,26,27,28,29,30,31,32,33,34,35,36,37,38],false,[]⟩),(50,0,⟨[7,8,9,22,23,24,25,26,27,28,29,30,31,32,33,34,35,36,37,38,39,40,41,42,43,44],false,[(6,none,1)]⟩),(50,2,⟨[8,9,25,26,27,28,29,30,31,32,33,34,35,36,37,38,39],false,[]⟩),(50,4,⟨[9,31,32,33,34,35,36,37,38],false,[]⟩),(56,0,⟨[5,6,7,8,9,10,11,12,13,14,15,16,17,18,19,20,21,22,23,24,25,26,27,28],true,[(3,none,2)]⟩),(58,0,⟨[27,28,29,30,31,32,33,34,35,36,37,38,39,40,41,42,43,44],true,[(3,(some 8),2)]⟩),(58,2,⟨[6,45,46,47,48,49,50,51,52,53,54,55,56,57,58,59,60,61,62,63,64,65,66,67,68],true,[(3,(some 9),3)]⟩),(58,4,⟨[8,69,70,71,72,73,74,75,76,77,78,79,80,81,82,83,84,85,86,87,88,89,90,91,92,93],true,[(3,(some 11),4)]⟩),(60,0,⟨[5,6,7,8,9,10,11,12,13,14,15,16],false,[]⟩),(63,0,⟨[5,7,8,26,27,28,29,30,31,32,33,34,35,36,37,38,39],false,[]⟩),(64,0,⟨[10,18,19,20,21,22,23,24,25,26,27,28,29,30,31,32,33,34],true,[]⟩),(67,0,⟨[2,42,43,44,45,46,47,48,49,50,51,52,53,54,55],false,[]⟩),(68,0,⟨[7,19,20,21,22,23,24,25,26,27,28,29,30,31,32,33],false,[(6,none,4)]⟩),(72,0,⟨[9,14,15,16,17,18,19,20,21,22,23,24,25,26,27,28,29,30,31,32,33,34,35,36,37,38,39,40,41,42,43,44,45,46,47,48,49,50,51,52,53,54,55,56,57,58,59,60,61,62,63,64,65,66,67,68,69,70,71,72,73,74],true,[(5,none,2)]⟩),(72,2,⟨[53,54,55,56,57,58,59,60,61,62,63,64,65,66,67,68],false,[]⟩),(78,0,⟨[10,12,17,18,19,20,21,22,23,24,25,26,27,28,29,30,31,32,33,34,35,36,37,38,39,40,41,42,43,44,45,46,47],false,[]⟩),(79,0,⟨[7,8,9,10,11,12,13,14,15,16,17,18,19,20,21,22,23,24],true,[(5,none,1)]⟩),(80,0,⟨[8,9,10,11,12,13,14,15,16,17,18,19,20,21,22,23,24,25,26],true,[(4,none,3)]⟩),(82,0,⟨[5,6,7,8,10,18,19,20,21,22,23,24,25,26,27,28,29,30,31,32,33,34,35,36,37,38,39,40,41,42,43,44,45,46,47,48,49,50],false,[]⟩),(82,2,⟨[10,35,36,37,38,39,40,41,42],false,[]⟩),(83,0,⟨[16,17,18,36,37,38,39,40,41,42,43,44,45,46,47,48,49,50,51,52,53,54,55],false,[]⟩),(86,0,⟨[10,34,35,36,37,38,39,40,41,42,43,44,45,46,47,48,49,50],false,[]⟩),(94,0,⟨[10,11,12,13,14,15,16,17,18,19,20,21,22,23,24,25,26,27,28,29,30,31,32,33,34,35,36],false,[(2,none,2)]⟩),(96,1,⟨[6,76,77,78,79,80,81,82,83,84,85],false,[]⟩),(97,0,⟨[4,5,6,33,34,35,36,37,38,39,40,41,42,43,44,45],true,[]⟩),(101,0,⟨[8,9,22,23,24,25,26,27,28,29,30,31,32,33,34],false,[(6,none,1)]⟩),(106,0,⟨[7,17,18,19,20,21,22,23],false,[]⟩),(107,0,⟨[2,5,73,74,75,76,77,78,79,80,81,82,83,84,85,86,87,88,89,90,91,92,93,94,95,96,97,98,99,100,101,102,103,104,105,106,107,108,109,110,111,112,113,114,115,116],true,[]⟩),(107,2,⟨[2,117,118,119,120,121,122,123,124,125,126,127,128,129,130,131,132,133,134,135,136,137,138,139,140,141,142,143],false,[]⟩),(108,0,⟨[13,14,15,16,17,18,19,20,21,22,23,24,25,26,27,28],false,[]⟩),(113,0,⟨[8,16,17,18,19,20,21,22],false,[]⟩),(114,0,⟨[4,6,7,8,9,10,11,12,13,14,15,16,17,18,19],false,[]⟩),(115,0,⟨[5,6,7,8,9,10,11,12,13,14,15,16,17,18,19,20,21,22,23,24,25,26,27,28,29,30,31,32,33,34,35,36,37,38],true,[(3,none,1)]⟩),(115,2,⟨[13,14,15,16,17,18,19,20,21,22,23,24,25,26,27,28,29,30,31,32,33,34],false,[]⟩),(128,0,⟨[7,38,39,40,41,42,43,44,45,46,47,48,49,50,51,52,53,54,55,56,57,58,59,60,61,62,63,64,65],true,[(5,(some 2),1)]⟩),(129,0,⟨[4,5,9,10,11,12,13,14,15,16,17,18],false,[]⟩),(134,0,⟨[12,13,14,15,16,17,18,19,20,21,22,23],false,[]⟩),(135,0,⟨[7,8,9,33,34,35,36,37,38,39,40,41,42,43,44,45,46,47,48,49,50,51,52,53,54,55,56,57,58,59,60,61,62,63,64,65,66,67,68,69,70,71,72,73,74,75,76,77,78,79,80,81,82,83,84,85,86,87],false,[]⟩),(135,2,⟨[8,9,50,51,52,53,54,55,56,57,58,59,60,61,62,63,64,65,66,67,68,69,70,71,72,73,74,75,76,77,78,79,80,81,82,83,84,85,86],false,[]⟩),(161,0,⟨[4,5,9,10,11,12,13,14,15,16,17,18],false,[]⟩),(162,0,⟨[6,7,17,18,19,20,21,22,23,24,25,26,27,28,29,30,31,32,33,34,35,36,37,38,39],false,[]⟩),(162,2,⟨[7,27,28,29,30,31,32,33,34,35,36,37,38],false,[]⟩),(163,0,⟨[8,34,35,36,37,38,39,40,41,42,43,44,45,46,47,48,49,50,51,52],false,[]⟩),(181,0,⟨[5,6,7,20,21,22,23,24,25,26,27,28,29,30,31,32,33,34,35,36,37,38,39,40,41,42,43,44,45,46,47,48,49,50,51,52,53,54,55,56,57,58,59,60,61,62,63,64,65,66,67,68,69,70,71,72,73,74,75,76,77,78,79,80,81,82],false,[]⟩),(181,2,⟨[67,68,69,70,71,72,73,74],false,[]⟩),(182,2,⟨[8,9,36,37,38,39,40,41,42,43,44,45,46,47,48,49,50,51],false,[]⟩),(187,0,⟨[4,5,9,10,11,12,13,14,15,16,17,18],false,[]⟩),(188,0,⟨[4,5,9,10,11,12,13,14,15,16,17,18],false,[]⟩),(189,0,⟨[4,5,9,10,11,12,13,14,15,16,17,18],false,[]⟩),(190,0,⟨[4,5,9,10,11,12,13,14,15,16,17,18],false,[]⟩),(191,0,⟨[4,5,9,10,11,12,13,14,15,16,17,18],false,[]⟩),(193,0,⟨[6,7,21,22,23,24,25,26,27,28,29,30,31,32,33,34,35,36,37,38],false,[]⟩),(194,0,⟨[4,5,9,10,11,12,13,14,15,16,17,18],false,[]⟩)]
def dropL : List Nat:=[139,141,173,175]
def cloneL : List (Nat × Nat):=[]
def growL : List (Nat × Nat):=[]
def pureL : List Nat:=[0,1,2,3,4,5,6,7,8,9,10,11,12,13,14,15,16,17,18,19,20,21,22,23,24,25,26,27,28,29,30,31,32,33,34,35,36,37,38,39,40,41,42,43,44,45,46,47,48,49,50,51,52,53,54,55,56,57,58,59,60,61,62,63,64,65,66,67,68,69,71,72,73,76,78,79,80,85,87,89,90,91,95,96,97,98,99,103,107,108,109,113,114,115,116,117,118,119,121,127,128,133,134,136,137,139,141,144,145,146,147,148,149,155,156,157,159,164,170,171,176,184,185,194,196]
def pinL : List (Nat × Nat × Nat × Bool):=[(99999,0,66,false),(9,100,46,false),(9,196,47,false)]
end Am.Vt
