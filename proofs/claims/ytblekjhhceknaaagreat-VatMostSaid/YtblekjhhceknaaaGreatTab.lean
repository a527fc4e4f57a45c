/-
  A part of the proof: the texts VtTab of this seat, joined.
-/
import Derived.Test.YtblekjhhceknaaaGreatTabA
namespace Am.Vt
open Go Am
set_option maxRecDepth 100000
def f26 : AFunc:=⟨43,[.tmp 8,.tmp 9],false,
 (.seq (.region 2 [] [
 ⟨(some 4),.box (.tmp 0),none,0⟩,
 ⟨(some 5),.box (.tmp 1),none,1⟩,
 ⟨(some 8),.mov (.cst (.c .nils)),none,2⟩,
 ⟨(some 9),.mov (.cst (.c (.int .i64 0))),none,2⟩])
 (.seq (.seq (.region 0 [] [
 ⟨(some 12),.load (some 12) (.tmp 4),none,0⟩,
 ⟨(some 13),.call 22 true [(.tmp 12)],none,0⟩,
 ⟨(some 10),.mov (.tmp 13),none,0⟩])
 (.seq (.region 0 [] [
 ⟨(some 14),.mov (.tmp 10),none,0⟩,
 ⟨(some 15),.bin .neq (.tmp 14) (.cst (.c (.int .i64 0))),none,0⟩])
 (.cond (.tmp 15)
 (.seq (.region 0 [] [
 ⟨(some 16),.mov (.tmp 10),none,0⟩,
 ⟨(some 8),.mov (.cst (.c .nils)),none,0⟩,
 ⟨(some 9),.mov (.tmp 16),none,0⟩])
 .ret)
 .skip)))
 (.seq (.seq (.region 0 [] [
 ⟨(some 17),.load (some 12) (.tmp 4),none,0⟩,
 ⟨(some 18),.load (some 3) (.tmp 5),none,0⟩,
 ⟨(some 19),.call 71 true [(.tmp 17),(.tmp 18)],none,0⟩,
 ⟨(some 20),.not (.tmp 19),none,0⟩,
 ⟨(some 21),.mov (.tmp 20),none,0⟩,
 ⟨(some 22),.load (some 12) (.tmp 4),some (21,false),0⟩,
 ⟨(some 23),.mov (.tmp 2),some (21,false),0⟩,
 ⟨(some 24),.call 91 true [(.tmp 22),(.tmp 23)],some (21,false),0⟩,
 ⟨(some 25),.not (.tmp 24),some (21,false),0⟩,
 ⟨(some 26),.pick (.tmp 21) (.cst (.c (.bool true))) (.tmp 25),none,0⟩,
 ⟨(some 27),.mov (.tmp 26),none,0⟩,
 ⟨(some 28),.mov (.tmp 3),some (27,false),0⟩,
 ⟨(some 29),.call 85 true [(.tmp 28)],some (27,false),0⟩,
 ⟨(some 30),.not (.tmp 29),some (27,false),0⟩,
 ⟨(some 31),.pick (.tmp 27) (.cst (.c (.bool true))) (.tmp 30),none,0⟩])
 (.cond (.tmp 31)
 (.seq (.region 0 [] [
 ⟨(some 8),.mov (.cst (.c .nils)),none,0⟩,
 ⟨(some 9),.mov (.cst (.c (.int .i64 2))),none,0⟩])
 .ret)
 .skip))
 (.seq (.region 0 [] [
 ⟨(some 32),.load (some 12) (.tmp 4),none,0⟩,
 ⟨(some 33),.call 72 false [(.tmp 32)],none,0⟩,
 ⟨(some 11),.mov (.tmp 33),none,0⟩])
 (.seq (.region 0 [] [
 ⟨(some 34),.mov (.tmp 11),none,0⟩,
 ⟨(some 35),.mov (.tmp 11),none,0⟩,
 ⟨(some 36),.load (some 3) (.tmp 5),none,0⟩,
 ⟨(some 37),.call 73 false [(.tmp 35),(.tmp 36)],none,0⟩,
 ⟨(some 38),.mov (.tmp 2),none,0⟩,
 ⟨(some 39),.iaddr 2 (.tmp 37) (.tmp 38),none,0⟩,
 ⟨(some 40),.load (some 2) (.tmp 39),none,0⟩,
 ⟨(some 41),.mov (.tmp 3),none,0⟩,
 ⟨(some 42),.call 92 false [(.tmp 34),(.tmp 40),(.tmp 41)],none,0⟩,
 ⟨(some 8),.mov (.tmp 42),none,0⟩,
 ⟨(some 9),.mov (.cst (.c (.int .i64 0))),none,0⟩])
 .ret)))))⟩
def f27 : AFunc:=⟨29,[.cell 6 (some 2),.tmp 7],false,
 (.seq (.region 4 [] [
 ⟨(some 3),.box (.tmp 0),none,0⟩,
 ⟨(some 4),.box (.tmp 1),none,1⟩,
 ⟨(some 5),.box (.tmp 2),none,2⟩,
 ⟨(some 6),.alloc [(.int .i64 0),(.int .i64 0)],none,3⟩,
 ⟨(some 7),.mov (.cst (.c (.int .i64 0))),none,4⟩])
 (.seq (.region 1 [(0,1),(0,2),(1,2),(0,3),(0,4),(0,5),(0,6),(0,7),(10,11),(0,12),(1,12),(2,12),(3,12),(4,12),(5,12),(6,12),(7,12),(9,12),(10,12),(11,12),(11,13)] [
 ⟨(some 11),.load (some 12) (.tmp 3),none,0⟩,
 ⟨(some 12),.load (some 12) (.tmp 3),none,0⟩,
 ⟨(some 13),.load none (.tmp 4),none,0⟩,
 ⟨(some 14),.call 91 true [(.tmp 12),(.tmp 13)],none,0⟩,
 ⟨(some 15),.mov (.tmp 14),none,0⟩,
 ⟨(some 16),.load none (.tmp 5),some (15,true),0⟩,
 ⟨(some 17),.call 85 true [(.tmp 16)],some (15,true),0⟩,
 ⟨(some 18),.pick (.tmp 15) (.tmp 17) (.cst (.c (.bool false))),none,0⟩,
 ⟨(some 19),.call 93 false [(.tmp 11),(.tmp 18)],none,0⟩,
 ⟨(some 10),.mov (.tmp 19),none,0⟩,
 ⟨(some 20),.extract 0 (.tmp 10),none,0⟩,
 ⟨(some 21),.extract 1 (.tmp 10),none,0⟩,
 ⟨(some 8),.alloc [.nilp],none,0⟩,
 ⟨none,.store none (.tmp 8) (.tmp 20),none,1⟩,
 ⟨(some 9),.mov (.tmp 21),none,1⟩])
 (.seq (.seq (.region 0 [] [
 ⟨(some 22),.mov (.tmp 9),none,0⟩,
 ⟨(some 23),.bin .neq (.tmp 22) (.cst (.c (.int .i64 0))),none,0⟩])
 (.cond (.tmp 23)
 (.seq (.region 0 [] [
 ⟨(some 24),.build [(.int .i64 0),(.int .i64 0)] [],none,0⟩,
 ⟨(some 25),.mov (.tmp 9),none,0⟩,
 ⟨none,.store (some 2) (.tmp 6) (.tmp 24),none,0⟩,
 ⟨(some 7),.mov (.tmp 25),none,0⟩])
 .ret)
 .skip))
 (.seq (.region 0 [] [
 ⟨(some 26),.load none (.tmp 8),none,0⟩,
 ⟨(some 27),.mkfn 95 none [(.tmp 8),(.tmp 4),(.tmp 5)],none,0⟩,
 ⟨(some 28),.call 94 false [(.tmp 26),(.tmp 27)],none,0⟩,
 ⟨none,.store (some 2) (.tmp 6) (.tmp 28),none,0⟩,
 ⟨(some 7),.mov (.cst (.c (.int .i64 0))),none,0⟩])
 .ret))))⟩
def f29 : AFunc:=⟨15,[.tmp 6],false,
 (.seq (.region 0 [] [
 ⟨(some 6),.mov (.cst (.c (.bool false))),none,0⟩])
 (.seq (.region 0 [] [
 ⟨(some 7),.mov (.tmp 0),none,0⟩,
 ⟨(some 8),.mov (.tmp 1),none,0⟩,
 ⟨(some 9),.bin .geq (.tmp 7) (.tmp 8),none,0⟩,
 ⟨(some 10),.mov (.tmp 9),none,0⟩,
 ⟨(some 11),.mov (.tmp 0),some (10,true),0⟩,
 ⟨(some 12),.mov (.tmp 2),some (10,true),0⟩,
 ⟨(some 13),.bin .leq (.tmp 11) (.tmp 12),some (10,true),0⟩,
 ⟨(some 14),.pick (.tmp 10) (.tmp 13) (.cst (.c (.bool false))),none,0⟩,
 ⟨(some 6),.mov (.tmp 14),none,0⟩])
 .ret))⟩
def f30 : AFunc:=⟨26,[.tmp 4],false,
 (.seq (.region 0 [] [
 ⟨(some 4),.mov (.cst (.c (.bool false))),none,0⟩])
 (.seq (.seq (.region 0 [] [
 ⟨(some 6),.mov (.tmp 0),none,0⟩,
 ⟨(some 7),.len (.tmp 6),none,0⟩,
 ⟨(some 8),.mov (.tmp 1),none,0⟩,
 ⟨(some 9),.len (.tmp 8),none,0⟩,
 ⟨(some 10),.bin .neq (.tmp 7) (.tmp 9),none,0⟩])
 (.cond (.tmp 10)
 (.seq (.region 0 [] [
 ⟨(some 4),.mov (.cst (.c (.bool false))),none,0⟩])
 .ret)
 .skip))
 (.seq (.seq (.region 0 [] [
 ⟨(some 5),.mov (.cst (.c (.int .i64 0))),none,0⟩])
 (.block 0 (.loop ⟨[4,11,12,13,14,15,16,17,18,19,20,21,22,23,24,25],false,[]⟩
 (.seq (.seq (.region 0 [] [
 ⟨(some 11),.mov (.tmp 5),none,0⟩,
 ⟨(some 12),.mov (.tmp 0),none,0⟩,
 ⟨(some 13),.len (.tmp 12),none,0⟩,
 ⟨(some 14),.bin .lss (.tmp 11) (.tmp 13),none,0⟩])
 (.cond (.tmp 14)
 .skip
 (.exit 0)))
 (.seq (.block 1 (.seq (.region 0 [(0,1),(0,4),(1,4),(2,4),(3,4),(0,5),(1,5),(2,5),(3,5),(4,5),(0,6),(1,6),(2,6),(3,6),(0,7),(1,7),(2,7),(3,7)] [
 ⟨(some 17),.mov (.tmp 0),none,0⟩,
 ⟨(some 18),.mov (.tmp 5),none,0⟩,
 ⟨(some 19),.iaddr 1 (.tmp 17) (.tmp 18),none,0⟩,
 ⟨(some 20),.load none (.tmp 19),none,0⟩,
 ⟨(some 21),.mov (.tmp 1),none,0⟩,
 ⟨(some 22),.mov (.tmp 5),none,0⟩,
 ⟨(some 23),.iaddr 1 (.tmp 21) (.tmp 22),none,0⟩,
 ⟨(some 24),.load none (.tmp 23),none,0⟩,
 ⟨(some 25),.bin .neq (.tmp 20) (.tmp 24),none,0⟩])
 (.cond (.tmp 25)
 (.seq (.region 0 [] [
 ⟨(some 4),.mov (.cst (.c (.bool false))),none,0⟩])
 .ret)
 .skip)))
 (.region 0 [] [
 ⟨(some 15),.mov (.tmp 5),none,0⟩,
 ⟨(some 16),.bin .add (.tmp 15) (.cst (.c (.int .i64 1))),none,0⟩,
 ⟨(some 5),.mov (.tmp 16),none,0⟩]))))))
 (.seq (.region 0 [] [
 ⟨(some 4),.mov (.cst (.c (.bool true))),none,0⟩])
 .ret))))⟩
def f32 : AFunc:=⟨8,[.cell 2 (some 2)],false,
 (.seq (.region 2 [] [
 ⟨(some 1),.box (.tmp 0),none,0⟩,
 ⟨(some 2),.alloc [(.int .i64 0),(.int .i64 0)],none,1⟩])
 (.seq (.region 0 [] [
 ⟨(some 3),.faddr 0 (.tmp 1),none,0⟩,
 ⟨(some 4),.load none (.tmp 3),none,0⟩,
 ⟨(some 5),.faddr 1 (.tmp 1),none,0⟩,
 ⟨(some 6),.load none (.tmp 5),none,0⟩,
 ⟨(some 7),.build [(.int .i64 0),(.int .i64 0)] [(0,1,(.tmp 4)),(1,1,(.tmp 6))],none,0⟩,
 ⟨none,.store (some 2) (.tmp 2) (.tmp 7),none,0⟩])
 .ret))⟩
def f34 : AFunc:=⟨35,[.tmp 2,.tmp 3],false,
 (.seq (.region 1 [] [
 ⟨(some 1),.box (.tmp 0),none,0⟩,
 ⟨(some 2),.mov (.cst (.c .nils)),none,1⟩,
 ⟨(some 3),.mov (.cst (.c (.int .i64 0))),none,1⟩])
 (.seq (.region 0 [] [
 ⟨(some 9),.load (some 12) (.tmp 1),none,0⟩,
 ⟨(some 10),.call 93 false [(.tmp 9),(.cst (.c (.bool true)))],none,0⟩,
 ⟨(some 8),.mov (.tmp 10),none,0⟩,
 ⟨(some 11),.extract 0 (.tmp 8),none,0⟩,
 ⟨(some 12),.extract 1 (.tmp 8),none,0⟩,
 ⟨(some 4),.mov (.tmp 11),none,0⟩,
 ⟨(some 5),.mov (.tmp 12),none,0⟩])
 (.seq (.seq (.region 0 [] [
 ⟨(some 13),.mov (.tmp 5),none,0⟩,
 ⟨(some 14),.bin .neq (.tmp 13) (.cst (.c (.int .i64 0))),none,0⟩])
 (.cond (.tmp 14)
 (.seq (.region 0 [] [
 ⟨(some 15),.mov (.tmp 5),none,0⟩,
 ⟨(some 2),.mov (.cst (.c .nils)),none,0⟩,
 ⟨(some 3),.mov (.tmp 15),none,0⟩])
 .ret)
 .skip))
 (.seq (.region 0 [] [
 ⟨(some 6),.mov (.cst (.c .nils)),none,0⟩])
 (.seq (.seq (.region 0 [] [
 ⟨(some 16),.load (some 12) (.tmp 1),none,0⟩,
 ⟨(some 17),.call 79 true [(.tmp 16)],none,0⟩,
 ⟨(some 18),.mov (.cst (.c (.int .i64 0))),none,0⟩])
 (.block 0 (.loop ⟨[7,19,20,21,22,23,24,25,26,27,28,29,30,31,32,33],false,[(6,none,4)]⟩
 (.seq (.region 0 [] [
 ⟨(some 19),.bin .lss (.tmp 18) (.tmp 17),none,0⟩])
 (.seq (.cond (.tmp 19)
 .skip
 (.exit 0))
 (.seq (.block 1 (.seq (.region 0 [] [
 ⟨(some 20),.mov (.tmp 18),none,0⟩,
 ⟨(some 7),.mov (.tmp 20),none,0⟩])
 (.region 2 [] [
 ⟨(some 21),.mov (.tmp 6),none,0⟩,
 ⟨(some 22),.build [.nilfn] [(0,1,(.cst (.c (.fn 98 false [] []))))],none,0⟩,
 ⟨(some 23),.mov (.tmp 4),none,0⟩,
 ⟨(some 24),.mov (.tmp 7),none,0⟩,
 ⟨(some 25),.call 99 false [(.tmp 22),(.tmp 23),(.tmp 24)],none,0⟩,
 ⟨(some 26),.build [.nilfn] [(0,1,(.cst (.c (.fn 100 false [] []))))],none,0⟩,
 ⟨(some 27),.mov (.tmp 4),none,0⟩,
 ⟨(some 28),.mov (.tmp 7),none,0⟩,
 ⟨(some 29),.call 99 false [(.tmp 26),(.tmp 27),(.tmp 28)],none,0⟩,
 ⟨(some 30),.build [(.int .i64 0),(.int .i64 0),(.int .i64 0),(.int .i64 0)] [(0,2,(.tmp 25)),(2,2,(.tmp 29))],none,0⟩,
 ⟨(some 31),.bslice 4 1 [(.int .i64 0),(.int .i64 0),(.int .i64 0),(.int .i64 0)] [(0,(.tmp 30))],none,0⟩,
 ⟨(some 32),.append 4 32 (.tmp 21) (.tmp 31),none,1⟩,
 ⟨(some 6),.mov (.tmp 32),none,2⟩])))
 (.region 0 [] [
 ⟨(some 33),.bin .add (.tmp 18) (.cst (.c (.int .i64 1))),none,0⟩,
 ⟨(some 18),.mov (.tmp 33),none,0⟩])))))))
 (.seq (.region 0 [] [
 ⟨(some 34),.mov (.tmp 6),none,0⟩,
 ⟨(some 2),.mov (.tmp 34),none,0⟩,
 ⟨(some 3),.mov (.cst (.c (.int .i64 0))),none,0⟩])
 .ret))))))⟩
def f35 : AFunc:=⟨50,[.tmp 4,.tmp 5],false,
 (.seq (.region 2 [] [
 ⟨(some 2),.box (.tmp 0),none,0⟩,
 ⟨(some 3),.box (.tmp 1),none,1⟩,
 ⟨(some 4),.mov (.cst (.c (.int .i64 0))),none,2⟩,
 ⟨(some 5),.mov (.cst (.c (.int .i64 0))),none,2⟩])
 (.seq (.region 0 [(0,1),(0,2),(1,2),(0,3),(6,7),(7,8)] [
 ⟨(some 14),.load (some 12) (.tmp 2),none,0⟩,
 ⟨(some 15),.load (some 12) (.tmp 2),none,0⟩,
 ⟨(some 16),.load none (.tmp 3),none,0⟩,
 ⟨(some 17),.call 91 true [(.tmp 15),(.tmp 16)],none,0⟩,
 ⟨(some 18),.call 93 false [(.tmp 14),(.tmp 17)],none,0⟩,
 ⟨(some 13),.mov (.tmp 18),none,0⟩,
 ⟨(some 19),.extract 0 (.tmp 13),none,0⟩,
 ⟨(some 20),.extract 1 (.tmp 13),none,0⟩,
 ⟨(some 6),.mov (.tmp 19),none,0⟩,
 ⟨(some 7),.mov (.tmp 20),none,0⟩])
 (.seq (.seq (.region 0 [] [
 ⟨(some 21),.mov (.tmp 7),none,0⟩,
 ⟨(some 22),.bin .neq (.tmp 21) (.cst (.c (.int .i64 0))),none,0⟩])
 (.cond (.tmp 22)
 (.seq (.region 0 [] [
 ⟨(some 23),.mov (.tmp 7),none,0⟩,
 ⟨(some 4),.mov (.cst (.c (.int .i64 0))),none,0⟩,
 ⟨(some 5),.mov (.tmp 23),none,0⟩])
 .ret)
 .skip))
 (.seq (.region 2 [] [
 ⟨(some 8),.alloc [(.bool false)],none,0⟩,
 ⟨(some 9),.alloc [(.bool false)],none,1⟩,
 ⟨none,.store none (.tmp 8) (.cst (.c (.bool false))),none,2⟩,
 ⟨none,.store none (.tmp 9) (.cst (.c (.bool false))),none,2⟩])
 (.seq (.seq (.region 0 [] [
 ⟨(some 24),.mov (.tmp 6),none,0⟩,
 ⟨(some 25),.call 101 false [(.tmp 24),(.cst (.c .nils))],none,0⟩])
 (.block 0 (.range (.tmp 25) [26,27]
 (.region 0 [] [
 ⟨(some 11),.mov (.tmp 27),none,0⟩])
 (.block 1 (.seq (.region 0 [(0,1),(0,2),(1,2),(0,3),(0,4),(0,5)] [
 ⟨(some 28),.load (some 12) (.tmp 2),none,0⟩,
 ⟨(some 29),.mov (.tmp 11),none,0⟩,
 ⟨(some 30),.load none (.tmp 3),none,0⟩,
 ⟨(some 31),.iaddr 2 (.tmp 29) (.tmp 30),none,0⟩,
 ⟨(some 32),.faddr 0 (.tmp 31),none,0⟩,
 ⟨(some 33),.load none (.tmp 32),none,0⟩,
 ⟨(some 34),.call 102 true [(.tmp 28),(.tmp 33)],none,0⟩,
 ⟨(some 12),.mov (.tmp 34),none,0⟩])
 (.region 0 [] [
 ⟨(some 35),.load none (.tmp 8),none,0⟩,
 ⟨(some 36),.mov (.tmp 35),none,0⟩,
 ⟨(some 37),.mov (.tmp 12),some (36,false),0⟩,
 ⟨(some 38),.pick (.tmp 36) (.cst (.c (.bool true))) (.tmp 37),none,0⟩,
 ⟨(some 39),.load none (.tmp 9),none,0⟩,
 ⟨(some 40),.mov (.tmp 39),none,0⟩,
 ⟨(some 41),.mov (.tmp 12),some (40,false),0⟩,
 ⟨(some 42),.not (.tmp 41),some (40,false),0⟩,
 ⟨(some 43),.pick (.tmp 40) (.cst (.c (.bool true))) (.tmp 42),none,0⟩,
 ⟨none,.store none (.tmp 8) (.tmp 38),none,0⟩,
 ⟨none,.store none (.tmp 9) (.tmp 43),none,0⟩]))))))
 (.seq (.block 2 (.seq (.region 0 [] [
 ⟨(some 45),.load none (.tmp 9),none,0⟩,
 ⟨(some 46),.not (.tmp 45),none,0⟩,
 ⟨(some 44),.mov (.tmp 46),none,0⟩])
 (.cond (.tmp 44)
 (.seq (.region 0 [] [
 ⟨(some 4),.mov (.cst (.c (.int .i64 1))),none,0⟩,
 ⟨(some 5),.mov (.cst (.c (.int .i64 0))),none,0⟩])
 .ret)
 (.seq (.region 0 [] [
 ⟨(some 48),.load none (.tmp 8),none,0⟩,
 ⟨(some 49),.not (.tmp 48),none,0⟩,
 ⟨(some 47),.mov (.tmp 49),none,0⟩])
 (.cond (.tmp 47)
 (.seq (.region 0 [] [
 ⟨(some 4),.mov (.cst (.c (.int .i64 2))),none,0⟩,
 ⟨(some 5),.mov (.cst (.c (.int .i64 0))),none,0⟩])
 .ret)
 .skip)))))
 (.seq (.region 0 [] [
 ⟨(some 4),.mov (.cst (.c (.int .i64 3))),none,0⟩,
 ⟨(some 5),.mov (.cst (.c (.int .i64 0))),none,0⟩])
 .ret)))))))⟩
def f38 : AFunc:=⟨69,[.tmp 2,.tmp 3],false,
 (.seq (.region 1 [] [
 ⟨(some 1),.box (.tmp 0),none,0⟩,
 ⟨(some 2),.mov (.cst (.c .nils)),none,1⟩,
 ⟨(some 3),.mov (.cst (.c (.int .i64 0))),none,1⟩])
 (.seq (.region 0 [] [
 ⟨(some 13),.load (some 12) (.tmp 1),none,0⟩,
 ⟨(some 14),.call 93 false [(.tmp 13),(.cst (.c (.bool true)))],none,0⟩,
 ⟨(some 12),.mov (.tmp 14),none,0⟩,
 ⟨(some 15),.extract 0 (.tmp 12),none,0⟩,
 ⟨(some 16),.extract 1 (.tmp 12),none,0⟩,
 ⟨(some 4),.mov (.tmp 15),none,0⟩,
 ⟨(some 5),.mov (.tmp 16),none,0⟩])
 (.seq (.seq (.region 0 [] [
 ⟨(some 17),.mov (.tmp 5),none,0⟩,
 ⟨(some 18),.bin .neq (.tmp 17) (.cst (.c (.int .i64 0))),none,0⟩])
 (.cond (.tmp 18)
 (.seq (.region 0 [] [
 ⟨(some 19),.mov (.tmp 5),none,0⟩,
 ⟨(some 2),.mov (.cst (.c .nils)),none,0⟩,
 ⟨(some 3),.mov (.tmp 19),none,0⟩])
 .ret)
 .skip))
 (.seq (.region 0 [] [
 ⟨(some 20),.mov (.tmp 4),none,0⟩,
 ⟨(some 21),.mov (.tmp 4),none,0⟩,
 ⟨(some 22),.call 104 false [(.tmp 21)],none,0⟩,
 ⟨(some 23),.call 103 false [(.tmp 20),(.tmp 22)],none,0⟩,
 ⟨(some 6),.mov (.tmp 23),none,0⟩])
 (.seq (.region 1 [] [
 ⟨(some 24),.mov (.tmp 6),none,0⟩,
 ⟨(some 25),.len (.tmp 24),none,0⟩,
 ⟨(some 26),.mkslice 1 8 [(.int .i64 0)] (.tmp 25),none,0⟩,
 ⟨(some 7),.mov (.tmp 26),none,1⟩])
 (.seq (.seq (.region 0 [] [
 ⟨(some 27),.mov (.tmp 6),none,0⟩,
 ⟨(some 28),.len (.tmp 27),none,0⟩,
 ⟨(some 29),.bin .eql (.tmp 28) (.cst (.c (.int .i64 0))),none,0⟩])
 (.cond (.tmp 29)
 (.seq (.region 0 [] [
 ⟨(some 30),.mov (.tmp 7),none,0⟩,
 ⟨(some 2),.mov (.tmp 30),none,0⟩,
 ⟨(some 3),.mov (.cst (.c (.int .i64 0))),none,0⟩])
 .ret)
 .skip))
 (.seq (.region 0 [] [
 ⟨(some 31),.mov (.tmp 6),none,0⟩,
 ⟨(some 32),.mov (.tmp 6),none,0⟩,
 ⟨(some 33),.len (.tmp 32),none,0⟩,
 ⟨(some 34),.bin .sub (.tmp 33) (.cst (.c (.int .i64 1))),none,0⟩,
 ⟨(some 35),.iaddr 2 (.tmp 31) (.tmp 34),none,0⟩,
 ⟨(some 36),.faddr 0 (.tmp 35),none,0⟩,
 ⟨(some 37),.load none (.tmp 36),none,0⟩,
 ⟨(some 8),.mov (.tmp 37),none,0⟩])
 (.seq (.seq (.region 0 [] [
 ⟨(some 38),.mov (.tmp 6),none,0⟩,
 ⟨(some 39),.len (.tmp 38),none,0⟩,
 ⟨(some 40),.bin .sub (.tmp 39) (.cst (.c (.int .i64 1))),none,0⟩,
 ⟨(some 9),.mov (.tmp 40),none,0⟩])
 (.block 0 (.loop ⟨[10,11,41,42,43,44,45,46,47,48,49,50,51,52,53,54,55,56,57,58,59,60,61,62,63,64,65,66,67],false,[]⟩
 (.seq (.seq (.region 0 [] [
 ⟨(some 41),.mov (.tmp 9),none,0⟩,
 ⟨(some 42),.bin .geq (.tmp 41) (.cst (.c (.int .i64 0))),none,0⟩])
 (.cond (.tmp 42)
 .skip
 (.exit 0)))
 (.seq (.block 1 (.seq (.region 1 [] [
 ⟨(some 45),.build [(.int .i64 0),(.int .i64 0)] [],none,0⟩,
 ⟨(some 10),.alloc [(.int .i64 0),(.int .i64 0)],none,0⟩,
 ⟨none,.store (some 2) (.tmp 10) (.tmp 45),none,1⟩])
 (.seq (.seq (.region 0 [] [
 ⟨(some 46),.mov (.tmp 9),none,0⟩,
 ⟨(some 47),.bin .gtr (.tmp 46) (.cst (.c (.int .i64 0))),none,0⟩])
 (.cond (.tmp 47)
 (.region 0 [] [
 ⟨(some 48),.mov (.tmp 6),none,0⟩,
 ⟨(some 49),.mov (.tmp 9),none,0⟩,
 ⟨(some 50),.bin .sub (.tmp 49) (.cst (.c (.int .i64 1))),none,0⟩,
 ⟨(some 51),.iaddr 2 (.tmp 48) (.tmp 50),none,0⟩,
 ⟨(some 52),.load (some 2) (.tmp 51),none,0⟩,
 ⟨none,.store (some 2) (.tmp 10) (.tmp 52),none,0⟩])
 .skip))
 (.seq (.region 1 [(0,2),(1,2),(0,3),(1,3),(0,4),(1,4),(2,4),(3,4),(0,5),(1,5),(0,6),(1,6)] [
 ⟨(some 53),.faddr 0 (.tmp 10),none,0⟩,
 ⟨(some 54),.load none (.tmp 53),none,0⟩,
 ⟨(some 55),.faddr 1 (.tmp 10),none,0⟩,
 ⟨(some 56),.load none (.tmp 55),none,0⟩,
 ⟨(some 57),.mov (.tmp 8),none,0⟩,
 ⟨(some 58),.bslice 1 2 [(.int .i64 0)] [(0,(.tmp 56)),(1,(.tmp 57))],none,0⟩,
 ⟨(some 59),.call 87 true [(.tmp 58)],none,1⟩,
 ⟨(some 60),.mm true (.tmp 54) (.tmp 59),none,1⟩,
 ⟨(some 11),.mov (.tmp 60),none,1⟩])
 (.seq (.region 0 [] [
 ⟨(some 61),.mov (.tmp 7),none,0⟩,
 ⟨(some 62),.mov (.tmp 9),none,0⟩,
 ⟨(some 63),.mov (.tmp 8),none,0⟩,
 ⟨(some 64),.mov (.tmp 11),none,0⟩,
 ⟨(some 65),.bin .sub (.tmp 63) (.tmp 64),none,0⟩,
 ⟨(some 66),.iaddr 1 (.tmp 61) (.tmp 62),none,0⟩,
 ⟨none,.store none (.tmp 66) (.tmp 65),none,0⟩])
 (.region 0 [] [
 ⟨(some 67),.mov (.tmp 11),none,0⟩,
 ⟨(some 8),.mov (.tmp 67),none,0⟩]))))))
 (.region 0 [] [
 ⟨(some 43),.mov (.tmp 9),none,0⟩,
 ⟨(some 44),.bin .sub (.tmp 43) (.cst (.c (.int .i64 1))),none,0⟩,
 ⟨(some 9),.mov (.tmp 44),none,0⟩]))))))
 (.seq (.region 0 [] [
 ⟨(some 68),.mov (.tmp 7),none,0⟩,
 ⟨(some 2),.mov (.tmp 68),none,0⟩,
 ⟨(some 3),.mov (.cst (.c (.int .i64 0))),none,0⟩])
 .ret)))))))))⟩
def f39 : AFunc:=⟨47,[.tmp 4],false,
 (.seq (.region 1 [] [
 ⟨(some 2),.box (.tmp 0),none,0⟩,
 ⟨(some 4),.mov (.cst (.c (.bool false))),none,1⟩])
 (.seq (.region 0 [(0,1),(0,2),(0,3),(1,3),(2,3),(0,4),(1,4),(2,4),(0,5),(0,6),(0,7),(0,8),(0,9),(12,13),(13,14)] [
 ⟨(some 12),.load (some 12) (.tmp 2),none,0⟩,
 ⟨(some 13),.mov (.tmp 1),none,0⟩,
 ⟨(some 14),.len (.tmp 13),none,0⟩,
 ⟨(some 15),.load (some 12) (.tmp 2),none,0⟩,
 ⟨(some 16),.call 79 true [(.tmp 15)],none,0⟩,
 ⟨(some 17),.bin .leq (.tmp 14) (.tmp 16),none,0⟩,
 ⟨(some 18),.mov (.tmp 17),none,0⟩,
 ⟨(some 19),.mov (.tmp 1),some (18,true),0⟩,
 ⟨(some 20),.call 84 false [(.tmp 19),(.cst (.c (.fn 105 false [] [])))],some (18,true),0⟩,
 ⟨(some 21),.pick (.tmp 18) (.tmp 20) (.cst (.c (.bool false))),none,0⟩,
 ⟨(some 22),.call 93 false [(.tmp 12),(.tmp 21)],none,0⟩,
 ⟨(some 11),.mov (.tmp 22),none,0⟩,
 ⟨(some 23),.extract 0 (.tmp 11),none,0⟩,
 ⟨(some 24),.extract 1 (.tmp 11),none,0⟩,
 ⟨(some 5),.mov (.tmp 23),none,0⟩,
 ⟨(some 6),.mov (.tmp 24),none,0⟩])
 (.seq (.seq (.region 0 [] [
 ⟨(some 25),.mov (.tmp 6),none,0⟩,
 ⟨(some 26),.bin .neq (.tmp 25) (.cst (.c (.int .i64 0))),none,0⟩])
 (.cond (.tmp 26)
 (.seq (.region 0 [] [
 ⟨(some 4),.mov (.cst (.c (.bool false))),none,0⟩])
 .ret)
 .skip))
 (.seq (.region 1 [] [
 ⟨(some 27),.mov (.tmp 5),none,0⟩,
 ⟨(some 28),.call 104 false [(.tmp 27)],none,0⟩,
 ⟨(some 7),.alloc [(.int .i64 0),(.int .i64 0),(.int .i64 0),(.int .i64 0),(.int .i64 0),(.int .i64 0),(.int .i64 0),(.int .i64 0),(.int .i64 0),(.int .i64 0),(.int .i64 0),(.int .i64 0),(.int .i64 0),(.int .i64 0),(.int .i64 0),(.int .i64 0),(.int .i64 0),(.int .i64 0),.nils,(.int .i64 0),(.int .i64 0),.nils,(.int .i64 0),(.int .i64 0),.nils,(.int .i64 0),(.int .i64 0),.nils,(.int .i64 0),(.int .i64 0),.nils,(.int .i64 0),(.int .i64 0),.nils,(.int .i64 0),(.int .i64 0),.nils,(.int .i64 0),(.int .i64 0),.nils,(.int .i64 0),(.int .i64 0),.nils,(.int .i64 0),(.int .i64 0),.nils,(.int .i64 0),(.int .i64 0),.nils,(.int .i64 0),(.int .i64 0),.nils,(.int .i64 0),(.int .i64 0),.nils,(.int .i64 0),(.int .i64 0),.nils,(.int .i64 0),(.int .i64 0),.nils,(.int .i64 0),(.int .i64 0),.nils],none,0⟩,
 ⟨none,.store (some 64) (.tmp 7) (.tmp 28),none,1⟩])
 (.seq (.region 0 [] [
 ⟨(some 8),.mov (.cst (.c (.int .i64 0))),none,0⟩])
 (.seq (.seq (.region 0 [] [
 ⟨(some 29),.mov (.tmp 1),none,0⟩,
 ⟨(some 30),.len (.tmp 29),none,0⟩,
 ⟨(some 31),.mov (.cst (.c (.int .i64 0))),none,0⟩])
 (.block 0 (.loop ⟨[4,9,10,32,33,34,35,36,37,38,39,40,41,42,43,44,45,46],false,[]⟩
 (.seq (.region 0 [] [
 ⟨(some 32),.bin .lss (.tmp 31) (.tmp 30),none,0⟩])
 (.seq (.cond (.tmp 32)
 .skip
 (.exit 0))
 (.seq (.block 1 (.seq (.region 0 [] [
 ⟨(some 33),.mov (.tmp 31),none,0⟩,
 ⟨(some 34),.iaddr 1 (.tmp 29) (.tmp 31),none,0⟩,
 ⟨(some 35),.load none (.tmp 34),none,0⟩,
 ⟨(some 9),.mov (.tmp 33),none,0⟩,
 ⟨(some 10),.mov (.tmp 35),none,0⟩])
 (.seq (.region 0 [] [
 ⟨(some 36),.mov (.tmp 8),none,0⟩,
 ⟨(some 37),.mov (.tmp 10),none,0⟩,
 ⟨(some 38),.bin .add (.tmp 36) (.tmp 37),none,0⟩,
 ⟨(some 8),.mov (.tmp 38),none,0⟩])
 (.seq (.region 0 [] [
 ⟨(some 39),.mov (.tmp 5),none,0⟩,
 ⟨(some 40),.load (some 64) (.tmp 7),none,0⟩,
 ⟨(some 41),.mov (.tmp 9),none,0⟩,
 ⟨(some 42),.call 107 false [(.tmp 39),(.tmp 40),(.tmp 41)],none,0⟩,
 ⟨(some 43),.mov (.tmp 8),none,0⟩,
 ⟨(some 44),.call 108 true [(.tmp 42),(.tmp 43)],none,0⟩,
 ⟨(some 45),.not (.tmp 44),none,0⟩])
 (.cond (.tmp 45)
 (.seq (.region 0 [] [
 ⟨(some 4),.mov (.cst (.c (.bool false))),none,0⟩])
 .ret)
 .skip)))))
 (.region 0 [] [
 ⟨(some 46),.bin .add (.tmp 31) (.cst (.c (.int .i64 1))),none,0⟩,
 ⟨(some 31),.mov (.tmp 46),none,0⟩])))))))
 (.seq (.region 0 [] [
 ⟨(some 4),.mov (.cst (.c (.bool true))),none,0⟩])
 .ret)))))))⟩
def f40 : AFunc:=⟨5,[.tmp 2],false,
 (.seq (.region 0 [] [
 ⟨(some 2),.mov (.cst (.c .nils)),none,0⟩])
 (.seq (.region 1 [] [
 ⟨(some 3),.mov (.tmp 0),none,0⟩,
 ⟨(some 4),.append 1 8 (.cst (.c .nils)) (.tmp 3),none,0⟩,
 ⟨(some 2),.mov (.tmp 4),none,1⟩])
 .ret))⟩
def f44 : AFunc:=⟨70,[.cell 2 (some 8),.tmp 3],false,
 (.seq (.region 2 [] [
 ⟨(some 1),.box (.tmp 0),none,0⟩,
 ⟨(some 2),.alloc [(.int .i64 0),(.int .i64 0),(.int .i64 0),(.int .i64 0),.nils,(.int .i64 0),(.int .i64 0),.nils],none,1⟩,
 ⟨(some 3),.mov (.cst (.c (.int .i64 0))),none,2⟩])
 (.seq (.region 0 [] [
 ⟨(some 12),.load (some 12) (.tmp 1),none,0⟩,
 ⟨(some 13),.call 93 false [(.tmp 12),(.cst (.c (.bool true)))],none,0⟩,
 ⟨(some 11),.mov (.tmp 13),none,0⟩,
 ⟨(some 14),.extract 0 (.tmp 11),none,0⟩,
 ⟨(some 15),.extract 1 (.tmp 11),none,0⟩,
 ⟨(some 4),.mov (.tmp 14),none,0⟩,
 ⟨(some 5),.mov (.tmp 15),none,0⟩])
 (.seq (.seq (.region 0 [] [
 ⟨(some 16),.mov (.tmp 5),none,0⟩,
 ⟨(some 17),.bin .neq (.tmp 16) (.cst (.c (.int .i64 0))),none,0⟩])
 (.cond (.tmp 17)
 (.seq (.region 0 [] [
 ⟨(some 18),.build [(.int .i64 0),(.int .i64 0),(.int .i64 0),(.int .i64 0),.nils,(.int .i64 0),(.int .i64 0),.nils] [],none,0⟩,
 ⟨(some 19),.mov (.tmp 5),none,0⟩,
 ⟨none,.store (some 8) (.tmp 2) (.tmp 18),none,0⟩,
 ⟨(some 3),.mov (.tmp 19),none,0⟩])
 .ret)
 .skip))
 (.seq (.region 1 [] [
 ⟨(some 20),.mov (.tmp 4),none,0⟩,
 ⟨(some 21),.call 104 false [(.tmp 20)],none,0⟩,
 ⟨(some 6),.alloc [(.int .i64 0),(.int .i64 0),(.int .i64 0),(.int .i64 0),(.int .i64 0),(.int .i64 0),(.int .i64 0),(.int .i64 0),(.int .i64 0),(.int .i64 0),(.int .i64 0),(.int .i64 0),(.int .i64 0),(.int .i64 0),(.int .i64 0),(.int .i64 0),(.int .i64 0),(.int .i64 0),.nils,(.int .i64 0),(.int .i64 0),.nils,(.int .i64 0),(.int .i64 0),.nils,(.int .i64 0),(.int .i64 0),.nils,(.int .i64 0),(.int .i64 0),.nils,(.int .i64 0),(.int .i64 0),.nils,(.int .i64 0),(.int .i64 0),.nils,(.int .i64 0),(.int .i64 0),.nils,(.int .i64 0),(.int .i64 0),.nils,(.int .i64 0),(.int .i64 0),.nils,(.int .i64 0),(.int .i64 0),.nils,(.int .i64 0),(.int .i64 0),.nils,(.int .i64 0),(.int .i64 0),.nils,(.int .i64 0),(.int .i64 0),.nils,(.int .i64 0),(.int .i64 0),.nils,(.int .i64 0),(.int .i64 0),.nils],none,0⟩,
 ⟨none,.store (some 64) (.tmp 6) (.tmp 21),none,1⟩])
 (.seq (.region 0 [] [
 ⟨(some 22),.mov (.tmp 4),none,0⟩,
 ⟨(some 23),.load (some 64) (.tmp 6),none,0⟩,
 ⟨(some 24),.call 103 false [(.tmp 22),(.tmp 23)],none,0⟩,
 ⟨(some 25),.len (.tmp 24),none,0⟩,
 ⟨(some 7),.mov (.tmp 25),none,0⟩])
 (.seq (.seq (.region 0 [] [
 ⟨(some 26),.mov (.tmp 7),none,0⟩,
 ⟨(some 27),.load (some 12) (.tmp 1),none,0⟩,
 ⟨(some 28),.call 79 true [(.tmp 27)],none,0⟩,
 ⟨(some 29),.bin .eql (.tmp 26) (.tmp 28),none,0⟩])
 (.cond (.tmp 29)
 (.seq (.region 0 [] [
 ⟨(some 30),.build [(.int .i64 0),(.int .i64 0),(.int .i64 0),(.int .i64 0),.nils,(.int .i64 0),(.int .i64 0),.nils] [],none,0⟩,
 ⟨none,.store (some 8) (.tmp 2) (.tmp 30),none,0⟩,
 ⟨(some 3),.mov (.cst (.c (.int .i64 7))),none,0⟩])
 .ret)
 .skip))
 (.seq (.region 1 [] [
 ⟨(some 8),.alloc [(.int .i64 0),(.int .i64 0),(.int .i64 0),(.int .i64 0),.nils,(.int .i64 0),(.int .i64 0),.nils],none,0⟩])
 (.seq .skip
 (.seq (.seq (.region 0 [] [
 ⟨(some 31),.mov (.tmp 7),none,0⟩,
 ⟨(some 32),.call 110 true [(.tmp 31)],none,0⟩,
 ⟨(some 33),.len (.tmp 32),none,0⟩,
 ⟨(some 34),.mov (.cst (.c (.int .i64 0))),none,0⟩])
 (.block 0 (.loop ⟨[10,35,36,37,38,39,40,41,42,43,44,45,46,47,48,49,50,51,52,53,54,55,56,57,58,59,60,61,62,63,64,65,66,67,68],false,[]⟩
 (.seq (.region 0 [] [
 ⟨(some 35),.bin .lss (.tmp 34) (.tmp 33),none,0⟩])
 (.seq (.cond (.tmp 35)
 .skip
 (.exit 0))
 (.seq (.block 1 (.seq (.region 0 [] [
 ⟨(some 36),.iaddr 1 (.tmp 32) (.tmp 34),none,0⟩,
 ⟨(some 37),.load none (.tmp 36),none,0⟩,
 ⟨(some 10),.mov (.tmp 37),none,0⟩])
 (.seq (.region 1 [] [
 ⟨(some 38),.mov (.tmp 7),none,0⟩,
 ⟨(some 39),.mov (.tmp 10),none,0⟩,
 ⟨(some 40),.build [(.int .i64 0),(.int .i64 0),(.int .i64 0),(.int .i64 0),.nils,(.int .i64 0),(.int .i64 0),.nils] [(0,1,(.tmp 38)),(1,1,(.tmp 39))],none,0⟩,
 ⟨(some 41),.mov (.tmp 10),none,0⟩,
 ⟨(some 42),.mov (.tmp 7),none,0⟩,
 ⟨(some 43),.build [(.int .i64 0),(.int .i64 0),(.int .i64 0),(.int .i64 0),.nils,(.int .i64 0),(.int .i64 0),.nils] [(0,1,(.tmp 41)),(1,1,(.tmp 42))],none,0⟩,
 ⟨(some 44),.bslice 8 2 [(.int .i64 0),(.int .i64 0),(.int .i64 0),(.int .i64 0),.nils,(.int .i64 0),(.int .i64 0),.nils] [(0,(.tmp 40)),(1,(.tmp 43))],none,0⟩,
 ⟨(some 45),.len (.tmp 44),none,1⟩,
 ⟨(some 46),.mov (.cst (.c (.int .i64 0))),none,1⟩])
 (.block 2 (.loop ⟨[47,48,49,50,51,52,53,54,55,56,57,58,59,60,61,62,63,64,65,66,67],false,[]⟩
 (.seq (.region 0 [] [
 ⟨(some 47),.bin .lss (.tmp 46) (.tmp 45),none,0⟩])
 (.seq (.cond (.tmp 47)
 .skip
 (.exit 2))
 (.seq (.block 3 (.seq (.region 0 [] [
 ⟨(some 48),.iaddr 8 (.tmp 44) (.tmp 46),none,0⟩,
 ⟨(some 49),.load (some 8) (.tmp 48),none,0⟩,
 ⟨none,.store (some 8) (.tmp 8) (.tmp 49),none,0⟩])
 (.seq (.region 0 [(0,3),(1,3),(2,3),(0,6),(1,6),(2,6),(3,6),(4,6),(5,6),(0,7),(1,7),(2,7),(3,7),(4,7),(5,7),(0,8),(1,8),(2,8),(3,8),(4,8),(5,8),(0,9),(1,9),(2,9),(3,9),(4,9),(5,9),(6,9),(7,9),(8,9),(0,10),(1,10),(2,10),(3,10),(4,10),(5,10),(0,11),(1,11),(2,11),(3,11),(4,11),(5,11),(8,12),(9,12),(10,12),(11,12),(8,13),(9,13),(10,13),(11,13)] [
 ⟨(some 50),.faddr 0 (.tmp 8),none,0⟩,
 ⟨(some 51),.load none (.tmp 50),none,0⟩,
 ⟨(some 52),.mm true (.cst (.c (.int .i64 0))) (.tmp 51),none,0⟩,
 ⟨(some 53),.faddr 16 (.tmp 6),none,0⟩,
 ⟨(some 54),.iaddrA 8 3 (.tmp 53) (.tmp 52),none,0⟩,
 ⟨(some 55),.load (some 3) (.tmp 54),none,0⟩,
 ⟨(some 56),.faddr 1 (.tmp 8),none,0⟩,
 ⟨(some 57),.load none (.tmp 56),none,0⟩,
 ⟨(some 58),.mm true (.cst (.c (.int .i64 0))) (.tmp 57),none,0⟩,
 ⟨(some 59),.faddr 40 (.tmp 6),none,0⟩,
 ⟨(some 60),.iaddrA 8 3 (.tmp 59) (.tmp 58),none,0⟩,
 ⟨(some 61),.load (some 3) (.tmp 60),none,0⟩,
 ⟨(some 62),.faddr 2 (.tmp 8),none,0⟩,
 ⟨none,.store (some 3) (.tmp 62) (.tmp 55),none,0⟩,
 ⟨(some 63),.faddr 5 (.tmp 8),none,0⟩,
 ⟨none,.store (some 3) (.tmp 63) (.tmp 61),none,0⟩])
 (.seq (.region 0 [] [
 ⟨(some 64),.load (some 12) (.tmp 1),none,0⟩,
 ⟨(some 65),.load (some 8) (.tmp 8),none,0⟩,
 ⟨(some 66),.call 111 true [(.tmp 64),(.tmp 65)],none,0⟩])
 (.cond (.tmp 66)
 (.exit 0)
 .skip)))))
 (.region 0 [] [
 ⟨(some 67),.bin .add (.tmp 46) (.cst (.c (.int .i64 1))),none,0⟩,
 ⟨(some 46),.mov (.tmp 67),none,0⟩])))))))))
 (.region 0 [] [
 ⟨(some 68),.bin .add (.tmp 34) (.cst (.c (.int .i64 1))),none,0⟩,
 ⟨(some 34),.mov (.tmp 68),none,0⟩])))))))
 (.seq (.region 0 [] [
 ⟨(some 69),.load (some 8) (.tmp 8),none,0⟩,
 ⟨none,.store (some 8) (.tmp 2) (.tmp 69),none,0⟩,
 ⟨(some 3),.mov (.cst (.c (.int .i64 0))),none,0⟩])
 .ret))))))))))⟩
def f45 : AFunc:=⟨44,[.tmp 4],false,
 (.seq (.region 2 [] [
 ⟨(some 2),.box (.tmp 0),none,0⟩,
 ⟨(some 3),.box (.tmp 1),none,1⟩,
 ⟨(some 4),.mov (.cst (.c (.bool false))),none,2⟩])
 (.seq (.region 0 [] [
 ⟨(some 6),.faddr 0 (.tmp 3),none,0⟩,
 ⟨(some 7),.load none (.tmp 6),none,0⟩,
 ⟨(some 8),.faddr 0 (.tmp 2),none,0⟩,
 ⟨(some 9),.load none (.tmp 8),none,0⟩,
 ⟨(some 10),.call 106 true [(.tmp 7),(.cst (.c (.int .i64 (-1)))),(.tmp 9)],none,0⟩,
 ⟨(some 11),.mov (.tmp 10),none,0⟩,
 ⟨(some 12),.faddr 1 (.tmp 3),some (11,true),0⟩,
 ⟨(some 13),.load none (.tmp 12),some (11,true),0⟩,
 ⟨(some 14),.faddr 0 (.tmp 2),some (11,true),0⟩,
 ⟨(some 15),.load none (.tmp 14),some (11,true),0⟩,
 ⟨(some 16),.call 106 true [(.tmp 13),(.cst (.c (.int .i64 (-1)))),(.tmp 15)],some (11,true),0⟩,
 ⟨(some 17),.pick (.tmp 11) (.tmp 16) (.cst (.c (.bool false))),none,0⟩,
 ⟨(some 18),.mov (.tmp 17),none,0⟩,
 ⟨(some 19),.faddr 0 (.tmp 3),some (18,true),0⟩,
 ⟨(some 20),.load none (.tmp 19),some (18,true),0⟩,
 ⟨(some 21),.faddr 1 (.tmp 3),some (18,true),0⟩,
 ⟨(some 22),.load none (.tmp 21),some (18,true),0⟩,
 ⟨(some 23),.mm true (.tmp 20) (.tmp 22),some (18,true),0⟩,
 ⟨(some 24),.bin .geq (.tmp 23) (.cst (.c (.int .i64 0))),some (18,true),0⟩,
 ⟨(some 25),.pick (.tmp 18) (.tmp 24) (.cst (.c (.bool false))),none,0⟩,
 ⟨(some 5),.mov (.tmp 25),none,0⟩])
 (.seq (.region 0 [] [
 ⟨(some 26),.mov (.tmp 5),none,0⟩,
 ⟨(some 27),.mov (.tmp 26),none,0⟩,
 ⟨(some 28),.load (some 12) (.tmp 2),some (27,true),0⟩,
 ⟨(some 29),.faddr 2 (.tmp 3),some (27,true),0⟩,
 ⟨(some 30),.load (some 3) (.tmp 29),some (27,true),0⟩,
 ⟨(some 31),.call 20 true [(.tmp 28),(.tmp 30)],some (27,true),0⟩,
 ⟨(some 32),.pick (.tmp 27) (.tmp 31) (.cst (.c (.bool false))),none,0⟩,
 ⟨(some 33),.mov (.tmp 32),none,0⟩,
 ⟨(some 34),.load (some 12) (.tmp 2),some (33,true),0⟩,
 ⟨(some 35),.faddr 5 (.tmp 3),some (33,true),0⟩,
 ⟨(some 36),.load (some 3) (.tmp 35),some (33,true),0⟩,
 ⟨(some 37),.call 20 true [(.tmp 34),(.tmp 36)],some (33,true),0⟩,
 ⟨(some 38),.pick (.tmp 33) (.tmp 37) (.cst (.c (.bool false))),none,0⟩,
 ⟨(some 39),.mov (.tmp 38),none,0⟩,
 ⟨(some 40),.load (some 12) (.tmp 2),some (39,true),0⟩,
 ⟨(some 41),.load (some 8) (.tmp 3),some (39,true),0⟩,
 ⟨(some 42),.call 111 true [(.tmp 40),(.tmp 41)],some (39,true),0⟩,
 ⟨(some 43),.pick (.tmp 39) (.tmp 42) (.cst (.c (.bool false))),none,0⟩,
 ⟨(some 4),.mov (.tmp 43),none,0⟩])
 .ret)))⟩
def f50 : AFunc:=⟨34,[.tmp 2,.tmp 3],false,
 (.seq (.region 1 [] [
 ⟨(some 1),.box (.tmp 0),none,0⟩,
 ⟨(some 2),.mov (.cst (.c (.int .i64 0))),none,1⟩,
 ⟨(some 3),.mov (.cst (.c (.int .i64 0))),none,1⟩])
 (.seq (.seq (.region 0 [] [
 ⟨(some 7),.load (some 12) (.tmp 1),none,0⟩,
 ⟨(some 8),.call 22 true [(.tmp 7)],none,0⟩,
 ⟨(some 4),.mov (.tmp 8),none,0⟩])
 (.seq (.region 0 [] [
 ⟨(some 9),.mov (.tmp 4),none,0⟩,
 ⟨(some 10),.bin .neq (.tmp 9) (.cst (.c (.int .i64 0))),none,0⟩])
 (.cond (.tmp 10)
 (.seq (.region 0 [] [
 ⟨(some 11),.mov (.tmp 4),none,0⟩,
 ⟨(some 2),.mov (.cst (.c (.int .i64 0))),none,0⟩,
 ⟨(some 3),.mov (.tmp 11),none,0⟩])
 .ret)
 .skip)))
 (.seq (.region 0 [] [
 ⟨(some 12),.load (some 12) (.tmp 1),none,0⟩,
 ⟨(some 13),.call 72 false [(.tmp 12)],none,0⟩,
 ⟨(some 5),.mov (.tmp 13),none,0⟩])
 (.seq (.seq (.region 0 [] [
 ⟨(some 14),.faddr 11 (.tmp 1),none,0⟩,
 ⟨(some 15),.load none (.tmp 14),none,0⟩,
 ⟨(some 16),.len (.tmp 15),none,0⟩,
 ⟨(some 17),.mov (.cst (.c (.int .i64 0))),none,0⟩])
 (.block 0 (.loop ⟨[2,3,6,18,19,20,21,22,23,24,25,26,27,28,29,30,31,32,33],false,[]⟩
 (.seq (.region 0 [] [
 ⟨(some 18),.bin .lss (.tmp 17) (.tmp 16),none,0⟩])
 (.seq (.cond (.tmp 18)
 .skip
 (.exit 0))
 (.seq (.block 1 (.seq (.region 0 [] [
 ⟨(some 19),.mov (.tmp 17),none,0⟩,
 ⟨(some 6),.mov (.tmp 19),none,0⟩])
 (.seq (.region 0 [] [
 ⟨(some 20),.mov (.tmp 5),none,0⟩,
 ⟨(some 21),.faddr 11 (.tmp 1),none,0⟩,
 ⟨(some 22),.load none (.tmp 21),none,0⟩,
 ⟨(some 23),.mov (.tmp 6),none,0⟩,
 ⟨(some 24),.bin .add (.tmp 23) (.cst (.c (.int .i64 1))),none,0⟩,
 ⟨(some 25),.slice 4 (.tmp 22) none (some (.tmp 24)),none,0⟩,
 ⟨(some 26),.nilchk (.tmp 20),none,0⟩,
 ⟨(some 27),.faddr 0 (.tmp 26),none,0⟩,
 ⟨(some 28),.faddr 11 (.tmp 27),none,0⟩,
 ⟨none,.store none (.tmp 28) (.tmp 25),none,0⟩])
 (.seq (.region 0 [] [
 ⟨(some 29),.mov (.tmp 5),none,0⟩,
 ⟨(some 30),.call 113 false [(.tmp 29),(.cst (.c .nils))],none,0⟩,
 ⟨(some 31),.not (.tmp 30),none,0⟩])
 (.cond (.tmp 31)
 (.seq (.region 0 [] [
 ⟨(some 32),.mov (.tmp 6),none,0⟩,
 ⟨(some 2),.mov (.tmp 32),none,0⟩,
 ⟨(some 3),.mov (.cst (.c (.int .i64 0))),none,0⟩])
 .ret)
 .skip)))))
 (.region 0 [] [
 ⟨(some 33),.bin .add (.tmp 17) (.cst (.c (.int .i64 1))),none,0⟩,
 ⟨(some 17),.mov (.tmp 33),none,0⟩])))))))
 (.seq (.region 0 [] [
 ⟨(some 2),.mov (.cst (.c (.int .i64 0))),none,0⟩,
 ⟨(some 3),.mov (.cst (.c (.int .i64 7))),none,0⟩])
 .ret)))))⟩
def f51 : AFunc:=⟨29,[.tmp 2,.tmp 3],false,
 (.seq (.region 1 [] [
 ⟨(some 1),.box (.tmp 0),none,0⟩,
 ⟨(some 2),.mov (.cst (.c .nils)),none,1⟩,
 ⟨(some 3),.mov (.cst (.c (.int .i64 0))),none,1⟩])
 (.seq (.seq (.region 0 [] [
 ⟨(some 9),.load (some 12) (.tmp 1),none,0⟩,
 ⟨(some 10),.call 22 true [(.tmp 9)],none,0⟩,
 ⟨(some 4),.mov (.tmp 10),none,0⟩])
 (.seq (.region 0 [] [
 ⟨(some 11),.mov (.tmp 4),none,0⟩,
 ⟨(some 12),.bin .neq (.tmp 11) (.cst (.c (.int .i64 0))),none,0⟩])
 (.cond (.tmp 12)
 (.seq (.region 0 [] [
 ⟨(some 13),.mov (.tmp 4),none,0⟩,
 ⟨(some 2),.mov (.cst (.c .nils)),none,0⟩,
 ⟨(some 3),.mov (.tmp 13),none,0⟩])
 .ret)
 .skip)))
 (.seq (.region 1 [] [
 ⟨(some 14),.load (some 12) (.tmp 1),none,0⟩,
 ⟨(some 15),.call 72 false [(.tmp 14)],none,0⟩,
 ⟨(some 5),.alloc [.nilp],none,0⟩,
 ⟨none,.store none (.tmp 5) (.tmp 15),none,1⟩])
 (.seq (.region 1 [] [
 ⟨(some 6),.alloc [.nils],none,0⟩])
 (.seq (.region 1 [] [
 ⟨(some 7),.alloc [.nilfn],none,0⟩])
 (.seq (.region 0 [] [
 ⟨(some 16),.mkfn 114 none [(.tmp 6),(.tmp 5),(.tmp 1),(.tmp 7)],none,0⟩,
 ⟨none,.store none (.tmp 7) (.tmp 16),none,0⟩])
 (.seq .skip
 (.seq (.seq (.region 0 [] [
 ⟨(some 17),.faddr 11 (.tmp 1),none,0⟩,
 ⟨(some 18),.load none (.tmp 17),none,0⟩,
 ⟨(some 19),.len (.tmp 18),none,0⟩,
 ⟨(some 20),.bin .add (.tmp 19) (.cst (.c (.int .i64 1))),none,0⟩,
 ⟨(some 21),.mov (.cst (.c (.int .i64 0))),none,0⟩])
 (.block 0 (.loop ⟨[8,22,23,24,25,26,27],false,[]⟩
 (.seq (.region 0 [] [
 ⟨(some 22),.bin .lss (.tmp 21) (.tmp 20),none,0⟩])
 (.seq (.cond (.tmp 22)
 .skip
 (.exit 0))
 (.seq (.block 1 (.seq (.region 0 [] [
 ⟨(some 23),.mov (.tmp 21),none,0⟩,
 ⟨(some 8),.mov (.tmp 23),none,0⟩])
 (.seq (.region 0 [] [
 ⟨(some 24),.load none (.tmp 7),none,0⟩,
 ⟨(some 25),.mov (.tmp 8),none,0⟩,
 ⟨(some 26),.callv (.tmp 24) [(.cst (.c .nils)),(.cst (.c (.int .i64 0))),(.tmp 25)],none,0⟩])
 (.cond (.tmp 26)
 (.exit 0)
 .skip))))
 (.region 0 [] [
 ⟨(some 27),.bin .add (.tmp 21) (.cst (.c (.int .i64 1))),none,0⟩,
 ⟨(some 21),.mov (.tmp 27),none,0⟩])))))))
 (.seq (.region 0 [] [
 ⟨(some 28),.load none (.tmp 6),none,0⟩,
 ⟨(some 2),.mov (.tmp 28),none,0⟩,
 ⟨(some 3),.mov (.cst (.c (.int .i64 0))),none,0⟩])
 .ret)))))))))⟩
def f52 : AFunc:=⟨40,[.tmp 2],false,
 (.seq (.region 1 [] [
 ⟨(some 1),.box (.tmp 0),none,0⟩,
 ⟨(some 2),.mov (.cst (.c .nils)),none,1⟩])
 (.seq (.region 0 [] [
 ⟨(some 3),.mov (.cst (.c .nils)),none,0⟩])
 (.seq (.seq (.region 0 [] [
 ⟨(some 4),.mov (.cst (.c (.int .i64 0))),none,0⟩])
 (.block 0 (.loop ⟨[5,6,7,8,9,10,11,12,13,14,15,16,17,18,19,20,21,22,23,24,25,26,27,28,29,30,31,32,33,34,35,36,37,38],true,[(3,none,1)]⟩
 (.seq (.seq (.region 0 [] [
 ⟨(some 7),.mov (.tmp 4),none,0⟩,
 ⟨(some 8),.load (some 12) (.tmp 1),none,0⟩,
 ⟨(some 9),.call 67 true [(.tmp 8)],none,0⟩,
 ⟨(some 10),.bin .lss (.tmp 7) (.tmp 9),none,0⟩])
 (.cond (.tmp 10)
 .skip
 (.exit 0)))
 (.seq (.block 1 (.seq (.region 0 [] [
 ⟨(some 5),.mov (.cst (.c (.int .i64 0))),none,0⟩])
 (.seq (.seq (.region 0 [] [
 ⟨(some 6),.mov (.cst (.c (.int .i64 0))),none,0⟩])
 (.block 2 (.loop ⟨[13,14,15,16,17,18,19,20,21,22,23,24,25,26,27,28,29,30,31,32,33,34],false,[]⟩
 (.seq (.seq (.region 0 [] [
 ⟨(some 13),.mov (.tmp 6),none,0⟩,
 ⟨(some 14),.faddr 11 (.tmp 1),none,0⟩,
 ⟨(some 15),.load none (.tmp 14),none,0⟩,
 ⟨(some 16),.len (.tmp 15),none,0⟩,
 ⟨(some 17),.bin .lss (.tmp 13) (.tmp 16),none,0⟩])
 (.cond (.tmp 17)
 .skip
 (.exit 2)))
 (.seq (.block 3 (.seq (.region 0 [(0,1),(0,2),(1,2),(0,3),(0,4),(1,4),(2,4),(3,4),(0,5),(1,5),(2,5),(3,5),(0,6),(1,6),(2,6),(3,6),(4,6),(5,6),(0,7),(1,7),(2,7),(3,7),(0,8),(1,8),(2,8),(3,8)] [
 ⟨(some 20),.load (some 12) (.tmp 1),none,0⟩,
 ⟨(some 21),.load (some 12) (.tmp 1),none,0⟩,
 ⟨(some 22),.mov (.tmp 4),none,0⟩,
 ⟨(some 23),.call 116 true [(.tmp 21),(.tmp 22)],none,0⟩,
 ⟨(some 24),.faddr 11 (.tmp 1),none,0⟩,
 ⟨(some 25),.load none (.tmp 24),none,0⟩,
 ⟨(some 26),.mov (.tmp 6),none,0⟩,
 ⟨(some 27),.iaddr 4 (.tmp 25) (.tmp 26),none,0⟩,
 ⟨(some 28),.load (some 4) (.tmp 27),none,0⟩,
 ⟨(some 29),.call 89 true [(.tmp 20),(.tmp 23),(.tmp 28)],none,0⟩])
 (.cond (.tmp 29)
 (.region 0 [] [
 ⟨(some 30),.mov (.tmp 5),none,0⟩,
 ⟨(some 31),.mov (.tmp 6),none,0⟩,
 ⟨(some 32),.conv .u64 (.tmp 31),none,0⟩,
 ⟨(some 33),.bin .shl (.cst (.c (.int .i64 1))) (.tmp 32),none,0⟩,
 ⟨(some 34),.bin .or (.tmp 30) (.tmp 33),none,0⟩,
 ⟨(some 5),.mov (.tmp 34),none,0⟩])
 .skip)))
 (.region 0 [] [
 ⟨(some 18),.mov (.tmp 6),none,0⟩,
 ⟨(some 19),.bin .add (.tmp 18) (.cst (.c (.int .i64 1))),none,0⟩,
 ⟨(some 6),.mov (.tmp 19),none,0⟩]))))))
 (.region 2 [] [
 ⟨(some 35),.mov (.tmp 3),none,0⟩,
 ⟨(some 36),.mov (.tmp 5),none,0⟩,
 ⟨(some 37),.bslice 1 1 [(.int .i64 0)] [(0,(.tmp 36))],none,0⟩,
 ⟨(some 38),.append 1 8 (.tmp 35) (.tmp 37),none,1⟩,
 ⟨(some 3),.mov (.tmp 38),none,2⟩]))))
 (.region 0 [] [
 ⟨(some 11),.mov (.tmp 4),none,0⟩,
 ⟨(some 12),.bin .add (.tmp 11) (.cst (.c (.int .i64 1))),none,0⟩,
 ⟨(some 4),.mov (.tmp 12),none,0⟩]))))))
 (.seq (.region 0 [] [
 ⟨(some 39),.mov (.tmp 3),none,0⟩,
 ⟨(some 2),.mov (.tmp 39),none,0⟩])
 .ret))))⟩
def f55 : AFunc:=⟨10,[.tmp 2],false,
 (.seq (.region 1 [] [
 ⟨(some 1),.box (.tmp 0),none,0⟩,
 ⟨(some 2),.mov (.cst (.c (.bool false))),none,1⟩])
 (.seq (.region 0 [] [
 ⟨(some 3),.load (some 12) (.tmp 1),none,0⟩,
 ⟨(some 4),.call 14 true [(.tmp 3)],none,0⟩,
 ⟨(some 5),.mov (.tmp 4),none,0⟩,
 ⟨(some 6),.load (some 12) (.tmp 1),some (5,true),0⟩,
 ⟨(some 7),.call 66 true [(.tmp 6)],some (5,true),0⟩,
 ⟨(some 8),.bin .eql (.tmp 7) (.cst (.c (.int .i64 0))),some (5,true),0⟩,
 ⟨(some 9),.pick (.tmp 5) (.tmp 8) (.cst (.c (.bool false))),none,0⟩,
 ⟨(some 2),.mov (.tmp 9),none,0⟩])
 .ret))⟩
def f59 : AFunc:=⟨28,[.tmp 2],false,
 (.seq (.region 1 [] [
 ⟨(some 1),.box (.tmp 0),none,0⟩,
 ⟨(some 2),.mov (.cst (.c .nils)),none,1⟩])
 (.seq (.region 0 [] [
 ⟨(some 6),.load (some 12) (.tmp 1),none,0⟩,
 ⟨(some 7),.call 52 true [(.tmp 6)],none,0⟩,
 ⟨(some 3),.mov (.tmp 7),none,0⟩])
 (.seq (.region 0 [] [
 ⟨(some 4),.mov (.cst (.c .nils)),none,0⟩])
 (.seq (.seq (.region 0 [] [
 ⟨(some 5),.mov (.cst (.c (.int .i64 0))),none,0⟩])
 (.block 0 (.loop ⟨[8,9,10,11,12,13,14,15,16,17,18,19,20,21,22,23,24,25,26],true,[(4,none,3)]⟩
 (.seq (.seq (.region 0 [] [
 ⟨(some 8),.mov (.tmp 5),none,0⟩,
 ⟨(some 9),.mov (.tmp 3),none,0⟩,
 ⟨(some 10),.len (.tmp 9),none,0⟩,
 ⟨(some 11),.bin .lss (.tmp 8) (.tmp 10),none,0⟩])
 (.cond (.tmp 11)
 .skip
 (.exit 0)))
 (.seq (.block 1 (.seq (.region 0 [(0,1),(0,4),(1,4),(2,4),(3,4),(0,5),(1,5),(2,5),(3,5)] [
 ⟨(some 14),.mov (.tmp 3),none,0⟩,
 ⟨(some 15),.mov (.tmp 5),none,0⟩,
 ⟨(some 16),.iaddr 1 (.tmp 14) (.tmp 15),none,0⟩,
 ⟨(some 17),.load none (.tmp 16),none,0⟩,
 ⟨(some 18),.load (some 12) (.tmp 1),none,0⟩,
 ⟨(some 19),.call 62 true [(.tmp 18)],none,0⟩,
 ⟨(some 20),.bin .eql (.tmp 17) (.tmp 19),none,0⟩])
 (.cond (.tmp 20)
 (.region 2 [] [
 ⟨(some 21),.mov (.tmp 4),none,0⟩,
 ⟨(some 22),.load (some 12) (.tmp 1),none,0⟩,
 ⟨(some 23),.mov (.tmp 5),none,0⟩,
 ⟨(some 24),.call 116 true [(.tmp 22),(.tmp 23)],none,0⟩,
 ⟨(some 25),.bslice 3 1 [(.int .i64 0),(.int .i64 0),.nils] [(0,(.tmp 24))],none,0⟩,
 ⟨(some 26),.append 3 40 (.tmp 21) (.tmp 25),none,1⟩,
 ⟨(some 4),.mov (.tmp 26),none,2⟩])
 .skip)))
 (.region 0 [] [
 ⟨(some 12),.mov (.tmp 5),none,0⟩,
 ⟨(some 13),.bin .add (.tmp 12) (.cst (.c (.int .i64 1))),none,0⟩,
 ⟨(some 5),.mov (.tmp 13),none,0⟩]))))))
 (.seq (.region 0 [] [
 ⟨(some 27),.mov (.tmp 4),none,0⟩,
 ⟨(some 2),.mov (.tmp 27),none,0⟩])
 .ret)))))⟩
def f60 : AFunc:=⟨24,[.tmp 4],false,
 (.seq (.region 1 [] [
 ⟨(some 2),.box (.tmp 0),none,0⟩,
 ⟨(some 4),.mov (.cst (.c (.int .i64 0))),none,1⟩])
 (.seq (.seq (.region 0 [] [
 ⟨(some 7),.mov (.tmp 1),none,0⟩,
 ⟨(some 8),.bin .lss (.tmp 7) (.cst (.c (.int .i64 0))),none,0⟩])
 (.cond (.tmp 8)
 (.seq (.region 0 [] [
 ⟨(some 4),.mov (.cst (.c (.int .i64 0))),none,0⟩])
 .ret)
 .skip))
 (.seq (.region 0 [] [
 ⟨(some 9),.faddr 0 (.tmp 2),none,0⟩,
 ⟨(some 10),.load none (.tmp 9),none,0⟩,
 ⟨(some 5),.mov (.tmp 10),none,0⟩])
 (.seq (.seq (.region 0 [] [
 ⟨(some 6),.mov (.cst (.c (.int .i64 0))),none,0⟩])
 (.block 0 (.loop ⟨[11,12,13,14,15,16,17,18,19,20,21,22],false,[]⟩
 (.seq (.seq (.region 0 [] [
 ⟨(some 11),.mov (.tmp 6),none,0⟩,
 ⟨(some 12),.mov (.tmp 1),none,0⟩,
 ⟨(some 13),.bin .leq (.tmp 11) (.tmp 12),none,0⟩])
 (.cond (.tmp 13)
 .skip
 (.exit 0)))
 (.seq (.block 1 (.region 0 [] [
 ⟨(some 16),.mov (.tmp 5),none,0⟩,
 ⟨(some 17),.faddr 2 (.tmp 2),none,0⟩,
 ⟨(some 18),.load none (.tmp 17),none,0⟩,
 ⟨(some 19),.mov (.tmp 6),none,0⟩,
 ⟨(some 20),.iaddr 1 (.tmp 18) (.tmp 19),none,0⟩,
 ⟨(some 21),.load none (.tmp 20),none,0⟩,
 ⟨(some 22),.bin .add (.tmp 16) (.tmp 21),none,0⟩,
 ⟨(some 5),.mov (.tmp 22),none,0⟩]))
 (.region 0 [] [
 ⟨(some 14),.mov (.tmp 6),none,0⟩,
 ⟨(some 15),.bin .add (.tmp 14) (.cst (.c (.int .i64 1))),none,0⟩,
 ⟨(some 6),.mov (.tmp 15),none,0⟩]))))))
 (.seq (.region 0 [] [
 ⟨(some 23),.mov (.tmp 5),none,0⟩,
 ⟨(some 4),.mov (.tmp 23),none,0⟩])
 .ret)))))⟩
def f61 : AFunc:=⟨29,[.tmp 4],false,
 (.seq (.region 1 [] [
 ⟨(some 2),.box (.tmp 0),none,0⟩,
 ⟨(some 4),.mov (.cst (.c .nils)),none,1⟩])
 (.seq (.region 0 [] [
 ⟨(some 5),.mov (.cst (.c .nils)),none,0⟩])
 (.seq (.seq (.region 0 [] [
 ⟨(some 6),.mov (.cst (.c (.int .i64 0))),none,0⟩])
 (.block 0 (.loop ⟨[7,8,9,10,11,12,13,14,15,16,17,18,19,20,21,22,23,24,25,26,27],true,[(5,none,1)]⟩
 (.seq (.seq (.region 0 [(0,1),(0,2),(0,3),(0,4),(1,4),(2,4),(3,4),(0,5),(1,5),(2,5),(3,5),(0,6),(1,6),(2,6),(3,6),(0,7)] [
 ⟨(some 7),.mov (.tmp 6),none,0⟩,
 ⟨(some 8),.mov (.tmp 1),none,0⟩,
 ⟨(some 9),.call 118 true [(.tmp 8),(.cst (.c (.int .i64 0)))],none,0⟩,
 ⟨(some 10),.bin .quo (.tmp 9) (.cst (.c (.int .i64 8))),none,0⟩,
 ⟨(some 11),.faddr 0 (.tmp 2),none,0⟩,
 ⟨(some 12),.load none (.tmp 11),none,0⟩,
 ⟨(some 13),.bin .add (.tmp 12) (.cst (.c (.int .i64 2))),none,0⟩,
 ⟨(some 14),.bin .rem (.tmp 10) (.tmp 13),none,0⟩,
 ⟨(some 15),.bin .lss (.tmp 7) (.tmp 14),none,0⟩])
 (.cond (.tmp 15)
 .skip
 (.exit 0)))
 (.seq (.block 1 (.region 2 [] [
 ⟨(some 18),.mov (.tmp 5),none,0⟩,
 ⟨(some 19),.mov (.tmp 1),none,0⟩,
 ⟨(some 20),.mov (.tmp 6),none,0⟩,
 ⟨(some 21),.bin .add (.tmp 20) (.cst (.c (.int .i64 1))),none,0⟩,
 ⟨(some 22),.call 118 true [(.tmp 19),(.tmp 21)],none,0⟩,
 ⟨(some 23),.bin .quo (.tmp 22) (.cst (.c (.int .i64 4))),none,0⟩,
 ⟨(some 24),.bin .rem (.tmp 23) (.cst (.c (.int .i64 19))),none,0⟩,
 ⟨(some 25),.bin .sub (.tmp 24) (.cst (.c (.int .i64 9))),none,0⟩,
 ⟨(some 26),.bslice 1 1 [(.int .i64 0)] [(0,(.tmp 25))],none,0⟩,
 ⟨(some 27),.append 1 8 (.tmp 18) (.tmp 26),none,1⟩,
 ⟨(some 5),.mov (.tmp 27),none,2⟩]))
 (.region 0 [] [
 ⟨(some 16),.mov (.tmp 6),none,0⟩,
 ⟨(some 17),.bin .add (.tmp 16) (.cst (.c (.int .i64 1))),none,0⟩,
 ⟨(some 6),.mov (.tmp 17),none,0⟩]))))))
 (.seq (.region 0 [] [
 ⟨(some 28),.mov (.tmp 5),none,0⟩,
 ⟨(some 4),.mov (.tmp 28),none,0⟩])
 .ret))))⟩
def f62 : AFunc:=⟨9,[.tmp 2],false,
 (.seq (.region 1 [] [
 ⟨(some 1),.box (.tmp 0),none,0⟩,
 ⟨(some 2),.mov (.cst (.c (.int .i64 0))),none,1⟩])
 (.seq (.region 0 [] [
 ⟨(some 3),.faddr 11 (.tmp 1),none,0⟩,
 ⟨(some 4),.load none (.tmp 3),none,0⟩,
 ⟨(some 5),.len (.tmp 4),none,0⟩,
 ⟨(some 6),.conv .u64 (.tmp 5),none,0⟩,
 ⟨(some 7),.bin .shl (.cst (.c (.int .i64 1))) (.tmp 6),none,0⟩,
 ⟨(some 8),.bin .sub (.tmp 7) (.cst (.c (.int .i64 1))),none,0⟩,
 ⟨(some 2),.mov (.tmp 8),none,0⟩])
 .ret))⟩
def f66 : AFunc:=⟨147,[.tmp 2],false,
 (.seq (.region 1 [] [
 ⟨(some 1),.box (.tmp 0),none,0⟩,
 ⟨(some 2),.mov (.cst (.c (.int .i64 0))),none,1⟩])
 (.seq (.seq (.region 0 [] [
 ⟨(some 7),.faddr 0 (.tmp 1),none,0⟩,
 ⟨(some 8),.load none (.tmp 7),none,0⟩,
 ⟨(some 9),.bin .gtr (.tmp 8) (.cst (.c (.int .i64 7))),none,0⟩,
 ⟨(some 10),.mov (.tmp 9),none,0⟩,
 ⟨(some 11),.faddr 11 (.tmp 1),some (10,false),0⟩,
 ⟨(some 12),.load none (.tmp 11),some (10,false),0⟩,
 ⟨(some 13),.len (.tmp 12),some (10,false),0⟩,
 ⟨(some 14),.bin .gtr (.tmp 13) (.cst (.c (.int .i64 5))),some (10,false),0⟩,
 ⟨(some 15),.pick (.tmp 10) (.cst (.c (.bool true))) (.tmp 14),none,0⟩])
 (.cond (.tmp 15)
 (.seq (.region 0 [] [
 ⟨(some 2),.mov (.cst (.c (.int .i64 3))),none,0⟩])
 .ret)
 .skip))
 (.seq (.region 0 [] [
 ⟨(some 16),.faddr 0 (.tmp 1),none,0⟩,
 ⟨(some 17),.load none (.tmp 16),none,0⟩,
 ⟨(some 18),.bin .add (.tmp 17) (.cst (.c (.int .i64 1))),none,0⟩,
 ⟨(some 3),.mov (.tmp 18),none,0⟩])
 (.seq (.seq (.region 0 [] [
 ⟨(some 19),.faddr 0 (.tmp 1),none,0⟩,
 ⟨(some 20),.load none (.tmp 19),none,0⟩,
 ⟨(some 21),.bin .lss (.tmp 20) (.cst (.c (.int .i64 0))),none,0⟩,
 ⟨(some 22),.mov (.tmp 21),none,0⟩,
 ⟨(some 23),.faddr 1 (.tmp 1),some (22,false),0⟩,
 ⟨(some 24),.load none (.tmp 23),some (22,false),0⟩,
 ⟨(some 25),.call 29 true [(.tmp 24),(.cst (.c (.int .i64 0))),(.cst (.c (.int .i64 20)))],some (22,false),0⟩,
 ⟨(some 26),.not (.tmp 25),some (22,false),0⟩,
 ⟨(some 27),.pick (.tmp 22) (.cst (.c (.bool true))) (.tmp 26),none,0⟩,
 ⟨(some 28),.mov (.tmp 27),none,0⟩,
 ⟨(some 29),.faddr 2 (.tmp 1),some (28,false),0⟩,
 ⟨(some 30),.load (some 2) (.tmp 29),some (28,false),0⟩,
 ⟨(some 31),.call 120 true [(.tmp 30),(.cst (.c (.int .i64 (-50)))),(.cst (.c (.int .i64 50)))],some (28,false),0⟩,
 ⟨(some 32),.not (.tmp 31),some (28,false),0⟩,
 ⟨(some 33),.pick (.tmp 28) (.cst (.c (.bool true))) (.tmp 32),none,0⟩,
 ⟨(some 34),.mov (.tmp 33),none,0⟩,
 ⟨(some 35),.faddr 4 (.tmp 1),some (34,false),0⟩,
 ⟨(some 36),.load (some 2) (.tmp 35),some (34,false),0⟩,
 ⟨(some 37),.call 120 true [(.tmp 36),(.cst (.c (.int .i64 0))),(.cst (.c (.int .i64 999)))],some (34,false),0⟩,
 ⟨(some 38),.not (.tmp 37),some (34,false),0⟩,
 ⟨(some 39),.pick (.tmp 34) (.cst (.c (.bool true))) (.tmp 38),none,0⟩,
 ⟨(some 40),.mov (.tmp 39),none,0⟩,
 ⟨(some 41),.faddr 6 (.tmp 1),some (40,false),0⟩,
 ⟨(some 42),.load none (.tmp 41),some (40,false),0⟩,
 ⟨(some 43),.call 29 true [(.tmp 42),(.cst (.c (.int .i64 0))),(.cst (.c (.int .i64 50)))],some (40,false),0⟩,
 ⟨(some 44),.not (.tmp 43),some (40,false),0⟩,
 ⟨(some 45),.pick (.tmp 40) (.cst (.c (.bool true))) (.tmp 44),none,0⟩,
 ⟨(some 46),.mov (.tmp 45),none,0⟩,
 ⟨(some 47),.faddr 7 (.tmp 1),some (46,false),0⟩,
 ⟨(some 48),.load none (.tmp 47),some (46,false),0⟩,
 ⟨(some 49),.call 29 true [(.tmp 48),(.cst (.c (.int .i64 0))),(.cst (.c (.int .i64 50)))],some (46,false),0⟩,
 ⟨(some 50),.not (.tmp 49),some (46,false),0⟩,
 ⟨(some 51),.pick (.tmp 46) (.cst (.c (.bool true))) (.tmp 50),none,0⟩,
 ⟨(some 52),.mov (.tmp 51),none,0⟩,
 ⟨(some 53),.faddr 8 (.tmp 1),some (52,false),0⟩,
 ⟨(some 54),.load none (.tmp 53),some (52,false),0⟩,
 ⟨(some 55),.len (.tmp 54),some (52,false),0⟩,
 ⟨(some 56),.mov (.tmp 3),some (52,false),0⟩,
 ⟨(some 57),.bin .neq (.tmp 55) (.tmp 56),some (52,false),0⟩,
 ⟨(some 58),.pick (.tmp 52) (.cst (.c (.bool true))) (.tmp 57),none,0⟩,
 ⟨(some 59),.mov (.tmp 58),none,0⟩,
 ⟨(some 60),.faddr 9 (.tmp 1),some (59,false),0⟩,
 ⟨(some 61),.load none (.tmp 60),some (59,false),0⟩,
 ⟨(some 62),.len (.tmp 61),some (59,false),0⟩,
 ⟨(some 63),.mov (.tmp 3),some (59,false),0⟩,
 ⟨(some 64),.bin .neq (.tmp 62) (.tmp 63),some (59,false),0⟩,
 ⟨(some 65),.pick (.tmp 59) (.cst (.c (.bool true))) (.tmp 64),none,0⟩,
 ⟨(some 66),.mov (.tmp 65),none,0⟩,
 ⟨(some 67),.faddr 10 (.tmp 1),some (66,false),0⟩,
 ⟨(some 68),.load none (.tmp 67),some (66,false),0⟩,
 ⟨(some 69),.len (.tmp 68),some (66,false),0⟩,
 ⟨(some 70),.mov (.tmp 3),some (66,false),0⟩,
 ⟨(some 71),.bin .neq (.tmp 69) (.tmp 70),some (66,false),0⟩,
 ⟨(some 72),.pick (.tmp 66) (.cst (.c (.bool true))) (.tmp 71),none,0⟩])
 (.cond (.tmp 72)
 (.seq (.region 0 [] [
 ⟨(some 2),.mov (.cst (.c (.int .i64 1))),none,0⟩])
 .ret)
 .skip))
 (.seq (.seq (.region 0 [] [
 ⟨(some 4),.mov (.cst (.c (.int .i64 0))),none,0⟩])
 (.block 0 (.loop ⟨[2,5,73,74,75,76,77,78,79,80,81,82,83,84,85,86,87,88,89,90,91,92,93,94,95,96,97,98,99,100,101,102,103,104,105,106,107,108,109,110,111,112,113,114,115,116],true,[]⟩
 (.seq (.seq (.region 0 [] [
 ⟨(some 73),.mov (.tmp 4),none,0⟩,
 ⟨(some 74),.mov (.tmp 3),none,0⟩,
 ⟨(some 75),.bin .lss (.tmp 73) (.tmp 74),none,0⟩])
 (.cond (.tmp 75)
 .skip
 (.exit 0)))
 (.seq (.block 1 (.seq (.region 1 [] [
 ⟨(some 78),.faddr 9 (.tmp 1),none,0⟩,
 ⟨(some 79),.load none (.tmp 78),none,0⟩,
 ⟨(some 80),.mov (.tmp 4),none,0⟩,
 ⟨(some 81),.iaddr 3 (.tmp 79) (.tmp 80),none,0⟩,
 ⟨(some 82),.load (some 3) (.tmp 81),none,0⟩,
 ⟨(some 5),.alloc [(.int .i64 0),(.int .i64 0),(.int .i64 0)],none,0⟩,
 ⟨none,.store (some 3) (.tmp 5) (.tmp 82),none,1⟩])
 (.seq (.region 0 [] [
 ⟨(some 83),.faddr 8 (.tmp 1),none,0⟩,
 ⟨(some 84),.load none (.tmp 83),none,0⟩,
 ⟨(some 85),.mov (.tmp 4),none,0⟩,
 ⟨(some 86),.iaddr 2 (.tmp 84) (.tmp 85),none,0⟩,
 ⟨(some 87),.load (some 2) (.tmp 86),none,0⟩,
 ⟨(some 88),.call 120 true [(.tmp 87),(.cst (.c (.int .i64 (-9)))),(.cst (.c (.int .i64 9)))],none,0⟩,
 ⟨(some 89),.not (.tmp 88),none,0⟩,
 ⟨(some 90),.mov (.tmp 89),none,0⟩,
 ⟨(some 91),.faddr 0 (.tmp 5),some (90,false),0⟩,
 ⟨(some 92),.load none (.tmp 91),some (90,false),0⟩,
 ⟨(some 93),.call 29 true [(.tmp 92),(.cst (.c (.int .i64 0))),(.cst (.c (.int .i64 9)))],some (90,false),0⟩,
 ⟨(some 94),.not (.tmp 93),some (90,false),0⟩,
 ⟨(some 95),.pick (.tmp 90) (.cst (.c (.bool true))) (.tmp 94),none,0⟩,
 ⟨(some 96),.mov (.tmp 95),none,0⟩,
 ⟨(some 97),.faddr 1 (.tmp 5),some (96,false),0⟩,
 ⟨(some 98),.load none (.tmp 97),some (96,false),0⟩,
 ⟨(some 99),.call 29 true [(.tmp 98),(.cst (.c (.int .i64 0))),(.cst (.c (.int .i64 9)))],some (96,false),0⟩,
 ⟨(some 100),.not (.tmp 99),some (96,false),0⟩,
 ⟨(some 101),.pick (.tmp 96) (.cst (.c (.bool true))) (.tmp 100),none,0⟩,
 ⟨(some 102),.mov (.tmp 101),none,0⟩,
 ⟨(some 103),.faddr 2 (.tmp 5),some (102,false),0⟩,
 ⟨(some 104),.load none (.tmp 103),some (102,false),0⟩,
 ⟨(some 105),.call 29 true [(.tmp 104),(.cst (.c (.int .i64 0))),(.cst (.c (.int .i64 9)))],some (102,false),0⟩,
 ⟨(some 106),.not (.tmp 105),some (102,false),0⟩,
 ⟨(some 107),.pick (.tmp 102) (.cst (.c (.bool true))) (.tmp 106),none,0⟩,
 ⟨(some 108),.mov (.tmp 107),none,0⟩,
 ⟨(some 109),.faddr 10 (.tmp 1),some (108,false),0⟩,
 ⟨(some 110),.load none (.tmp 109),some (108,false),0⟩,
 ⟨(some 111),.mov (.tmp 4),some (108,false),0⟩,
 ⟨(some 112),.iaddr 1 (.tmp 110) (.tmp 111),some (108,false),0⟩,
 ⟨(some 113),.load none (.tmp 112),some (108,false),0⟩,
 ⟨(some 114),.call 29 true [(.tmp 113),(.cst (.c (.int .i64 0))),(.cst (.c (.int .i64 20)))],some (108,false),0⟩,
 ⟨(some 115),.not (.tmp 114),some (108,false),0⟩,
 ⟨(some 116),.pick (.tmp 108) (.cst (.c (.bool true))) (.tmp 115),none,0⟩])
 (.cond (.tmp 116)
 (.seq (.region 0 [] [
 ⟨(some 2),.mov (.cst (.c (.int .i64 1))),none,0⟩])
 .ret)
 .skip))))
 (.region 0 [] [
 ⟨(some 76),.mov (.tmp 4),none,0⟩,
 ⟨(some 77),.bin .add (.tmp 76) (.cst (.c (.int .i64 1))),none,0⟩,
 ⟨(some 4),.mov (.tmp 77),none,0⟩]))))))
 (.seq (.seq (.region 0 [] [
 ⟨(some 6),.mov (.cst (.c (.int .i64 0))),none,0⟩])
 (.block 2 (.loop ⟨[2,117,118,119,120,121,122,123,124,125,126,127,128,129,130,131,132,133,134,135,136,137,138,139,140,141,142,143],false,[]⟩
 (.seq (.seq (.region 0 [] [
 ⟨(some 117),.mov (.tmp 6),none,0⟩,
 ⟨(some 118),.faddr 11 (.tmp 1),none,0⟩,
 ⟨(some 119),.load none (.tmp 118),none,0⟩,
 ⟨(some 120),.len (.tmp 119),none,0⟩,
 ⟨(some 121),.bin .lss (.tmp 117) (.tmp 120),none,0⟩])
 (.cond (.tmp 121)
 .skip
 (.exit 2)))
 (.seq (.block 3 (.seq (.region 0 [(0,2),(1,2),(0,6),(1,6),(2,6),(3,6),(4,6),(5,6),(0,7),(1,7),(2,7),(3,7),(4,7),(5,7),(11,13),(12,13)] [
 ⟨(some 124),.faddr 11 (.tmp 1),none,0⟩,
 ⟨(some 125),.load none (.tmp 124),none,0⟩,
 ⟨(some 126),.mov (.tmp 6),none,0⟩,
 ⟨(some 127),.iaddr 4 (.tmp 125) (.tmp 126),none,0⟩,
 ⟨(some 128),.faddr 0 (.tmp 127),none,0⟩,
 ⟨(some 129),.load none (.tmp 128),none,0⟩,
 ⟨(some 130),.faddr 0 (.tmp 1),none,0⟩,
 ⟨(some 131),.load none (.tmp 130),none,0⟩,
 ⟨(some 132),.call 29 true [(.tmp 129),(.cst (.c (.int .i64 0))),(.tmp 131)],none,0⟩,
 ⟨(some 133),.not (.tmp 132),none,0⟩,
 ⟨(some 134),.mov (.tmp 133),none,0⟩,
 ⟨(some 135),.faddr 11 (.tmp 1),some (134,false),0⟩,
 ⟨(some 136),.load none (.tmp 135),some (134,false),0⟩,
 ⟨(some 137),.mov (.tmp 6),some (134,false),0⟩,
 ⟨(some 138),.iaddr 4 (.tmp 136) (.tmp 137),some (134,false),0⟩,
 ⟨(some 139),.faddr 2 (.tmp 138),some (134,false),0⟩,
 ⟨(some 140),.load (some 2) (.tmp 139),some (134,false),0⟩,
 ⟨(some 141),.call 120 true [(.tmp 140),(.cst (.c (.int .i64 (-5000)))),(.cst (.c (.int .i64 5000)))],some (134,false),0⟩,
 ⟨(some 142),.not (.tmp 141),some (134,false),0⟩,
 ⟨(some 143),.pick (.tmp 134) (.cst (.c (.bool true))) (.tmp 142),none,0⟩])
 (.cond (.tmp 143)
 (.seq (.region 0 [] [
 ⟨(some 2),.mov (.cst (.c (.int .i64 1))),none,0⟩])
 .ret)
 .skip)))
 (.region 0 [] [
 ⟨(some 122),.mov (.tmp 6),none,0⟩,
 ⟨(some 123),.bin .add (.tmp 122) (.cst (.c (.int .i64 1))),none,0⟩,
 ⟨(some 6),.mov (.tmp 123),none,0⟩]))))))
 (.seq (.seq (.region 0 [] [
 ⟨(some 144),.load (some 12) (.tmp 1),none,0⟩,
 ⟨(some 145),.call 67 true [(.tmp 144)],none,0⟩,
 ⟨(some 146),.bin .gtr (.tmp 145) (.cst (.c (.int .i64 2000))),none,0⟩])
 (.cond (.tmp 146)
 (.seq (.region 0 [] [
 ⟨(some 2),.mov (.cst (.c (.int .i64 3))),none,0⟩])
 .ret)
 .skip))
 (.seq (.region 0 [] [
 ⟨(some 2),.mov (.cst (.c (.int .i64 0))),none,0⟩])
 .ret))))))))⟩
def f67 : AFunc:=⟨30,[.tmp 2],false,
 (.seq (.region 1 [] [
 ⟨(some 1),.box (.tmp 0),none,0⟩,
 ⟨(some 2),.mov (.cst (.c (.int .i64 0))),none,1⟩])
 (.seq (.region 0 [(0,4),(1,4),(2,4),(3,4),(0,5),(1,5),(2,5),(3,5),(3,6)] [
 ⟨(some 5),.faddr 2 (.tmp 1),none,0⟩,
 ⟨(some 6),.load (some 2) (.tmp 5),none,0⟩,
 ⟨(some 7),.call 121 true [(.tmp 6)],none,0⟩,
 ⟨(some 8),.mm false (.cst (.c (.int .i64 3000))) (.tmp 7),none,0⟩,
 ⟨(some 9),.faddr 4 (.tmp 1),none,0⟩,
 ⟨(some 10),.load (some 2) (.tmp 9),none,0⟩,
 ⟨(some 11),.call 121 true [(.tmp 10)],none,0⟩,
 ⟨(some 12),.bin .mul (.tmp 8) (.tmp 11),none,0⟩,
 ⟨(some 3),.mov (.tmp 12),none,0⟩])
 (.seq (.seq (.region 0 [] [
 ⟨(some 4),.mov (.cst (.c (.int .i64 0))),none,0⟩])
 (.block 0 (.loop ⟨[13,14,15,16,17,18,19,20,21,22,23,24,25,26,27,28],false,[]⟩
 (.seq (.seq (.region 0 [] [
 ⟨(some 13),.mov (.tmp 4),none,0⟩,
 ⟨(some 14),.faddr 8 (.tmp 1),none,0⟩,
 ⟨(some 15),.load none (.tmp 14),none,0⟩,
 ⟨(some 16),.len (.tmp 15),none,0⟩,
 ⟨(some 17),.bin .lss (.tmp 13) (.tmp 16),none,0⟩])
 (.cond (.tmp 17)
 .skip
 (.exit 0)))
 (.seq (.block 1 (.region 0 [] [
 ⟨(some 20),.mov (.tmp 3),none,0⟩,
 ⟨(some 21),.mm false (.cst (.c (.int .i64 3000))) (.tmp 20),none,0⟩,
 ⟨(some 22),.faddr 8 (.tmp 1),none,0⟩,
 ⟨(some 23),.load none (.tmp 22),none,0⟩,
 ⟨(some 24),.mov (.tmp 4),none,0⟩,
 ⟨(some 25),.iaddr 2 (.tmp 23) (.tmp 24),none,0⟩,
 ⟨(some 26),.load (some 2) (.tmp 25),none,0⟩,
 ⟨(some 27),.call 121 true [(.tmp 26)],none,0⟩,
 ⟨(some 28),.bin .mul (.tmp 21) (.tmp 27),none,0⟩,
 ⟨(some 3),.mov (.tmp 28),none,0⟩]))
 (.region 0 [] [
 ⟨(some 18),.mov (.tmp 4),none,0⟩,
 ⟨(some 19),.bin .add (.tmp 18) (.cst (.c (.int .i64 1))),none,0⟩,
 ⟨(some 4),.mov (.tmp 19),none,0⟩]))))))
 (.seq (.region 0 [] [
 ⟨(some 29),.mov (.tmp 3),none,0⟩,
 ⟨(some 2),.mov (.tmp 29),none,0⟩])
 .ret))))⟩
def f68 : AFunc:=⟨29,[.cell 4 (some 12)],false,
 (.seq (.region 1 [] [
 ⟨(some 4),.alloc [(.int .i64 0),(.int .i64 0),(.int .i64 0),(.int .i64 0),(.int .i64 0),(.int .i64 0),(.int .i64 0),(.int .i64 0),.nils,.nils,.nils,.nils],none,0⟩])
 (.seq (.region 1 [] [
 ⟨(some 6),.call 70 true [(.cst (.c (.int .i64 4))),(.cst (.c (.int .i64 9)))],none,0⟩,
 ⟨(some 7),.build [(.int .i64 0),(.bool false),(.int .i64 0),(.int .i64 0)] [(1,1,(.cst (.c (.bool true)))),(2,2,(.tmp 6))],none,0⟩,
 ⟨(some 8),.call 70 true [(.cst (.c (.int .i64 2))),(.cst (.c (.int .i64 3)))],none,0⟩,
 ⟨(some 9),.build [(.int .i64 0),(.bool false),(.int .i64 0),(.int .i64 0)] [(0,1,(.cst (.c (.int .i64 3)))),(1,1,(.cst (.c (.bool true)))),(2,2,(.tmp 8))],none,0⟩,
 ⟨(some 10),.bslice 4 2 [(.int .i64 0),(.bool false),(.int .i64 0),(.int .i64 0)] [(0,(.tmp 7)),(1,(.tmp 9))],none,0⟩,
 ⟨(some 5),.mov (.tmp 10),none,1⟩])
 (.seq (.region 3 [(0,1),(0,2),(0,3),(0,4),(0,5),(0,6),(0,7),(0,8),(1,8),(2,8),(3,8),(4,8),(5,8),(6,8),(7,8),(0,9),(1,9),(2,9),(3,9),(4,9),(5,9),(6,9),(7,9),(8,9),(0,10),(1,10),(2,10),(3,10),(4,10),(5,10),(6,10),(7,10),(8,10),(9,10),(0,11),(1,11),(2,11),(3,11),(4,11),(5,11),(6,11),(7,11),(8,11),(9,11),(10,11),(0,12),(1,12),(2,12),(3,12),(4,12),(5,12),(6,12),(7,12),(0,13),(1,13),(2,13),(3,13),(4,13),(5,13),(6,13),(7,13),(8,13),(9,13),(10,13),(11,13),(12,13),(0,14),(1,14),(2,14),(3,14),(4,14),(5,14),(6,14),(7,14),(8,14),(9,14),(10,14),(11,14),(12,14),(13,14),(0,15),(1,15),(2,15),(3,15),(4,15),(5,15),(6,15),(7,15),(8,15),(9,15),(10,15),(11,15),(12,15),(13,15),(14,15),(0,16),(1,16),(2,16),(3,16),(4,16),(5,16),(6,16),(7,16),(8,16),(9,16),(10,16),(11,16),(12,16),(13,16)] [
 ⟨(some 11),.mov (.tmp 0),none,0⟩,
 ⟨(some 12),.call 70 true [(.cst (.c (.int .i64 0))),(.cst (.c (.int .i64 2)))],none,0⟩,
 ⟨(some 13),.call 70 true [(.cst (.c (.int .i64 100))),(.cst (.c (.int .i64 100)))],none,0⟩,
 ⟨(some 14),.call 70 true [(.cst (.c (.int .i64 1))),(.cst (.c (.int .i64 2)))],none,0⟩,
 ⟨(some 15),.call 70 true [(.cst (.c (.int .i64 1))),(.cst (.c (.int .i64 1)))],none,0⟩,
 ⟨(some 16),.call 70 true [(.cst (.c (.int .i64 2))),(.cst (.c (.int .i64 3)))],none,0⟩,
 ⟨(some 17),.call 70 true [(.cst (.c (.int .i64 0))),(.cst (.c (.int .i64 0)))],none,0⟩,
 ⟨(some 18),.bslice 2 4 [(.int .i64 0),(.int .i64 0)] [(0,(.tmp 14)),(1,(.tmp 15)),(2,(.tmp 16)),(3,(.tmp 17))],none,0⟩,
 ⟨(some 19),.build [(.int .i64 0),(.int .i64 0),(.int .i64 0)] [],none,1⟩,
 ⟨(some 20),.build [(.int .i64 0),(.int .i64 0),(.int .i64 0)] [(1,1,(.cst (.c (.int .i64 2))))],none,1⟩,
 ⟨(some 21),.build [(.int .i64 0),(.int .i64 0),(.int .i64 0)] [(2,1,(.cst (.c (.int .i64 1))))],none,1⟩,
 ⟨(some 22),.build [(.int .i64 0),(.int .i64 0),(.int .i64 0)] [],none,1⟩,
 ⟨(some 23),.bslice 3 4 [(.int .i64 0),(.int .i64 0),(.int .i64 0)] [(0,(.tmp 19)),(1,(.tmp 20)),(2,(.tmp 21)),(3,(.tmp 22))],none,1⟩,
 ⟨(some 24),.bslice 1 4 [(.int .i64 0)] [(0,(.cst (.c (.int .i64 1)))),(1,(.cst (.c (.int .i64 1)))),(2,(.cst (.c (.int .i64 1)))),(3,(.cst (.c (.int .i64 1))))],none,2⟩,
 ⟨(some 25),.mov (.tmp 5),none,3⟩,
 ⟨(some 26),.mov (.tmp 1),none,3⟩,
 ⟨(some 27),.slice 4 (.tmp 25) none (some (.tmp 26)),none,3⟩,
 ⟨(some 28),.build [(.int .i64 0),(.int .i64 0),(.int .i64 0),(.int .i64 0),(.int .i64 0),(.int .i64 0),(.int .i64 0),(.int .i64 0),.nils,.nils,.nils,.nils] [(0,1,(.cst (.c (.int .i64 3)))),(1,1,(.tmp 11)),(2,2,(.tmp 12)),(4,2,(.tmp 13)),(6,1,(.cst (.c (.int .i64 10)))),(7,1,(.cst (.c (.int .i64 5)))),(8,1,(.tmp 18)),(9,1,(.tmp 23)),(10,1,(.tmp 24)),(11,1,(.tmp 27))],none,3⟩,
 ⟨none,.store (some 12) (.tmp 4) (.tmp 28),none,3⟩])
 .ret)))⟩
def f69 : AFunc:=⟨3,[.cell 0 (some 3)],false,
 (.seq (.region 1 [] [
 ⟨(some 0),.alloc [(.int .i64 0),(.int .i64 0),.nils],none,0⟩])
 (.seq (.region 1 [] [
 ⟨(some 1),.bslice 1 4 [(.int .i64 0)] [(0,(.cst (.c (.int .i64 1)))),(1,(.cst (.c (.int .i64 1)))),(2,(.cst (.c (.int .i64 2)))),(3,(.cst (.c (.int .i64 0))))],none,0⟩,
 ⟨(some 2),.build [(.int .i64 0),(.int .i64 0),.nils] [(1,1,(.cst (.c (.int .i64 100)))),(2,1,(.tmp 1))],none,1⟩,
 ⟨none,.store (some 3) (.tmp 0) (.tmp 2),none,1⟩])
 .ret))⟩
def f70 : AFunc:=⟨8,[.cell 4 (some 2)],false,
 (.seq (.region 1 [] [
 ⟨(some 4),.alloc [(.int .i64 0),(.int .i64 0)],none,0⟩])
 (.seq (.region 0 [] [
 ⟨(some 5),.mov (.tmp 0),none,0⟩,
 ⟨(some 6),.mov (.tmp 1),none,0⟩,
 ⟨(some 7),.build [(.int .i64 0),(.int .i64 0)] [(0,1,(.tmp 5)),(1,1,(.tmp 6))],none,0⟩,
 ⟨none,.store (some 2) (.tmp 4) (.tmp 7),none,0⟩])
 .ret))⟩
def f71 : AFunc:=⟨46,[.tmp 4],false,
 (.seq (.region 2 [] [
 ⟨(some 2),.box (.tmp 0),none,0⟩,
 ⟨(some 3),.box (.tmp 1),none,1⟩,
 ⟨(some 4),.mov (.cst (.c (.bool false))),none,2⟩])
 (.seq (.seq (.region 0 [(0,3),(1,3),(2,3),(0,4),(1,4),(2,4),(7,9),(8,9),(7,10),(8,10),(15,17),(16,17),(15,18),(16,18)] [
 ⟨(some 7),.faddr 2 (.tmp 3),none,0⟩,
 ⟨(some 8),.load none (.tmp 7),none,0⟩,
 ⟨(some 9),.len (.tmp 8),none,0⟩,
 ⟨(some 10),.load (some 12) (.tmp 2),none,0⟩,
 ⟨(some 11),.call 79 true [(.tmp 10)],none,0⟩,
 ⟨(some 12),.bin .neq (.tmp 9) (.tmp 11),none,0⟩,
 ⟨(some 13),.mov (.tmp 12),none,0⟩,
 ⟨(some 14),.faddr 2 (.tmp 2),some (13,false),0⟩,
 ⟨(some 15),.load (some 2) (.tmp 14),some (13,false),0⟩,
 ⟨(some 16),.faddr 0 (.tmp 3),some (13,false),0⟩,
 ⟨(some 17),.load none (.tmp 16),some (13,false),0⟩,
 ⟨(some 18),.call 108 true [(.tmp 15),(.tmp 17)],some (13,false),0⟩,
 ⟨(some 19),.not (.tmp 18),some (13,false),0⟩,
 ⟨(some 20),.pick (.tmp 13) (.cst (.c (.bool true))) (.tmp 19),none,0⟩,
 ⟨(some 21),.mov (.tmp 20),none,0⟩,
 ⟨(some 22),.faddr 4 (.tmp 2),some (21,false),0⟩,
 ⟨(some 23),.load (some 2) (.tmp 22),some (21,false),0⟩,
 ⟨(some 24),.faddr 1 (.tmp 3),some (21,false),0⟩,
 ⟨(some 25),.load none (.tmp 24),some (21,false),0⟩,
 ⟨(some 26),.call 108 true [(.tmp 23),(.tmp 25)],some (21,false),0⟩,
 ⟨(some 27),.not (.tmp 26),some (21,false),0⟩,
 ⟨(some 28),.pick (.tmp 21) (.cst (.c (.bool true))) (.tmp 27),none,0⟩])
 (.cond (.tmp 28)
 (.seq (.region 0 [] [
 ⟨(some 4),.mov (.cst (.c (.bool false))),none,0⟩])
 .ret)
 .skip))
 (.seq (.seq (.region 0 [] [
 ⟨(some 29),.faddr 8 (.tmp 2),none,0⟩,
 ⟨(some 30),.load none (.tmp 29),none,0⟩,
 ⟨(some 31),.len (.tmp 30),none,0⟩,
 ⟨(some 32),.mov (.cst (.c (.int .i64 0))),none,0⟩])
 (.block 0 (.loop ⟨[4,5,6,33,34,35,36,37,38,39,40,41,42,43,44,45],true,[]⟩
 (.seq (.region 0 [] [
 ⟨(some 33),.bin .lss (.tmp 32) (.tmp 31),none,0⟩])
 (.seq (.cond (.tmp 33)
 .skip
 (.exit 0))
 (.seq (.block 1 (.seq (.region 1 [] [
 ⟨(some 34),.mov (.tmp 32),none,0⟩,
 ⟨(some 35),.iaddr 2 (.tmp 30) (.tmp 32),none,0⟩,
 ⟨(some 36),.load (some 2) (.tmp 35),none,0⟩,
 ⟨(some 6),.alloc [(.int .i64 0),(.int .i64 0)],none,0⟩,
 ⟨(some 5),.mov (.tmp 34),none,1⟩,
 ⟨none,.store (some 2) (.tmp 6) (.tmp 36),none,1⟩])
 (.seq (.region 0 [(0,1),(0,2),(0,3),(1,3),(2,3),(0,4),(0,5)] [
 ⟨(some 37),.load (some 2) (.tmp 6),none,0⟩,
 ⟨(some 38),.faddr 2 (.tmp 3),none,0⟩,
 ⟨(some 39),.load none (.tmp 38),none,0⟩,
 ⟨(some 40),.mov (.tmp 5),none,0⟩,
 ⟨(some 41),.iaddr 1 (.tmp 39) (.tmp 40),none,0⟩,
 ⟨(some 42),.load none (.tmp 41),none,0⟩,
 ⟨(some 43),.call 108 true [(.tmp 37),(.tmp 42)],none,0⟩,
 ⟨(some 44),.not (.tmp 43),none,0⟩])
 (.cond (.tmp 44)
 (.seq (.region 0 [] [
 ⟨(some 4),.mov (.cst (.c (.bool false))),none,0⟩])
 .ret)
 .skip))))
 (.region 0 [] [
 ⟨(some 45),.bin .add (.tmp 32) (.cst (.c (.int .i64 1))),none,0⟩,
 ⟨(some 32),.mov (.tmp 45),none,0⟩])))))))
 (.seq (.region 0 [] [
 ⟨(some 4),.mov (.cst (.c (.bool true))),none,0⟩])
 .ret))))⟩
def f72 : AFunc:=⟨7,[.tmp 2],false,
 (.seq (.region 1 [] [
 ⟨(some 1),.box (.tmp 0),none,0⟩,
 ⟨(some 2),.mov (.cst (.c .nilp)),none,1⟩])
 (.seq (.region 2 [] [
 ⟨(some 3),.load (some 12) (.tmp 1),none,0⟩,
 ⟨(some 4),.mkmap true false [(some .i64),none],none,0⟩,
 ⟨(some 5),.build [(.int .i64 0),(.int .i64 0),(.int .i64 0),(.int .i64 0),(.int .i64 0),(.int .i64 0),(.int .i64 0),(.int .i64 0),.nils,.nils,.nils,.nils,.any] [(0,12,(.tmp 3)),(12,1,(.tmp 4))],none,1⟩,
 ⟨(some 6),.box (.tmp 5),none,1⟩,
 ⟨(some 2),.mov (.tmp 6),none,2⟩])
 .ret))⟩
def f73 : AFunc:=⟨9,[.tmp 4],false,
 (.seq (.region 1 [] [
 ⟨(some 3),.box (.tmp 1),none,0⟩,
 ⟨(some 4),.mov (.cst (.c .nils)),none,1⟩])
 (.seq (.region 0 [] [
 ⟨(some 5),.mov (.tmp 0),none,0⟩,
 ⟨(some 6),.load (some 3) (.tmp 3),none,0⟩,
 ⟨(some 7),.call 123 false [(.tmp 5),(.tmp 6)],none,0⟩,
 ⟨(some 8),.call 122 false [(.tmp 7)],none,0⟩,
 ⟨(some 4),.mov (.tmp 8),none,0⟩])
 .ret))⟩
def f74 : AFunc:=⟨9,[.tmp 4],false,
 (.seq (.region 1 [] [
 ⟨(some 3),.box (.tmp 1),none,0⟩,
 ⟨(some 4),.mov (.cst (.c (.bool false))),none,1⟩])
 (.seq (.region 0 [] [
 ⟨(some 5),.mov (.tmp 0),none,0⟩,
 ⟨(some 6),.mkfn 125 none [(.tmp 3)],none,0⟩,
 ⟨(some 7),.call 124 false [(.tmp 5),(.tmp 6)],none,0⟩,
 ⟨(some 8),.not (.tmp 7),none,0⟩,
 ⟨(some 4),.mov (.tmp 8),none,0⟩])
 .ret))⟩
def f75 : AFunc:=⟨7,[.tmp 3],false,
 (.seq (.region 1 [] [
 ⟨(some 2),.box (.tmp 0),none,0⟩,
 ⟨(some 3),.mov (.cst (.c (.bool false))),none,1⟩])
 (.seq (.region 0 [] [
 ⟨(some 4),.load (some 4) (.tmp 2),none,0⟩,
 ⟨(some 5),.load none (.tmp 1),none,0⟩,
 ⟨(some 6),.call 76 true [(.tmp 4),(.tmp 5)],none,0⟩,
 ⟨(some 3),.mov (.tmp 6),none,0⟩])
 .ret))⟩
def f76 : AFunc:=⟨25,[.tmp 4],false,
 (.seq (.region 1 [] [
 ⟨(some 2),.box (.tmp 0),none,0⟩,
 ⟨(some 4),.mov (.cst (.c (.bool false))),none,1⟩])
 (.seq (.seq (.region 0 [] [
 ⟨(some 5),.faddr 1 (.tmp 2),none,0⟩,
 ⟨(some 6),.load none (.tmp 5),none,0⟩])
 (.cond (.tmp 6)
 (.seq (.region 0 [(0,2),(1,2),(0,3),(1,3),(2,3),(0,4),(1,4),(2,4),(0,5),(1,5),(0,6),(1,6),(0,7),(1,7)] [
 ⟨(some 7),.faddr 2 (.tmp 2),none,0⟩,
 ⟨(some 8),.load (some 2) (.tmp 7),none,0⟩,
 ⟨(some 9),.mov (.tmp 1),none,0⟩,
 ⟨(some 10),.faddr 0 (.tmp 2),none,0⟩,
 ⟨(some 11),.load none (.tmp 10),none,0⟩,
 ⟨(some 12),.iaddr 2 (.tmp 9) (.tmp 11),none,0⟩,
 ⟨(some 13),.faddr 0 (.tmp 12),none,0⟩,
 ⟨(some 14),.load none (.tmp 13),none,0⟩,
 ⟨(some 15),.call 108 true [(.tmp 8),(.tmp 14)],none,0⟩,
 ⟨(some 4),.mov (.tmp 15),none,0⟩])
 .ret)
 .skip))
 (.seq (.region 0 [(0,2),(1,2),(0,3),(1,3),(2,3),(0,4),(1,4),(2,4),(0,5),(1,5),(0,6),(1,6),(0,7),(1,7)] [
 ⟨(some 16),.faddr 2 (.tmp 2),none,0⟩,
 ⟨(some 17),.load (some 2) (.tmp 16),none,0⟩,
 ⟨(some 18),.mov (.tmp 1),none,0⟩,
 ⟨(some 19),.faddr 0 (.tmp 2),none,0⟩,
 ⟨(some 20),.load none (.tmp 19),none,0⟩,
 ⟨(some 21),.iaddr 2 (.tmp 18) (.tmp 20),none,0⟩,
 ⟨(some 22),.faddr 1 (.tmp 21),none,0⟩,
 ⟨(some 23),.load none (.tmp 22),none,0⟩,
 ⟨(some 24),.call 108 true [(.tmp 17),(.tmp 23)],none,0⟩,
 ⟨(some 4),.mov (.tmp 24),none,0⟩])
 .ret)))⟩
def f77 : AFunc:=⟨14,[.tmp 4],false,
 (.seq (.region 2 [] [
 ⟨(some 2),.box (.tmp 0),none,0⟩,
 ⟨(some 3),.box (.tmp 1),none,1⟩,
 ⟨(some 4),.mov (.cst (.c (.bool false))),none,2⟩])
 (.seq (.region 0 [] [
 ⟨(some 5),.load (some 12) (.tmp 2),none,0⟩,
 ⟨(some 6),.faddr 0 (.tmp 3),none,0⟩,
 ⟨(some 7),.load none (.tmp 6),none,0⟩,
 ⟨(some 8),.call 91 true [(.tmp 5),(.tmp 7)],none,0⟩,
 ⟨(some 9),.mov (.tmp 8),none,0⟩,
 ⟨(some 10),.faddr 2 (.tmp 3),some (9,true),0⟩,
 ⟨(some 11),.load (some 2) (.tmp 10),some (9,true),0⟩,
 ⟨(some 12),.call 126 true [(.tmp 11),(.cst (.c (.int .i64 (-5000)))),(.cst (.c (.int .i64 5000)))],some (9,true),0⟩,
 ⟨(some 13),.pick (.tmp 9) (.tmp 12) (.cst (.c (.bool false))),none,0⟩,
 ⟨(some 4),.mov (.tmp 13),none,0⟩])
 .ret))⟩
def f78 : AFunc:=⟨31,[.tmp 2],false,
 (.seq (.region 1 [] [
 ⟨(some 1),.box (.tmp 0),none,0⟩,
 ⟨(some 2),.mov (.cst (.c (.bool false))),none,1⟩])
 (.seq (.region 0 [] [
 ⟨(some 3),.faddr 0 (.tmp 1),none,0⟩,
 ⟨(some 4),.load none (.tmp 3),none,0⟩,
 ⟨(some 5),.bin .geq (.tmp 4) (.cst (.c (.int .i64 0))),none,0⟩,
 ⟨(some 6),.mov (.tmp 5),none,0⟩,
 ⟨(some 7),.faddr 1 (.tmp 1),some (6,true),0⟩,
 ⟨(some 8),.load none (.tmp 7),some (6,true),0⟩,
 ⟨(some 9),.call 106 true [(.tmp 8),(.cst (.c (.int .i64 0))),(.cst (.c (.int .i64 20)))],some (6,true),0⟩,
 ⟨(some 10),.pick (.tmp 6) (.tmp 9) (.cst (.c (.bool false))),none,0⟩,
 ⟨(some 11),.mov (.tmp 10),none,0⟩,
 ⟨(some 12),.faddr 2 (.tmp 1),some (11,true),0⟩,
 ⟨(some 13),.load (some 2) (.tmp 12),some (11,true),0⟩,
 ⟨(some 14),.call 126 true [(.tmp 13),(.cst (.c (.int .i64 (-50)))),(.cst (.c (.int .i64 50)))],some (11,true),0⟩,
 ⟨(some 15),.pick (.tmp 11) (.tmp 14) (.cst (.c (.bool false))),none,0⟩,
 ⟨(some 16),.mov (.tmp 15),none,0⟩,
 ⟨(some 17),.faddr 4 (.tmp 1),some (16,true),0⟩,
 ⟨(some 18),.load (some 2) (.tmp 17),some (16,true),0⟩,
 ⟨(some 19),.call 126 true [(.tmp 18),(.cst (.c (.int .i64 0))),(.cst (.c (.int .i64 999)))],some (16,true),0⟩,
 ⟨(some 20),.pick (.tmp 16) (.tmp 19) (.cst (.c (.bool false))),none,0⟩,
 ⟨(some 21),.mov (.tmp 20),none,0⟩,
 ⟨(some 22),.faddr 6 (.tmp 1),some (21,true),0⟩,
 ⟨(some 23),.load none (.tmp 22),some (21,true),0⟩,
 ⟨(some 24),.call 106 true [(.tmp 23),(.cst (.c (.int .i64 0))),(.cst (.c (.int .i64 50)))],some (21,true),0⟩,
 ⟨(some 25),.pick (.tmp 21) (.tmp 24) (.cst (.c (.bool false))),none,0⟩,
 ⟨(some 26),.mov (.tmp 25),none,0⟩,
 ⟨(some 27),.faddr 7 (.tmp 1),some (26,true),0⟩,
 ⟨(some 28),.load none (.tmp 27),some (26,true),0⟩,
 ⟨(some 29),.call 106 true [(.tmp 28),(.cst (.c (.int .i64 0))),(.cst (.c (.int .i64 50)))],some (26,true),0⟩,
 ⟨(some 30),.pick (.tmp 26) (.tmp 29) (.cst (.c (.bool false))),none,0⟩,
 ⟨(some 2),.mov (.tmp 30),none,0⟩])
 .ret))⟩
def f79 : AFunc:=⟨6,[.tmp 2],false,
 (.seq (.region 1 [] [
 ⟨(some 1),.box (.tmp 0),none,0⟩,
 ⟨(some 2),.mov (.cst (.c (.int .i64 0))),none,1⟩])
 (.seq (.region 0 [] [
 ⟨(some 3),.faddr 0 (.tmp 1),none,0⟩,
 ⟨(some 4),.load none (.tmp 3),none,0⟩,
 ⟨(some 5),.bin .add (.tmp 4) (.cst (.c (.int .i64 1))),none,0⟩,
 ⟨(some 2),.mov (.tmp 5),none,0⟩])
 .ret))⟩
def f80 : AFunc:=⟨9,[.tmp 4],false,
 (.seq (.region 1 [] [
 ⟨(some 3),.box (.tmp 1),none,0⟩,
 ⟨(some 4),.mov (.cst (.c (.bool false))),none,1⟩])
 (.seq (.region 0 [] [
 ⟨(some 5),.mov (.tmp 0),none,0⟩,
 ⟨(some 6),.mkfn 128 none [(.tmp 3)],none,0⟩,
 ⟨(some 7),.call 127 false [(.tmp 5),(.tmp 6)],none,0⟩,
 ⟨(some 8),.not (.tmp 7),none,0⟩,
 ⟨(some 4),.mov (.tmp 8),none,0⟩])
 .ret))⟩
def f81 : AFunc:=⟨5,[.tmp 2],true,
 (.seq (.region 1 [] [
 ⟨(some 1),.box (.tmp 0),none,0⟩,
 ⟨(some 2),.mov (.cst (.c (.bool false))),none,1⟩])
 (.seq (.region 0 [] [
 ⟨(some 3),.load (some 2) (.tmp 1),none,0⟩,
 ⟨(some 4),.call 126 true [(.tmp 3),(.cst (.c (.int .i64 (-9)))),(.cst (.c (.int .i64 9)))],none,0⟩,
 ⟨(some 2),.mov (.tmp 4),none,0⟩])
 .ret))⟩
def f82 : AFunc:=⟨9,[.tmp 4],false,
 (.seq (.region 1 [] [
 ⟨(some 3),.box (.tmp 1),none,0⟩,
 ⟨(some 4),.mov (.cst (.c (.bool false))),none,1⟩])
 (.seq (.region 0 [] [
 ⟨(some 5),.mov (.tmp 0),none,0⟩,
 ⟨(some 6),.mkfn 130 none [(.tmp 3)],none,0⟩,
 ⟨(some 7),.call 129 false [(.tmp 5),(.tmp 6)],none,0⟩,
 ⟨(some 8),.not (.tmp 7),none,0⟩,
 ⟨(some 4),.mov (.tmp 8),none,0⟩])
 .ret))⟩
def f83 : AFunc:=⟨16,[.tmp 2],true,
 (.seq (.region 1 [] [
 ⟨(some 1),.box (.tmp 0),none,0⟩,
 ⟨(some 2),.mov (.cst (.c (.bool false))),none,1⟩])
 (.seq (.region 0 [] [
 ⟨(some 3),.faddr 0 (.tmp 1),none,0⟩,
 ⟨(some 4),.load none (.tmp 3),none,0⟩,
 ⟨(some 5),.call 131 true [(.tmp 4)],none,0⟩,
 ⟨(some 6),.mov (.tmp 5),none,0⟩,
 ⟨(some 7),.faddr 1 (.tmp 1),some (6,true),0⟩,
 ⟨(some 8),.load none (.tmp 7),some (6,true),0⟩,
 ⟨(some 9),.call 131 true [(.tmp 8)],some (6,true),0⟩,
 ⟨(some 10),.pick (.tmp 6) (.tmp 9) (.cst (.c (.bool false))),none,0⟩,
 ⟨(some 11),.mov (.tmp 10),none,0⟩,
 ⟨(some 12),.faddr 2 (.tmp 1),some (11,true),0⟩,
 ⟨(some 13),.load none (.tmp 12),some (11,true),0⟩,
 ⟨(some 14),.call 131 true [(.tmp 13)],some (11,true),0⟩,
 ⟨(some 15),.pick (.tmp 11) (.tmp 14) (.cst (.c (.bool false))),none,0⟩,
 ⟨(some 2),.mov (.tmp 15),none,0⟩])
 .ret))⟩
def f84 : AFunc:=⟨9,[.tmp 4],false,
 (.seq (.region 1 [] [
 ⟨(some 3),.box (.tmp 1),none,0⟩,
 ⟨(some 4),.mov (.cst (.c (.bool false))),none,1⟩])
 (.seq (.region 0 [] [
 ⟨(some 5),.mov (.tmp 0),none,0⟩,
 ⟨(some 6),.mkfn 133 none [(.tmp 3)],none,0⟩,
 ⟨(some 7),.call 132 false [(.tmp 5),(.tmp 6)],none,0⟩,
 ⟨(some 8),.not (.tmp 7),none,0⟩,
 ⟨(some 4),.mov (.tmp 8),none,0⟩])
 .ret))⟩
def f85 : AFunc:=⟨5,[.tmp 2],false,
 (.seq (.region 0 [] [
 ⟨(some 2),.mov (.cst (.c (.bool false))),none,0⟩])
 (.seq (.region 0 [] [
 ⟨(some 3),.mov (.tmp 0),none,0⟩,
 ⟨(some 4),.call 106 true [(.tmp 3),(.cst (.c (.int .i64 0))),(.cst (.c (.int .i64 20)))],none,0⟩,
 ⟨(some 2),.mov (.tmp 4),none,0⟩])
 .ret))⟩
def f86 : AFunc:=⟨11,[.tmp 2],false,
 (.seq (.region 1 [] [
 ⟨(some 1),.box (.tmp 0),none,0⟩,
 ⟨(some 2),.mov (.cst (.c .nils)),none,1⟩])
 (.seq (.region 2 [] [
 ⟨(some 3),.faddr 2 (.tmp 1),none,0⟩,
 ⟨(some 4),.load (some 2) (.tmp 3),none,0⟩,
 ⟨(some 5),.faddr 4 (.tmp 1),none,0⟩,
 ⟨(some 6),.load (some 2) (.tmp 5),none,0⟩,
 ⟨(some 7),.bslice 2 2 [(.int .i64 0),(.int .i64 0)] [(0,(.tmp 4)),(1,(.tmp 6))],none,0⟩,
 ⟨(some 8),.faddr 8 (.tmp 1),none,1⟩,
 ⟨(some 9),.load none (.tmp 8),none,1⟩,
 ⟨(some 10),.append 2 16 (.tmp 7) (.tmp 9),none,1⟩,
 ⟨(some 2),.mov (.tmp 10),none,2⟩])
 .ret))⟩
def f87 : AFunc:=⟨5,[.tmp 2],false,
 (.seq (.region 0 [] [
 ⟨(some 2),.mov (.cst (.c (.int .i64 0))),none,0⟩])
 (.seq (.region 0 [] [
 ⟨(some 3),.mov (.tmp 0),none,0⟩,
 ⟨(some 4),.call 134 true [(.tmp 3)],none,0⟩,
 ⟨(some 2),.mov (.tmp 4),none,0⟩])
 .ret))⟩
def f88 : AFunc:=⟨9,[.tmp 2],false,
 (.seq (.region 1 [] [
 ⟨(some 1),.box (.tmp 0),none,0⟩,
 ⟨(some 2),.mov (.cst (.c (.int .i64 0))),none,1⟩])
 (.seq (.region 0 [] [
 ⟨(some 3),.faddr 1 (.tmp 1),none,0⟩,
 ⟨(some 4),.load none (.tmp 3),none,0⟩,
 ⟨(some 5),.faddr 0 (.tmp 1),none,0⟩,
 ⟨(some 6),.load none (.tmp 5),none,0⟩,
 ⟨(some 7),.bin .sub (.tmp 4) (.tmp 6),none,0⟩,
 ⟨(some 8),.bin .add (.tmp 7) (.cst (.c (.int .i64 1))),none,0⟩,
 ⟨(some 2),.mov (.tmp 8),none,0⟩])
 .ret))⟩
def f89 : AFunc:=⟨35,[.tmp 6],false,
 (.seq (.region 3 [] [
 ⟨(some 3),.box (.tmp 0),none,0⟩,
 ⟨(some 4),.box (.tmp 1),none,1⟩,
 ⟨(some 5),.box (.tmp 2),none,2⟩,
 ⟨(some 6),.mov (.cst (.c (.bool false))),none,3⟩])
 (.seq (.region 1 [(0,1),(0,3),(1,3),(2,3),(0,4),(1,4),(2,4),(0,7),(1,7),(2,7),(3,7),(4,7),(5,7),(6,7)] [
 ⟨(some 8),.load (some 12) (.tmp 3),none,0⟩,
 ⟨(some 9),.load (some 3) (.tmp 4),none,0⟩,
 ⟨(some 10),.call 25 true [(.tmp 8),(.tmp 9)],none,0⟩,
 ⟨(some 11),.faddr 0 (.tmp 5),none,0⟩,
 ⟨(some 12),.load none (.tmp 11),none,0⟩,
 ⟨(some 13),.iaddr 2 (.tmp 10) (.tmp 12),none,0⟩,
 ⟨(some 14),.load (some 2) (.tmp 13),none,0⟩,
 ⟨(some 7),.alloc [(.int .i64 0),(.int .i64 0)],none,0⟩,
 ⟨none,.store (some 2) (.tmp 7) (.tmp 14),none,1⟩])
 (.seq (.seq (.region 0 [] [
 ⟨(some 15),.faddr 1 (.tmp 5),none,0⟩,
 ⟨(some 16),.load none (.tmp 15),none,0⟩])
 (.cond (.tmp 16)
 (.seq (.region 0 [] [
 ⟨(some 17),.faddr 0 (.tmp 7),none,0⟩,
 ⟨(some 18),.load none (.tmp 17),none,0⟩,
 ⟨(some 19),.faddr 2 (.tmp 5),none,0⟩,
 ⟨(some 20),.faddr 0 (.tmp 19),none,0⟩,
 ⟨(some 21),.load none (.tmp 20),none,0⟩,
 ⟨(some 22),.faddr 2 (.tmp 5),none,0⟩,
 ⟨(some 23),.faddr 1 (.tmp 22),none,0⟩,
 ⟨(some 24),.load none (.tmp 23),none,0⟩,
 ⟨(some 25),.call 29 true [(.tmp 18),(.tmp 21),(.tmp 24)],none,0⟩,
 ⟨(some 6),.mov (.tmp 25),none,0⟩])
 .ret)
 .skip))
 (.seq (.region 0 [] [
 ⟨(some 26),.faddr 1 (.tmp 7),none,0⟩,
 ⟨(some 27),.load none (.tmp 26),none,0⟩,
 ⟨(some 28),.faddr 2 (.tmp 5),none,0⟩,
 ⟨(some 29),.faddr 0 (.tmp 28),none,0⟩,
 ⟨(some 30),.load none (.tmp 29),none,0⟩,
 ⟨(some 31),.faddr 2 (.tmp 5),none,0⟩,
 ⟨(some 32),.faddr 1 (.tmp 31),none,0⟩,
 ⟨(some 33),.load none (.tmp 32),none,0⟩,
 ⟨(some 34),.call 29 true [(.tmp 27),(.tmp 30),(.tmp 33)],none,0⟩,
 ⟨(some 6),.mov (.tmp 34),none,0⟩])
 .ret))))⟩
def f90 : AFunc:=⟨27,[.tmp 6,.tmp 7],false,
 (.seq (.region 1 [] [
 ⟨(some 3),.box (.tmp 0),none,0⟩,
 ⟨(some 6),.mov (.cst (.c (.int .i64 0))),none,1⟩,
 ⟨(some 7),.mov (.cst (.c (.int .i64 0))),none,1⟩])
 (.seq (.region 0 [] [
 ⟨(some 9),.mov (.tmp 2),none,0⟩,
 ⟨(some 10),.bin .quo (.tmp 9) (.cst (.c (.int .i64 10))),none,0⟩,
 ⟨(some 8),.mov (.tmp 10),none,0⟩])
 (.seq (.seq (.region 0 [] [
 ⟨(some 11),.mov (.tmp 1),none,0⟩,
 ⟨(some 12),.faddr 1 (.tmp 3),none,0⟩,
 ⟨(some 13),.load none (.tmp 12),none,0⟩,
 ⟨(some 14),.neg (.tmp 13),none,0⟩,
 ⟨(some 15),.faddr 1 (.tmp 3),none,0⟩,
 ⟨(some 16),.load none (.tmp 15),none,0⟩,
 ⟨(some 17),.call 29 true [(.tmp 11),(.tmp 14),(.tmp 16)],none,0⟩,
 ⟨(some 18),.not (.tmp 17),none,0⟩])
 (.cond (.tmp 18)
 (.region 0 [] [
 ⟨(some 19),.mov (.tmp 2),none,0⟩,
 ⟨(some 20),.bin .quo (.tmp 19) (.cst (.c (.int .i64 20))),none,0⟩,
 ⟨(some 8),.mov (.tmp 20),none,0⟩])
 .skip))
 (.seq (.region 0 [(0,1),(0,2),(1,2),(0,3),(1,3),(0,4),(0,5),(1,6),(2,6),(3,6),(4,6),(5,6)] [
 ⟨(some 21),.mov (.tmp 8),none,0⟩,
 ⟨(some 22),.mov (.tmp 2),none,0⟩,
 ⟨(some 23),.faddr 7 (.tmp 3),none,0⟩,
 ⟨(some 24),.load none (.tmp 23),none,0⟩,
 ⟨(some 25),.bin .sub (.tmp 22) (.tmp 24),none,0⟩,
 ⟨(some 26),.mm true (.cst (.c (.int .i64 0))) (.tmp 25),none,0⟩,
 ⟨(some 6),.mov (.tmp 21),none,0⟩,
 ⟨(some 7),.mov (.tmp 26),none,0⟩])
 .ret))))⟩
def f91 : AFunc:=⟨9,[.tmp 4],false,
 (.seq (.region 1 [] [
 ⟨(some 2),.box (.tmp 0),none,0⟩,
 ⟨(some 4),.mov (.cst (.c (.bool false))),none,1⟩])
 (.seq (.region 0 [] [
 ⟨(some 5),.mov (.tmp 1),none,0⟩,
 ⟨(some 6),.faddr 0 (.tmp 2),none,0⟩,
 ⟨(some 7),.load none (.tmp 6),none,0⟩,
 ⟨(some 8),.call 106 true [(.tmp 5),(.cst (.c (.int .i64 0))),(.tmp 7)],none,0⟩,
 ⟨(some 4),.mov (.tmp 8),none,0⟩])
 .ret))⟩
def f92 : AFunc:=⟨36,[.tmp 6],false,
 (.seq (.region 1 [] [
 ⟨(some 4),.box (.tmp 1),none,0⟩,
 ⟨(some 6),.mov (.cst (.c .nils)),none,1⟩])
 (.seq (.region 1 [(0,2),(1,2),(0,3),(1,3),(0,4),(1,4),(0,5),(1,5),(0,6),(1,6),(2,6),(3,6),(4,6),(5,6),(0,7),(1,7),(2,7),(3,7),(4,7),(5,7),(0,8),(1,8),(0,10),(1,10),(2,10),(3,10),(4,10),(5,10),(6,10),(7,10),(8,10),(9,10)] [
 ⟨(some 10),.faddr 1 (.tmp 4),none,0⟩,
 ⟨(some 11),.load none (.tmp 10),none,0⟩,
 ⟨(some 12),.mov (.tmp 0),none,0⟩,
 ⟨(some 13),.nilchk (.tmp 12),none,0⟩,
 ⟨(some 14),.faddr 0 (.tmp 13),none,0⟩,
 ⟨(some 15),.load (some 12) (.tmp 14),none,0⟩,
 ⟨(some 16),.faddr 0 (.tmp 4),none,0⟩,
 ⟨(some 17),.load none (.tmp 16),none,0⟩,
 ⟨(some 18),.call 102 true [(.tmp 15),(.tmp 17)],none,0⟩,
 ⟨(some 19),.build [(.int .i64 0),(.bool false)] [(0,1,(.tmp 11)),(1,1,(.tmp 18))],none,0⟩,
 ⟨(some 7),.alloc [(.int .i64 0),(.bool false)],none,0⟩,
 ⟨none,.store (some 2) (.tmp 7) (.tmp 19),none,1⟩])
 (.seq (.seq (.region 0 [] [
 ⟨(some 20),.mov (.tmp 2),none,0⟩,
 ⟨(some 21),.mov (.cst (.c (.int .i64 0))),none,0⟩])
 (.block 0 (.loop ⟨[8,9,22,23,24,25,26,27,28,29,30,31,32,33,34],false,[(6,none,1)]⟩
 (.seq (.region 0 [] [
 ⟨(some 22),.bin .lss (.tmp 21) (.tmp 20),none,0⟩])
 (.seq (.cond (.tmp 22)
 .skip
 (.exit 0))
 (.seq (.block 1 (.seq (.region 1 [] [
 ⟨(some 24),.mov (.tmp 0),none,0⟩,
 ⟨(some 25),.load (some 2) (.tmp 7),none,0⟩,
 ⟨(some 26),.call 135 false [(.tmp 24),(.tmp 25)],none,0⟩,
 ⟨(some 23),.mov (.tmp 26),none,0⟩,
 ⟨(some 27),.extract 0 (.tmp 23),none,0⟩,
 ⟨(some 28),.extract 1 (.tmp 23),none,0⟩,
 ⟨(some 9),.alloc [(.int .i64 0),(.bool false)],none,0⟩,
 ⟨(some 8),.mov (.tmp 27),none,1⟩,
 ⟨none,.store (some 2) (.tmp 9) (.tmp 28),none,1⟩])
 (.region 2 [(0,1),(0,2),(0,4),(1,4),(2,4),(3,4),(4,5)] [
 ⟨(some 29),.mov (.tmp 6),none,0⟩,
 ⟨(some 30),.mov (.tmp 8),none,0⟩,
 ⟨(some 31),.bslice 1 1 [(.int .i64 0)] [(0,(.tmp 30))],none,0⟩,
 ⟨(some 32),.append 1 8 (.tmp 29) (.tmp 31),none,1⟩,
 ⟨(some 33),.load (some 2) (.tmp 9),none,2⟩,
 ⟨(some 6),.mov (.tmp 32),none,2⟩,
 ⟨none,.store (some 2) (.tmp 7) (.tmp 33),none,2⟩])))
 (.region 0 [] [
 ⟨(some 34),.bin .add (.tmp 21) (.cst (.c (.int .i64 1))),none,0⟩,
 ⟨(some 21),.mov (.tmp 34),none,0⟩])))))))
 (.seq (.region 0 [] [
 ⟨(some 35),.mov (.tmp 6),none,0⟩,
 ⟨(some 6),.mov (.tmp 35),none,0⟩])
 .ret))))⟩
def f93 : AFunc:=⟨21,[.tmp 4,.tmp 5],false,
 (.seq (.region 1 [] [
 ⟨(some 2),.box (.tmp 0),none,0⟩,
 ⟨(some 4),.mov (.cst (.c .nilp)),none,1⟩,
 ⟨(some 5),.mov (.cst (.c (.int .i64 0))),none,1⟩])
 (.seq (.seq (.region 0 [] [
 ⟨(some 8),.load (some 12) (.tmp 2),none,0⟩,
 ⟨(some 9),.call 22 true [(.tmp 8)],none,0⟩,
 ⟨(some 6),.mov (.tmp 9),none,0⟩])
 (.seq (.region 0 [] [
 ⟨(some 10),.mov (.tmp 6),none,0⟩,
 ⟨(some 11),.bin .neq (.tmp 10) (.cst (.c (.int .i64 0))),none,0⟩])
 (.cond (.tmp 11)
 (.seq (.region 0 [] [
 ⟨(some 12),.mov (.tmp 6),none,0⟩,
 ⟨(some 4),.mov (.cst (.c .nilp)),none,0⟩,
 ⟨(some 5),.mov (.tmp 12),none,0⟩])
 .ret)
 .skip)))
 (.seq (.seq (.region 0 [] [
 ⟨(some 13),.mov (.tmp 1),none,0⟩,
 ⟨(some 14),.not (.tmp 13),none,0⟩])
 (.cond (.tmp 14)
 (.seq (.region 0 [] [
 ⟨(some 4),.mov (.cst (.c .nilp)),none,0⟩,
 ⟨(some 5),.mov (.cst (.c (.int .i64 2))),none,0⟩])
 .ret)
 .skip))
 (.seq (.region 0 [] [
 ⟨(some 15),.load (some 12) (.tmp 2),none,0⟩,
 ⟨(some 16),.call 72 false [(.tmp 15)],none,0⟩,
 ⟨(some 7),.mov (.tmp 16),none,0⟩])
 (.seq (.seq (.region 0 [] [
 ⟨(some 17),.mov (.tmp 7),none,0⟩,
 ⟨(some 18),.call 113 false [(.tmp 17),(.cst (.c .nils))],none,0⟩,
 ⟨(some 19),.not (.tmp 18),none,0⟩])
 (.cond (.tmp 19)
 (.seq (.region 0 [] [
 ⟨(some 4),.mov (.cst (.c .nilp)),none,0⟩,
 ⟨(some 5),.mov (.cst (.c (.int .i64 11))),none,0⟩])
 .ret)
 .skip))
 (.seq (.region 0 [] [
 ⟨(some 20),.mov (.tmp 7),none,0⟩,
 ⟨(some 4),.mov (.tmp 20),none,0⟩,
 ⟨(some 5),.mov (.cst (.c (.int .i64 0))),none,0⟩])
 .ret))))))⟩
def f94 : AFunc:=⟨24,[.cell 4 (some 2)],false,
 (.seq (.region 2 [] [
 ⟨(some 3),.box (.tmp 1),none,0⟩,
 ⟨(some 4),.alloc [(.int .i64 0),(.int .i64 0)],none,1⟩])
 (.seq (.region 1 [] [
 ⟨(some 5),.alloc [(.bool false)],none,0⟩,
 ⟨none,.store none (.tmp 5) (.cst (.c (.bool true))),none,1⟩])
 (.seq (.seq (.region 0 [] [
 ⟨(some 9),.mov (.tmp 0),none,0⟩,
 ⟨(some 10),.call 101 false [(.tmp 9),(.cst (.c .nils))],none,0⟩])
 (.block 0 (.range (.tmp 10) [11,12]
 (.region 0 [] [
 ⟨(some 7),.mov (.tmp 12),none,0⟩])
 (.block 1 (.seq (.region 0 [] [
 ⟨(some 13),.load none (.tmp 3),none,0⟩,
 ⟨(some 14),.mov (.tmp 7),none,0⟩,
 ⟨(some 15),.callv (.tmp 13) [(.tmp 14)],none,0⟩,
 ⟨(some 8),.mov (.tmp 15),none,0⟩])
 (.seq (.seq (.region 0 [] [
 ⟨(some 16),.load none (.tmp 5),none,0⟩])
 (.cond (.tmp 16)
 (.region 0 [] [
 ⟨(some 17),.mov (.tmp 8),none,0⟩,
 ⟨(some 18),.mov (.tmp 8),none,0⟩,
 ⟨(some 19),.build [(.int .i64 0),(.int .i64 0)] [(0,1,(.tmp 17)),(1,1,(.tmp 18))],none,0⟩,
 ⟨none,.store (some 2) (.tmp 4) (.tmp 19),none,0⟩,
 ⟨none,.store none (.tmp 5) (.cst (.c (.bool false))),none,0⟩])
 .skip))
 (.region 0 [] [
 ⟨(some 20),.load (some 2) (.tmp 4),none,0⟩,
 ⟨(some 21),.mov (.tmp 8),none,0⟩,
 ⟨(some 22),.call 136 true [(.tmp 20),(.tmp 21)],none,0⟩,
 ⟨none,.store (some 2) (.tmp 4) (.tmp 22),none,0⟩])))))))
 (.seq (.region 0 [] [
 ⟨(some 23),.load (some 2) (.tmp 4),none,0⟩,
 ⟨none,.store (some 2) (.tmp 4) (.tmp 23),none,0⟩])
 .ret))))⟩
def f95 : AFunc:=⟨25,[.tmp 5],false,
 (.seq (.region 0 [] [
 ⟨(some 5),.mov (.cst (.c (.int .i64 0))),none,0⟩])
 (.seq (.seq (.region 0 [(0,1),(0,2),(1,2),(0,3),(0,4),(0,5),(1,5),(2,5),(3,5),(4,5),(0,8),(1,8),(2,8),(3,8),(4,8),(5,8),(6,8),(7,8)] [
 ⟨(some 8),.load none (.tmp 1),none,0⟩,
 ⟨(some 9),.mov (.tmp 0),none,0⟩,
 ⟨(some 10),.load none (.tmp 2),none,0⟩,
 ⟨(some 11),.iaddr 2 (.tmp 9) (.tmp 10),none,0⟩,
 ⟨(some 12),.load (some 2) (.tmp 11),none,0⟩,
 ⟨(some 13),.load none (.tmp 3),none,0⟩,
 ⟨(some 14),.call 92 false [(.tmp 8),(.tmp 12),(.tmp 13)],none,0⟩,
 ⟨(some 15),.len (.tmp 14),none,0⟩,
 ⟨(some 16),.mov (.cst (.c (.int .i64 0))),none,0⟩])
 (.block 0 (.loop ⟨[7,17,18,19,20,21,22,23],false,[]⟩
 (.seq (.region 0 [] [
 ⟨(some 17),.bin .lss (.tmp 16) (.tmp 15),none,0⟩])
 (.seq (.cond (.tmp 17)
 .skip
 (.exit 0))
 (.seq (.block 1 (.seq (.region 0 [] [
 ⟨(some 18),.iaddr 1 (.tmp 14) (.tmp 16),none,0⟩,
 ⟨(some 19),.load none (.tmp 18),none,0⟩,
 ⟨(some 7),.mov (.tmp 19),none,0⟩])
 (.region 0 [] [
 ⟨(some 20),.mov (.tmp 5),none,0⟩,
 ⟨(some 21),.mov (.tmp 7),none,0⟩,
 ⟨(some 22),.bin .add (.tmp 20) (.tmp 21),none,0⟩,
 ⟨(some 5),.mov (.tmp 22),none,0⟩])))
 (.region 0 [] [
 ⟨(some 23),.bin .add (.tmp 16) (.cst (.c (.int .i64 1))),none,0⟩,
 ⟨(some 16),.mov (.tmp 23),none,0⟩])))))))
 (.seq (.region 0 [] [
 ⟨(some 24),.mov (.tmp 5),none,0⟩,
 ⟨(some 5),.mov (.tmp 24),none,0⟩])
 .ret)))⟩
def f98 : AFunc:=⟨5,[.tmp 2],false,
 (.seq (.region 1 [] [
 ⟨(some 1),.box (.tmp 0),none,0⟩,
 ⟨(some 2),.mov (.cst (.c (.int .i64 0))),none,1⟩])
 (.seq (.region 0 [] [
 ⟨(some 3),.faddr 0 (.tmp 1),none,0⟩,
 ⟨(some 4),.load none (.tmp 3),none,0⟩,
 ⟨(some 2),.mov (.tmp 4),none,0⟩])
 .ret))⟩
def f99 : AFunc:=⟨10,[.cell 6 (some 2)],false,
 (.seq (.region 3 [] [
 ⟨(some 3),.box (.tmp 0),none,0⟩,
 ⟨(some 5),.box (.tmp 2),none,1⟩,
 ⟨(some 6),.alloc [(.int .i64 0),(.int .i64 0)],none,2⟩])
 (.seq (.region 0 [] [
 ⟨(some 7),.mov (.tmp 1),none,0⟩,
 ⟨(some 8),.mkfn 137 none [(.tmp 3),(.tmp 5)],none,0⟩,
 ⟨(some 9),.call 94 false [(.tmp 7),(.tmp 8)],none,0⟩,
 ⟨none,.store (some 2) (.tmp 6) (.tmp 9),none,0⟩])
 .ret))⟩
def f100 : AFunc:=⟨5,[.tmp 2],false,
 (.seq (.region 1 [] [
 ⟨(some 1),.box (.tmp 0),none,0⟩,
 ⟨(some 2),.mov (.cst (.c (.int .i64 0))),none,1⟩])
 (.seq (.region 0 [] [
 ⟨(some 3),.faddr 1 (.tmp 1),none,0⟩,
 ⟨(some 4),.load none (.tmp 3),none,0⟩,
 ⟨(some 2),.mov (.tmp 4),none,0⟩])
 .ret))⟩
def f101 : AFunc:=⟨6,[.tmp 4],false,
 (.seq (.region 2 [] [
 ⟨(some 2),.box (.tmp 0),none,0⟩,
 ⟨(some 3),.box (.tmp 1),none,1⟩,
 ⟨(some 4),.mov (.cst (.c .nilfn)),none,2⟩])
 (.seq (.region 0 [] [
 ⟨(some 5),.mkfn 138 none [(.tmp 2),(.tmp 3)],none,0⟩,
 ⟨(some 4),.mov (.tmp 5),none,0⟩])
 .ret))⟩
def f102 : AFunc:=⟨12,[.tmp 4],false,
 (.seq (.region 1 [] [
 ⟨(some 2),.box (.tmp 0),none,0⟩,
 ⟨(some 4),.mov (.cst (.c (.bool false))),none,1⟩])
 (.seq (.region 0 [] [
 ⟨(some 5),.mov (.tmp 1),none,0⟩,
 ⟨(some 6),.faddr 1 (.tmp 2),none,0⟩,
 ⟨(some 7),.load none (.tmp 6),none,0⟩,
 ⟨(some 8),.neg (.tmp 7),none,0⟩,
 ⟨(some 9),.faddr 1 (.tmp 2),none,0⟩,
 ⟨(some 10),.load none (.tmp 9),none,0⟩,
 ⟨(some 11),.call 106 true [(.tmp 5),(.tmp 8),(.tmp 10)],none,0⟩,
 ⟨(some 4),.mov (.tmp 11),none,0⟩])
 .ret))⟩
def f103 : AFunc:=⟨46,[.tmp 4],false,
 (.seq (.region 1 [] [
 ⟨(some 3),.box (.tmp 1),none,0⟩,
 ⟨(some 4),.mov (.cst (.c .nils)),none,1⟩])
 (.seq (.region 1 [] [
 ⟨(some 8),.build [(.int .i64 0),(.int .i64 0)] [],none,0⟩,
 ⟨(some 5),.alloc [(.int .i64 0),(.int .i64 0)],none,0⟩,
 ⟨none,.store (some 2) (.tmp 5) (.tmp 8),none,1⟩])
 (.seq (.seq (.region 0 [] [
 ⟨(some 9),.mov (.tmp 0),none,0⟩,
 ⟨(some 10),.nilchk (.tmp 9),none,0⟩,
 ⟨(some 11),.faddr 0 (.tmp 10),none,0⟩,
 ⟨(some 12),.load (some 12) (.tmp 11),none,0⟩,
 ⟨(some 13),.call 79 true [(.tmp 12)],none,0⟩,
 ⟨(some 14),.mov (.cst (.c (.int .i64 0))),none,0⟩])
 (.block 0 (.loop ⟨[6,7,15,16,17,18,19,20,21,22,23,24,25,26,27,28,29,30,31,32,33,34,35,36,37,38,39,40,41,42,43,44],false,[(4,none,2)]⟩
 (.seq (.region 0 [] [
 ⟨(some 15),.bin .lss (.tmp 14) (.tmp 13),none,0⟩])
 (.seq (.cond (.tmp 15)
 .skip
 (.exit 0))
 (.seq (.block 1 (.seq (.region 0 [] [
 ⟨(some 16),.mov (.tmp 14),none,0⟩,
 ⟨(some 6),.mov (.tmp 16),none,0⟩])
 (.seq (.region 1 [] [
 ⟨(some 17),.mov (.tmp 0),none,0⟩,
 ⟨(some 18),.load (some 64) (.tmp 3),none,0⟩,
 ⟨(some 19),.mov (.tmp 6),none,0⟩,
 ⟨(some 20),.call 107 false [(.tmp 17),(.tmp 18),(.tmp 19)],none,0⟩,
 ⟨(some 7),.alloc [(.int .i64 0),(.int .i64 0)],none,0⟩,
 ⟨none,.store (some 2) (.tmp 7) (.tmp 20),none,1⟩])
 (.seq (.region 1 [(0,3),(1,3),(2,3),(0,4),(1,4),(2,4),(0,6),(1,6),(2,6),(3,6),(4,6),(5,6),(0,7),(1,7),(2,7),(3,7),(4,7),(5,7),(0,8),(1,8),(2,8),(3,8),(4,8),(5,8),(0,9),(1,9),(2,9),(3,9),(4,9),(5,9),(6,9),(7,9),(8,9),(0,10),(1,10),(2,10),(3,10),(4,10),(5,10),(6,10),(7,10),(8,10),(0,11),(1,11),(2,11),(3,11),(4,11),(5,11),(0,12),(1,12),(2,12),(3,12),(4,12),(5,12)] [
 ⟨(some 21),.faddr 0 (.tmp 5),none,0⟩,
 ⟨(some 22),.load none (.tmp 21),none,0⟩,
 ⟨(some 23),.bin .sub (.tmp 22) (.cst (.c (.int .i64 9))),none,0⟩,
 ⟨(some 24),.faddr 0 (.tmp 7),none,0⟩,
 ⟨(some 25),.load none (.tmp 24),none,0⟩,
 ⟨(some 26),.mm true (.tmp 23) (.tmp 25),none,0⟩,
 ⟨(some 27),.faddr 1 (.tmp 5),none,0⟩,
 ⟨(some 28),.load none (.tmp 27),none,0⟩,
 ⟨(some 29),.bin .add (.tmp 28) (.cst (.c (.int .i64 9))),none,0⟩,
 ⟨(some 30),.faddr 1 (.tmp 7),none,0⟩,
 ⟨(some 31),.load none (.tmp 30),none,0⟩,
 ⟨(some 32),.bslice 1 2 [(.int .i64 0)] [(0,(.tmp 29)),(1,(.tmp 31))],none,0⟩,
 ⟨(some 33),.call 87 true [(.tmp 32)],none,1⟩,
 ⟨(some 34),.build [(.int .i64 0),(.int .i64 0)] [(0,1,(.tmp 26)),(1,1,(.tmp 33))],none,1⟩,
 ⟨none,.store (some 2) (.tmp 5) (.tmp 34),none,1⟩])
 (.seq (.seq (.region 0 [] [
 ⟨(some 35),.faddr 0 (.tmp 5),none,0⟩,
 ⟨(some 36),.load none (.tmp 35),none,0⟩,
 ⟨(some 37),.faddr 1 (.tmp 5),none,0⟩,
 ⟨(some 38),.load none (.tmp 37),none,0⟩,
 ⟨(some 39),.bin .gtr (.tmp 36) (.tmp 38),none,0⟩])
 (.cond (.tmp 39)
 (.exit 0)
 .skip))
 (.region 2 [] [
 ⟨(some 40),.mov (.tmp 4),none,0⟩,
 ⟨(some 41),.load (some 2) (.tmp 5),none,0⟩,
 ⟨(some 42),.bslice 2 1 [(.int .i64 0),(.int .i64 0)] [(0,(.tmp 41))],none,0⟩,
 ⟨(some 43),.append 2 16 (.tmp 40) (.tmp 42),none,1⟩,
 ⟨(some 4),.mov (.tmp 43),none,2⟩]))))))
 (.region 0 [] [
 ⟨(some 44),.bin .add (.tmp 14) (.cst (.c (.int .i64 1))),none,0⟩,
 ⟨(some 14),.mov (.tmp 44),none,0⟩])))))))
 (.seq (.region 0 [] [
 ⟨(some 45),.mov (.tmp 4),none,0⟩,
 ⟨(some 4),.mov (.tmp 45),none,0⟩])
 .ret))))⟩
def f104 : AFunc:=⟨87,[.cell 2 (some 64)],false,
 (.seq (.region 2 [] [
 ⟨(some 1),.box (.tmp 0),none,0⟩,
 ⟨(some 2),.alloc [(.int .i64 0),(.int .i64 0),(.int .i64 0),(.int .i64 0),(.int .i64 0),(.int .i64 0),(.int .i64 0),(.int .i64 0),(.int .i64 0),(.int .i64 0),(.int .i64 0),(.int .i64 0),(.int .i64 0),(.int .i64 0),(.int .i64 0),(.int .i64 0),(.int .i64 0),(.int .i64 0),.nils,(.int .i64 0),(.int .i64 0),.nils,(.int .i64 0),(.int .i64 0),.nils,(.int .i64 0),(.int .i64 0),.nils,(.int .i64 0),(.int .i64 0),.nils,(.int .i64 0),(.int .i64 0),.nils,(.int .i64 0),(.int .i64 0),.nils,(.int .i64 0),(.int .i64 0),.nils,(.int .i64 0),(.int .i64 0),.nils,(.int .i64 0),(.int .i64 0),.nils,(.int .i64 0),(.int .i64 0),.nils,(.int .i64 0),(.int .i64 0),.nils,(.int .i64 0),(.int .i64 0),.nils,(.int .i64 0),(.int .i64 0),.nils,(.int .i64 0),(.int .i64 0),.nils,(.int .i64 0),(.int .i64 0),.nils],none,1⟩])
 (.seq (.region 1 [] [
 ⟨(some 3),.alloc [(.bool false)],none,0⟩,
 ⟨none,.store none (.tmp 3) (.cst (.c (.bool true))),none,1⟩])
 (.seq (.region 1 [] [
 ⟨(some 4),.alloc [(.int .i64 0),(.int .i64 0),(.int .i64 0),(.int .i64 0),(.int .i64 0),(.int .i64 0),(.int .i64 0),(.int .i64 0)],none,0⟩])
 (.seq (.seq (.region 0 [] [
 ⟨(some 9),.load none (.tmp 1),none,0⟩,
 ⟨(some 10),.call 101 false [(.tmp 9),(.cst (.c .nils))],none,0⟩])
 (.block 0 (.range (.tmp 10) [11,12]
 (.region 1 [] [
 ⟨(some 5),.alloc [(.int .i64 0),(.int .i64 0),.nils],none,0⟩,
 ⟨none,.store (some 3) (.tmp 5) (.tmp 11),none,1⟩])
 (.block 1 (.seq (.region 1 [(0,4),(1,4),(2,4),(3,4),(0,6),(1,6),(2,6),(3,6),(4,6),(5,6)] [
 ⟨(some 13),.load none (.tmp 1),none,0⟩,
 ⟨(some 14),.nilchk (.tmp 13),none,0⟩,
 ⟨(some 15),.faddr 0 (.tmp 14),none,0⟩,
 ⟨(some 16),.load (some 12) (.tmp 15),none,0⟩,
 ⟨(some 17),.load (some 3) (.tmp 5),none,0⟩,
 ⟨(some 18),.call 141 true [(.tmp 16),(.tmp 17)],none,0⟩,
 ⟨(some 6),.alloc [(.int .i64 0),(.int .i64 0),(.int .i64 0),(.int .i64 0),(.int .i64 0),(.int .i64 0),(.int .i64 0),(.int .i64 0)],none,0⟩,
 ⟨none,.store (some 8) (.tmp 6) (.tmp 18),none,1⟩])
 (.seq (.seq (.region 0 [] [
 ⟨(some 19),.load none (.tmp 3),none,0⟩,
 ⟨(some 20),.not (.tmp 19),none,0⟩,
 ⟨(some 21),.mov (.tmp 20),none,0⟩,
 ⟨(some 22),.load (some 8) (.tmp 6),some (21,true),0⟩,
 ⟨(some 23),.load (some 8) (.tmp 4),some (21,true),0⟩,
 ⟨(some 24),.eqA false [(some .i64),(some .i64),(some .i64),(some .i64),(some .i64),(some .i64),(some .i64),(some .i64)] (.tmp 22) (.tmp 23),some (21,true),0⟩,
 ⟨(some 25),.pick (.tmp 21) (.tmp 24) (.cst (.c (.bool false))),none,0⟩])
 (.cond (.tmp 25)
 (.exit 1)
 .skip))
 (.seq (.region 2 [(0,2),(1,2),(0,3),(1,3),(0,4),(1,4),(2,4),(3,4),(0,5),(1,5),(2,5),(3,5),(0,6),(1,6),(2,6),(3,6),(0,8),(1,8),(2,8),(3,8),(4,8),(5,8),(6,8),(7,8)] [
 ⟨(some 26),.faddr 0 (.tmp 5),none,0⟩,
 ⟨(some 27),.load none (.tmp 26),none,0⟩,
 ⟨(some 28),.faddr 1 (.tmp 5),none,0⟩,
 ⟨(some 29),.load none (.tmp 28),none,0⟩,
 ⟨(some 30),.faddr 2 (.tmp 5),none,0⟩,
 ⟨(some 31),.load none (.tmp 30),none,0⟩,
 ⟨(some 32),.clone 115 1 8 (.tmp 31),none,0⟩,
 ⟨(some 33),.build [(.int .i64 0),(.int .i64 0),.nils] [(0,1,(.tmp 27)),(1,1,(.tmp 29)),(2,1,(.tmp 32))],none,1⟩,
 ⟨(some 7),.alloc [(.int .i64 0),(.int .i64 0),.nils],none,1⟩,
 ⟨none,.store (some 3) (.tmp 7) (.tmp 33),none,2⟩])
 (.seq (.seq (.region 0 [] [
 ⟨(some 34),.load none (.tmp 1),none,0⟩,
 ⟨(some 35),.nilchk (.tmp 34),none,0⟩,
 ⟨(some 36),.faddr 0 (.tmp 35),none,0⟩,
 ⟨(some 37),.load (some 12) (.tmp 36),none,0⟩,
 ⟨(some 38),.call 79 true [(.tmp 37)],none,0⟩,
 ⟨(some 39),.mov (.cst (.c (.int .i64 0))),none,0⟩])
 (.block 2 (.loop ⟨[8,40,41,42,43,44,45,46,47,48,49,50,51,52,53,54,55,56,57,58,59,60,61,62,63,64,65,66,67,68,69,70,71,72,73,74,75,76,77,78,79,80,81,82,83,84],false,[]⟩
 (.seq (.region 0 [] [
 ⟨(some 40),.bin .lss (.tmp 39) (.tmp 38),none,0⟩])
 (.seq (.cond (.tmp 40)
 .skip
 (.exit 2))
 (.seq (.block 3 (.seq (.region 0 [] [
 ⟨(some 41),.mov (.tmp 39),none,0⟩,
 ⟨(some 8),.mov (.tmp 41),none,0⟩])
 (.seq (.seq (.region 0 [(2,5),(3,5),(4,5),(2,6),(3,6),(4,6),(5,6),(2,7),(3,7),(4,7),(2,8),(3,8),(4,8)] [
 ⟨(some 42),.load none (.tmp 3),none,0⟩,
 ⟨(some 43),.mov (.tmp 42),none,0⟩,
 ⟨(some 44),.mov (.tmp 8),some (43,false),0⟩,
 ⟨(some 45),.iaddrA 8 1 (.tmp 6) (.tmp 44),some (43,false),0⟩,
 ⟨(some 46),.load none (.tmp 45),some (43,false),0⟩,
 ⟨(some 47),.mov (.tmp 8),some (43,false),0⟩,
 ⟨(some 48),.faddr 0 (.tmp 2),some (43,false),0⟩,
 ⟨(some 49),.iaddrA 8 1 (.tmp 48) (.tmp 47),some (43,false),0⟩,
 ⟨(some 50),.load none (.tmp 49),some (43,false),0⟩,
 ⟨(some 51),.bin .gtr (.tmp 46) (.tmp 50),some (43,false),0⟩,
 ⟨(some 52),.pick (.tmp 43) (.cst (.c (.bool true))) (.tmp 51),none,0⟩])
 (.cond (.tmp 52)
 (.region 0 [(0,1),(0,2),(1,2),(0,3),(1,3),(0,4),(1,4),(0,5),(1,5),(2,5),(3,5),(4,5),(0,6),(1,6),(2,6),(3,6),(4,6),(5,6),(1,7),(5,7),(1,8),(5,8),(0,9),(1,9),(2,9),(3,9),(4,9),(5,9),(6,9),(7,9),(8,9)] [
 ⟨(some 53),.mov (.tmp 8),none,0⟩,
 ⟨(some 54),.mov (.tmp 8),none,0⟩,
 ⟨(some 55),.mov (.tmp 8),none,0⟩,
 ⟨(some 56),.iaddrA 8 1 (.tmp 6) (.tmp 55),none,0⟩,
 ⟨(some 57),.load none (.tmp 56),none,0⟩,
 ⟨(some 58),.load (some 3) (.tmp 7),none,0⟩,
 ⟨(some 59),.faddr 0 (.tmp 2),none,0⟩,
 ⟨(some 60),.iaddrA 8 1 (.tmp 59) (.tmp 53),none,0⟩,
 ⟨none,.store none (.tmp 60) (.tmp 57),none,0⟩,
 ⟨(some 61),.faddr 16 (.tmp 2),none,0⟩,
 ⟨(some 62),.iaddrA 8 3 (.tmp 61) (.tmp 54),none,0⟩,
 ⟨none,.store (some 3) (.tmp 62) (.tmp 58),none,0⟩])
 .skip))
 (.seq (.region 0 [(2,5),(3,5),(4,5),(2,6),(3,6),(4,6),(5,6),(2,7),(3,7),(4,7),(2,8),(3,8),(4,8)] [
 ⟨(some 63),.load none (.tmp 3),none,0⟩,
 ⟨(some 64),.mov (.tmp 63),none,0⟩,
 ⟨(some 65),.mov (.tmp 8),some (64,false),0⟩,
 ⟨(some 66),.iaddrA 8 1 (.tmp 6) (.tmp 65),some (64,false),0⟩,
 ⟨(some 67),.load none (.tmp 66),some (64,false),0⟩,
 ⟨(some 68),.mov (.tmp 8),some (64,false),0⟩,
 ⟨(some 69),.faddr 8 (.tmp 2),some (64,false),0⟩,
 ⟨(some 70),.iaddrA 8 1 (.tmp 69) (.tmp 68),some (64,false),0⟩,
 ⟨(some 71),.load none (.tmp 70),some (64,false),0⟩,
 ⟨(some 72),.bin .lss (.tmp 67) (.tmp 71),some (64,false),0⟩,
 ⟨(some 73),.pick (.tmp 64) (.cst (.c (.bool true))) (.tmp 72),none,0⟩])
 (.cond (.tmp 73)
 (.region 0 [(0,1),(0,2),(1,2),(0,3),(1,3),(0,4),(1,4),(0,5),(1,5),(2,5),(3,5),(4,5),(0,6),(1,6),(2,6),(3,6),(4,6),(5,6),(1,7),(5,7),(1,8),(5,8),(0,9),(1,9),(2,9),(3,9),(4,9),(5,9),(6,9),(7,9),(8,9)] [
 ⟨(some 74),.mov (.tmp 8),none,0⟩,
 ⟨(some 75),.mov (.tmp 8),none,0⟩,
 ⟨(some 76),.mov (.tmp 8),none,0⟩,
 ⟨(some 77),.iaddrA 8 1 (.tmp 6) (.tmp 76),none,0⟩,
 ⟨(some 78),.load none (.tmp 77),none,0⟩,
 ⟨(some 79),.load (some 3) (.tmp 7),none,0⟩,
 ⟨(some 80),.faddr 8 (.tmp 2),none,0⟩,
 ⟨(some 81),.iaddrA 8 1 (.tmp 80) (.tmp 74),none,0⟩,
 ⟨none,.store none (.tmp 81) (.tmp 78),none,0⟩,
 ⟨(some 82),.faddr 40 (.tmp 2),none,0⟩,
 ⟨(some 83),.iaddrA 8 3 (.tmp 82) (.tmp 75),none,0⟩,
 ⟨none,.store (some 3) (.tmp 83) (.tmp 79),none,0⟩])
 .skip)))))
 (.region 0 [] [
 ⟨(some 84),.bin .add (.tmp 39) (.cst (.c (.int .i64 1))),none,0⟩,
 ⟨(some 39),.mov (.tmp 84),none,0⟩])))))))
 (.region 0 [(0,1)] [
 ⟨(some 85),.load (some 8) (.tmp 6),none,0⟩,
 ⟨none,.store none (.tmp 3) (.cst (.c (.bool false))),none,0⟩,
 ⟨none,.store (some 8) (.tmp 4) (.tmp 85),none,0⟩])))))))))
 (.seq (.region 0 [] [
 ⟨(some 86),.load (some 64) (.tmp 2),none,0⟩,
 ⟨none,.store (some 64) (.tmp 2) (.tmp 86),none,0⟩])
 .ret)))))⟩
def f105 : AFunc:=⟨5,[.tmp 2],false,
 (.seq (.region 0 [] [
 ⟨(some 2),.mov (.cst (.c (.bool false))),none,0⟩])
 (.seq (.region 0 [] [
 ⟨(some 3),.mov (.tmp 0),none,0⟩,
 ⟨(some 4),.call 106 true [(.tmp 3),(.cst (.c (.int .i64 (-9)))),(.cst (.c (.int .i64 9)))],none,0⟩,
 ⟨(some 2),.mov (.tmp 4),none,0⟩])
 .ret))⟩
def f106 : AFunc:=⟨15,[.tmp 6],false,
 (.seq (.region 0 [] [
 ⟨(some 6),.mov (.cst (.c (.bool false))),none,0⟩])
 (.seq (.region 0 [] [
 ⟨(some 7),.mov (.tmp 1),none,0⟩,
 ⟨(some 8),.mov (.tmp 0),none,0⟩,
 ⟨(some 9),.bin .leq (.tmp 7) (.tmp 8),none,0⟩,
 ⟨(some 10),.mov (.tmp 9),none,0⟩,
 ⟨(some 11),.mov (.tmp 0),some (10,true),0⟩,
 ⟨(some 12),.mov (.tmp 2),some (10,true),0⟩,
 ⟨(some 13),.bin .leq (.tmp 11) (.tmp 12),some (10,true),0⟩,
 ⟨(some 14),.pick (.tmp 10) (.tmp 13) (.cst (.c (.bool false))),none,0⟩,
 ⟨(some 6),.mov (.tmp 14),none,0⟩])
 .ret))⟩
def f107 : AFunc:=⟨29,[.cell 6 (some 2)],false,
 (.seq (.region 2 [] [
 ⟨(some 4),.box (.tmp 1),none,0⟩,
 ⟨(some 6),.alloc [(.int .i64 0),(.int .i64 0)],none,1⟩])
 (.seq (.region 0 [(0,6),(1,6),(2,6),(3,6),(4,6),(5,6),(0,7),(1,7),(2,7),(3,7),(4,7),(5,7),(6,7),(0,8),(1,8),(2,8),(3,8),(4,8),(5,8),(0,9),(1,9),(2,9),(3,9),(4,9),(5,9),(0,11),(1,11),(2,11),(3,11),(4,11),(5,11),(6,11),(7,11),(8,11),(9,11),(10,11),(0,12),(1,12),(2,12),(3,12),(4,12),(5,12),(6,12),(7,12),(8,12),(9,12),(10,12),(0,13),(1,13),(2,13),(3,13),(4,13),(5,13),(6,13),(7,13),(8,13),(9,13),(10,13),(0,14),(1,14),(2,14),(3,14),(4,14),(5,14),(6,14),(7,14),(8,14),(9,14),(10,14),(0,15),(1,15),(2,15),(3,15),(4,15),(5,15),(6,15),(7,15),(8,15),(9,15),(10,15),(0,16),(1,16),(2,16),(3,16),(4,16),(5,16),(6,16),(7,16),(8,16),(9,16),(10,16),(11,16),(12,16),(13,16),(14,16),(15,16),(0,17),(1,17),(2,17),(3,17),(4,17),(5,17),(6,17),(7,17),(8,17),(9,17),(10,17),(11,17),(12,17),(13,17),(14,17),(15,17),(16,17),(0,18),(1,18),(2,18),(3,18),(4,18),(5,18),(6,18),(7,18),(8,18),(9,18),(10,18),(11,18),(12,18),(13,18),(14,18),(15,18),(0,19),(1,19),(2,19),(3,19),(4,19),(5,19),(6,19),(7,19),(8,19),(9,19),(10,19),(11,19),(12,19),(13,19),(14,19),(15,19),(0,20),(1,20),(2,20),(3,20),(4,20),(5,20),(6,20),(7,20),(8,20),(9,20),(10,20)] [
 ⟨(some 7),.mov (.tmp 0),none,0⟩,
 ⟨(some 8),.nilchk (.tmp 7),none,0⟩,
 ⟨(some 9),.faddr 0 (.tmp 8),none,0⟩,
 ⟨(some 10),.faddr 1 (.tmp 9),none,0⟩,
 ⟨(some 11),.load none (.tmp 10),none,0⟩,
 ⟨(some 12),.neg (.tmp 11),none,0⟩,
 ⟨(some 13),.mov (.tmp 2),none,0⟩,
 ⟨(some 14),.faddr 8 (.tmp 4),none,0⟩,
 ⟨(some 15),.iaddrA 8 1 (.tmp 14) (.tmp 13),none,0⟩,
 ⟨(some 16),.load none (.tmp 15),none,0⟩,
 ⟨(some 17),.bin .sub (.tmp 12) (.tmp 16),none,0⟩,
 ⟨(some 18),.mov (.tmp 0),none,0⟩,
 ⟨(some 19),.nilchk (.tmp 18),none,0⟩,
 ⟨(some 20),.faddr 0 (.tmp 19),none,0⟩,
 ⟨(some 21),.faddr 1 (.tmp 20),none,0⟩,
 ⟨(some 22),.load none (.tmp 21),none,0⟩,
 ⟨(some 23),.mov (.tmp 2),none,0⟩,
 ⟨(some 24),.faddr 0 (.tmp 4),none,0⟩,
 ⟨(some 25),.iaddrA 8 1 (.tmp 24) (.tmp 23),none,0⟩,
 ⟨(some 26),.load none (.tmp 25),none,0⟩,
 ⟨(some 27),.bin .sub (.tmp 22) (.tmp 26),none,0⟩,
 ⟨(some 28),.build [(.int .i64 0),(.int .i64 0)] [(0,1,(.tmp 17)),(1,1,(.tmp 27))],none,0⟩,
 ⟨none,.store (some 2) (.tmp 6) (.tmp 28),none,0⟩])
 .ret))⟩
def f108 : AFunc:=⟨11,[.tmp 4],false,
 (.seq (.region 1 [] [
 ⟨(some 2),.box (.tmp 0),none,0⟩,
 ⟨(some 4),.mov (.cst (.c (.bool false))),none,1⟩])
 (.seq (.region 0 [] [
 ⟨(some 5),.mov (.tmp 1),none,0⟩,
 ⟨(some 6),.faddr 0 (.tmp 2),none,0⟩,
 ⟨(some 7),.load none (.tmp 6),none,0⟩,
 ⟨(some 8),.faddr 1 (.tmp 2),none,0⟩,
 ⟨(some 9),.load none (.tmp 8),none,0⟩,
 ⟨(some 10),.call 106 true [(.tmp 5),(.tmp 7),(.tmp 9)],none,0⟩,
 ⟨(some 4),.mov (.tmp 10),none,0⟩])
 .ret))⟩
def f110 : AFunc:=⟨14,[.tmp 2],false,
 (.seq (.region 0 [] [
 ⟨(some 2),.mov (.cst (.c .nils)),none,0⟩])
 (.seq (.seq (.region 0 [] [
 ⟨(some 4),.mov (.tmp 0),none,0⟩,
 ⟨(some 3),.mov (.tmp 4),none,0⟩])
 (.block 0 (.loop ⟨[5,6,7,8,9,10,11,12],true,[(2,none,1)]⟩
 (.seq (.seq (.region 0 [] [
 ⟨(some 5),.mov (.tmp 3),none,0⟩,
 ⟨(some 6),.bin .geq (.tmp 5) (.cst (.c (.int .i64 (-1)))),none,0⟩])
 (.cond (.tmp 6)
 .skip
 (.exit 0)))
 (.seq (.block 1 (.region 2 [] [
 ⟨(some 9),.mov (.tmp 2),none,0⟩,
 ⟨(some 10),.mov (.tmp 3),none,0⟩,
 ⟨(some 11),.bslice 1 1 [(.int .i64 0)] [(0,(.tmp 10))],none,0⟩,
 ⟨(some 12),.append 1 8 (.tmp 9) (.tmp 11),none,1⟩,
 ⟨(some 2),.mov (.tmp 12),none,2⟩]))
 (.region 0 [] [
 ⟨(some 7),.mov (.tmp 3),none,0⟩,
 ⟨(some 8),.bin .sub (.tmp 7) (.cst (.c (.int .i64 1))),none,0⟩,
 ⟨(some 3),.mov (.tmp 8),none,0⟩]))))))
 (.seq (.region 0 [] [
 ⟨(some 13),.mov (.tmp 2),none,0⟩,
 ⟨(some 2),.mov (.tmp 13),none,0⟩])
 .ret)))⟩
def f111 : AFunc:=⟨50,[.tmp 4],false,
 (.seq (.region 2 [] [
 ⟨(some 2),.box (.tmp 0),none,0⟩,
 ⟨(some 3),.box (.tmp 1),none,1⟩,
 ⟨(some 4),.mov (.cst (.c (.bool false))),none,2⟩])
 (.seq (.region 0 [] [
 ⟨(some 5),.mov (.cst (.c (.int .i64 0))),none,0⟩])
 (.seq (.seq (.region 0 [] [
 ⟨(some 6),.faddr 0 (.tmp 3),none,0⟩,
 ⟨(some 7),.load none (.tmp 6),none,0⟩,
 ⟨(some 8),.bin .geq (.tmp 7) (.cst (.c (.int .i64 0))),none,0⟩])
 (.cond (.tmp 8)
 (.region 0 [(0,1),(0,2),(1,2),(0,3),(1,3),(0,4),(0,5),(1,5),(2,5),(3,5),(4,5),(0,6),(1,6),(2,6),(3,6),(4,6),(0,7),(0,8),(1,8),(2,8),(3,8),(4,8),(5,8),(6,8),(7,8),(0,9),(1,9),(2,9),(3,9),(4,9),(5,9),(6,9),(7,9),(0,10)] [
 ⟨(some 9),.mov (.tmp 5),none,0⟩,
 ⟨(some 10),.load (some 12) (.tmp 2),none,0⟩,
 ⟨(some 11),.faddr 2 (.tmp 3),none,0⟩,
 ⟨(some 12),.load (some 3) (.tmp 11),none,0⟩,
 ⟨(some 13),.call 141 true [(.tmp 10),(.tmp 12)],none,0⟩,
 ⟨(some 14),.faddr 0 (.tmp 3),none,0⟩,
 ⟨(some 15),.load none (.tmp 14),none,0⟩,
 ⟨(some 16),.idx 8 1 none (.tmp 13) (.tmp 15),none,0⟩,
 ⟨(some 17),.faddr 1 (.tmp 2),none,0⟩,
 ⟨(some 18),.load none (.tmp 17),none,0⟩,
 ⟨(some 19),.bin .sub (.tmp 16) (.tmp 18),none,0⟩,
 ⟨(some 20),.bin .add (.tmp 9) (.tmp 19),none,0⟩,
 ⟨(some 5),.mov (.tmp 20),none,0⟩])
 .skip))
 (.seq (.seq (.region 0 [] [
 ⟨(some 21),.faddr 1 (.tmp 3),none,0⟩,
 ⟨(some 22),.load none (.tmp 21),none,0⟩,
 ⟨(some 23),.bin .geq (.tmp 22) (.cst (.c (.int .i64 0))),none,0⟩])
 (.cond (.tmp 23)
 (.region 0 [(0,1),(0,2),(0,3),(1,3),(2,3),(0,4),(1,4),(2,4),(3,4),(0,5),(1,5),(2,5),(3,5),(0,6),(1,6),(2,6),(0,7),(1,7),(2,7),(3,7),(4,7),(5,7),(6,7),(0,8),(1,8),(2,8),(3,8),(4,8),(5,8),(6,8),(0,9),(1,9),(2,9),(0,10)] [
 ⟨(some 24),.mov (.tmp 5),none,0⟩,
 ⟨(some 25),.faddr 1 (.tmp 2),none,0⟩,
 ⟨(some 26),.load none (.tmp 25),none,0⟩,
 ⟨(some 27),.load (some 12) (.tmp 2),none,0⟩,
 ⟨(some 28),.faddr 5 (.tmp 3),none,0⟩,
 ⟨(some 29),.load (some 3) (.tmp 28),none,0⟩,
 ⟨(some 30),.call 141 true [(.tmp 27),(.tmp 29)],none,0⟩,
 ⟨(some 31),.faddr 1 (.tmp 3),none,0⟩,
 ⟨(some 32),.load none (.tmp 31),none,0⟩,
 ⟨(some 33),.idx 8 1 none (.tmp 30) (.tmp 32),none,0⟩,
 ⟨(some 34),.bin .add (.tmp 26) (.tmp 33),none,0⟩,
 ⟨(some 35),.bin .sub (.tmp 24) (.tmp 34),none,0⟩,
 ⟨(some 5),.mov (.tmp 35),none,0⟩])
 .skip))
 (.seq (.region 0 [] [
 ⟨(some 36),.mov (.tmp 5),none,0⟩,
 ⟨(some 37),.faddr 0 (.tmp 3),none,0⟩,
 ⟨(some 38),.load none (.tmp 37),none,0⟩,
 ⟨(some 39),.faddr 1 (.tmp 3),none,0⟩,
 ⟨(some 40),.load none (.tmp 39),none,0⟩,
 ⟨(some 41),.bin .sub (.tmp 38) (.tmp 40),none,0⟩,
 ⟨(some 42),.faddr 1 (.tmp 3),none,0⟩,
 ⟨(some 43),.load none (.tmp 42),none,0⟩,
 ⟨(some 44),.faddr 0 (.tmp 3),none,0⟩,
 ⟨(some 45),.load none (.tmp 44),none,0⟩,
 ⟨(some 46),.bin .sub (.tmp 43) (.tmp 45),none,0⟩,
 ⟨(some 47),.mm true (.tmp 41) (.tmp 46),none,0⟩,
 ⟨(some 48),.bin .mul (.cst (.c (.int .i64 9))) (.tmp 47),none,0⟩,
 ⟨(some 49),.bin .gtr (.tmp 36) (.tmp 48),none,0⟩,
 ⟨(some 4),.mov (.tmp 49),none,0⟩])
 .ret)))))⟩
def f113 : AFunc:=⟨10,[.cell 4 none],false,
 (.seq (.region 1 [] [
 ⟨(some 4),.alloc [(.bool false)],none,0⟩])
 (.seq (.seq (.region 0 [] [
 ⟨(some 5),.mov (.tmp 0),none,0⟩,
 ⟨(some 6),.mov (.tmp 1),none,0⟩,
 ⟨(some 7),.call 101 false [(.tmp 5),(.tmp 6)],none,0⟩])
 (.block 0 (.range (.tmp 7) [8,9]
 .skip
 (.block 1 (.seq (.region 0 [] [
 ⟨none,.store none (.tmp 4) (.cst (.c (.bool true))),none,0⟩])
 .ret)))))
 (.seq (.region 0 [] [
 ⟨none,.store none (.tmp 4) (.cst (.c (.bool false))),none,0⟩])
 .ret)))⟩
def f114 : AFunc:=⟨39,[.tmp 10],false,
 (.seq (.region 0 [] [
 ⟨(some 10),.mov (.cst (.c (.bool false))),none,0⟩])
 (.seq (.seq (.region 0 [] [
 ⟨(some 12),.mov (.tmp 2),none,0⟩,
 ⟨(some 13),.bin .eql (.tmp 12) (.cst (.c (.int .i64 0))),none,0⟩])
 (.cond (.tmp 13)
 (.seq (.region 0 [] [
 ⟨(some 14),.mov (.tmp 0),none,0⟩,
 ⟨none,.store none (.tmp 3) (.tmp 14),none,0⟩])
 (.seq (.region 0 [] [
 ⟨(some 15),.load none (.tmp 4),none,0⟩,
 ⟨(some 16),.mov (.tmp 0),none,0⟩,
 ⟨(some 17),.call 113 false [(.tmp 15),(.tmp 16)],none,0⟩,
 ⟨(some 10),.mov (.tmp 17),none,0⟩])
 .ret))
 .skip))
 (.seq (.seq (.region 0 [] [
 ⟨(some 18),.mov (.tmp 1),none,0⟩,
 ⟨(some 11),.mov (.tmp 18),none,0⟩])
 (.block 0 (.loop ⟨[10,19,20,21,22,23,24,25,26,27,28,29,30,31,32,33,34,35,36,37,38],false,[]⟩
 (.seq (.seq (.region 0 [] [
 ⟨(some 19),.mov (.tmp 11),none,0⟩,
 ⟨(some 20),.faddr 11 (.tmp 5),none,0⟩,
 ⟨(some 21),.load none (.tmp 20),none,0⟩,
 ⟨(some 22),.len (.tmp 21),none,0⟩,
 ⟨(some 23),.mov (.tmp 2),none,0⟩,
 ⟨(some 24),.bin .sub (.tmp 22) (.tmp 23),none,0⟩,
 ⟨(some 25),.bin .leq (.tmp 19) (.tmp 24),none,0⟩])
 (.cond (.tmp 25)
 .skip
 (.exit 0)))
 (.seq (.block 1 (.seq (.region 3 [(0,1),(0,2),(0,3),(1,3),(2,3),(0,4),(1,4),(2,4),(0,5),(0,6),(1,6),(2,6),(3,6),(4,6),(5,6),(0,7),(1,7),(2,7),(3,7),(4,7),(5,7),(0,8),(1,8),(2,8),(3,8),(4,8),(5,8),(6,8),(7,8),(0,9),(1,9),(2,9),(3,9),(4,9),(5,9),(6,9),(7,9)] [
 ⟨(some 28),.load none (.tmp 6),none,0⟩,
 ⟨(some 29),.mov (.tmp 0),none,0⟩,
 ⟨(some 30),.clone 115 1 8 (.tmp 29),none,0⟩,
 ⟨(some 31),.mov (.tmp 11),none,1⟩,
 ⟨(some 32),.bslice 1 1 [(.int .i64 0)] [(0,(.tmp 31))],none,1⟩,
 ⟨(some 33),.append 1 8 (.tmp 30) (.tmp 32),none,2⟩,
 ⟨(some 34),.mov (.tmp 11),none,3⟩,
 ⟨(some 35),.bin .add (.tmp 34) (.cst (.c (.int .i64 1))),none,3⟩,
 ⟨(some 36),.mov (.tmp 2),none,3⟩,
 ⟨(some 37),.bin .sub (.tmp 36) (.cst (.c (.int .i64 1))),none,3⟩,
 ⟨(some 38),.callv (.tmp 28) [(.tmp 33),(.tmp 35),(.tmp 37)],none,3⟩])
 (.cond (.tmp 38)
 (.seq (.region 0 [] [
 ⟨(some 10),.mov (.cst (.c (.bool true))),none,0⟩])
 .ret)
 .skip)))
 (.region 0 [] [
 ⟨(some 26),.mov (.tmp 11),none,0⟩,
 ⟨(some 27),.bin .add (.tmp 26) (.cst (.c (.int .i64 1))),none,0⟩,
 ⟨(some 11),.mov (.tmp 27),none,0⟩]))))))
 (.seq (.region 0 [] [
 ⟨(some 10),.mov (.cst (.c (.bool false))),none,0⟩])
 .ret))))⟩
def f115 : AFunc:=⟨8,[.tmp 2],false,
 (.seq (.region 0 [] [
 ⟨(some 2),.mov (.cst (.c .nils)),none,0⟩])
 (.seq (.seq (.region 0 [] [
 ⟨(some 3),.mov (.tmp 0),none,0⟩,
 ⟨(some 4),.isnil false (.tmp 3),none,0⟩])
 (.cond (.tmp 4)
 (.seq (.region 0 [] [
 ⟨(some 2),.mov (.cst (.c .nils)),none,0⟩])
 .ret)
 .skip))
 (.seq (.region 2 [] [
 ⟨(some 5),.bslice 1 0 [(.int .i64 0)] [],none,0⟩,
 ⟨(some 6),.mov (.tmp 0),none,1⟩,
 ⟨(some 7),.append 1 8 (.tmp 5) (.tmp 6),none,1⟩,
 ⟨(some 2),.mov (.tmp 7),none,2⟩])
 .ret)))⟩
def f116 : AFunc:=⟨67,[.cell 4 (some 3)],false,
 (.seq (.region 2 [] [
 ⟨(some 2),.box (.tmp 0),none,0⟩,
 ⟨(some 4),.alloc [(.int .i64 0),(.int .i64 0),.nils],none,1⟩])
 (.seq (.region 1 [] [
 ⟨(some 5),.alloc [(.int .i64 0),(.int .i64 0),.nils],none,0⟩])
 (.seq (.region 0 [(0,3),(1,3),(2,3),(0,4),(1,4),(2,4),(3,4),(0,5),(1,5),(2,5),(3,5),(0,6),(1,6),(2,6),(3,6),(0,7),(1,7),(2,7),(0,9),(1,9),(2,9),(3,9),(4,9),(5,9),(6,9),(7,9),(8,9),(0,10),(1,10),(2,10),(3,10),(4,10),(5,10),(6,10),(7,10),(8,10),(9,10),(0,11),(1,11),(2,11),(3,11),(4,11),(5,11),(6,11),(7,11),(8,11),(9,11),(0,12),(1,12),(2,12),(3,12),(7,12),(8,12),(9,12),(0,13),(1,13),(2,13),(3,13),(7,13),(8,13),(9,14),(10,14),(11,14),(12,14),(13,14),(9,15),(13,15)] [
 ⟨(some 8),.faddr 2 (.tmp 2),none,0⟩,
 ⟨(some 9),.faddr 0 (.tmp 8),none,0⟩,
 ⟨(some 10),.load none (.tmp 9),none,0⟩,
 ⟨(some 11),.mov (.tmp 1),none,0⟩,
 ⟨(some 12),.faddr 2 (.tmp 2),none,0⟩,
 ⟨(some 13),.load (some 2) (.tmp 12),none,0⟩,
 ⟨(some 14),.call 121 true [(.tmp 13)],none,0⟩,
 ⟨(some 15),.bin .rem (.tmp 11) (.tmp 14),none,0⟩,
 ⟨(some 16),.bin .add (.tmp 10) (.tmp 15),none,0⟩,
 ⟨(some 17),.mov (.tmp 1),none,0⟩,
 ⟨(some 18),.faddr 2 (.tmp 2),none,0⟩,
 ⟨(some 19),.load (some 2) (.tmp 18),none,0⟩,
 ⟨(some 20),.call 121 true [(.tmp 19)],none,0⟩,
 ⟨(some 21),.bin .quo (.tmp 17) (.tmp 20),none,0⟩,
 ⟨(some 22),.faddr 0 (.tmp 5),none,0⟩,
 ⟨none,.store none (.tmp 22) (.tmp 16),none,0⟩,
 ⟨(some 1),.mov (.tmp 21),none,0⟩])
 (.seq (.region 0 [(0,3),(1,3),(2,3),(0,4),(1,4),(2,4),(3,4),(0,5),(1,5),(2,5),(3,5),(0,6),(1,6),(2,6),(3,6),(0,7),(1,7),(2,7),(0,9),(1,9),(2,9),(3,9),(4,9),(5,9),(6,9),(7,9),(8,9),(0,10),(1,10),(2,10),(3,10),(4,10),(5,10),(6,10),(7,10),(8,10),(9,10),(0,11),(1,11),(2,11),(3,11),(4,11),(5,11),(6,11),(7,11),(8,11),(9,11),(0,12),(1,12),(2,12),(3,12),(7,12),(8,12),(9,12),(0,13),(1,13),(2,13),(3,13),(7,13),(8,13),(9,14),(10,14),(11,14),(12,14),(13,14),(9,15),(13,15)] [
 ⟨(some 23),.faddr 4 (.tmp 2),none,0⟩,
 ⟨(some 24),.faddr 0 (.tmp 23),none,0⟩,
 ⟨(some 25),.load none (.tmp 24),none,0⟩,
 ⟨(some 26),.mov (.tmp 1),none,0⟩,
 ⟨(some 27),.faddr 4 (.tmp 2),none,0⟩,
 ⟨(some 28),.load (some 2) (.tmp 27),none,0⟩,
 ⟨(some 29),.call 121 true [(.tmp 28)],none,0⟩,
 ⟨(some 30),.bin .rem (.tmp 26) (.tmp 29),none,0⟩,
 ⟨(some 31),.bin .add (.tmp 25) (.tmp 30),none,0⟩,
 ⟨(some 32),.mov (.tmp 1),none,0⟩,
 ⟨(some 33),.faddr 4 (.tmp 2),none,0⟩,
 ⟨(some 34),.load (some 2) (.tmp 33),none,0⟩,
 ⟨(some 35),.call 121 true [(.tmp 34)],none,0⟩,
 ⟨(some 36),.bin .quo (.tmp 32) (.tmp 35),none,0⟩,
 ⟨(some 37),.faddr 1 (.tmp 5),none,0⟩,
 ⟨none,.store none (.tmp 37) (.tmp 31),none,0⟩,
 ⟨(some 1),.mov (.tmp 36),none,0⟩])
 (.seq (.seq (.region 0 [] [
 ⟨(some 6),.mov (.cst (.c (.int .i64 0))),none,0⟩])
 (.block 0 (.loop ⟨[7,38,39,40,41,42,43,44,45,46,47,48,49,50,51,52,53,54,55,56,57,58,59,60,61,62,63,64,65],true,[(5,(some 2),1)]⟩
 (.seq (.seq (.region 0 [] [
 ⟨(some 38),.mov (.tmp 6),none,0⟩,
 ⟨(some 39),.faddr 8 (.tmp 2),none,0⟩,
 ⟨(some 40),.load none (.tmp 39),none,0⟩,
 ⟨(some 41),.len (.tmp 40),none,0⟩,
 ⟨(some 42),.bin .lss (.tmp 38) (.tmp 41),none,0⟩])
 (.cond (.tmp 42)
 .skip
 (.exit 0)))
 (.seq (.block 1 (.seq (.region 1 [] [
 ⟨(some 45),.faddr 8 (.tmp 2),none,0⟩,
 ⟨(some 46),.load none (.tmp 45),none,0⟩,
 ⟨(some 47),.mov (.tmp 6),none,0⟩,
 ⟨(some 48),.iaddr 2 (.tmp 46) (.tmp 47),none,0⟩,
 ⟨(some 49),.load (some 2) (.tmp 48),none,0⟩,
 ⟨(some 7),.alloc [(.int .i64 0),(.int .i64 0)],none,0⟩,
 ⟨none,.store (some 2) (.tmp 7) (.tmp 49),none,1⟩])
 (.region 2 [(0,2),(1,2),(0,3),(1,3),(0,4),(1,4),(2,4),(3,4),(0,5),(1,5),(2,5),(3,5),(4,5),(0,6),(1,6),(2,6),(3,6),(4,6),(0,7),(1,7),(2,7),(3,7),(0,8),(1,8),(0,9),(1,9),(0,11),(1,11),(2,11),(3,11),(4,11),(5,11),(6,11),(7,11),(8,11),(9,11),(10,11),(0,12),(1,12),(2,12),(3,12),(4,12),(5,12),(6,12),(7,12),(8,12),(9,12),(10,12),(11,12),(11,13),(11,15),(12,15),(13,15),(14,15),(11,16),(14,16)] [
 ⟨(some 50),.faddr 2 (.tmp 5),none,0⟩,
 ⟨(some 51),.load none (.tmp 50),none,0⟩,
 ⟨(some 52),.faddr 0 (.tmp 7),none,0⟩,
 ⟨(some 53),.load none (.tmp 52),none,0⟩,
 ⟨(some 54),.mov (.tmp 1),none,0⟩,
 ⟨(some 55),.load (some 2) (.tmp 7),none,0⟩,
 ⟨(some 56),.call 121 true [(.tmp 55)],none,0⟩,
 ⟨(some 57),.bin .rem (.tmp 54) (.tmp 56),none,0⟩,
 ⟨(some 58),.bin .add (.tmp 53) (.tmp 57),none,0⟩,
 ⟨(some 59),.bslice 1 1 [(.int .i64 0)] [(0,(.tmp 58))],none,0⟩,
 ⟨(some 60),.append 1 8 (.tmp 51) (.tmp 59),none,1⟩,
 ⟨(some 61),.mov (.tmp 1),none,2⟩,
 ⟨(some 62),.load (some 2) (.tmp 7),none,2⟩,
 ⟨(some 63),.call 121 true [(.tmp 62)],none,2⟩,
 ⟨(some 64),.bin .quo (.tmp 61) (.tmp 63),none,2⟩,
 ⟨(some 65),.faddr 2 (.tmp 5),none,2⟩,
 ⟨none,.store none (.tmp 65) (.tmp 60),none,2⟩,
 ⟨(some 1),.mov (.tmp 64),none,2⟩])))
 (.region 0 [] [
 ⟨(some 43),.mov (.tmp 6),none,0⟩,
 ⟨(some 44),.bin .add (.tmp 43) (.cst (.c (.int .i64 1))),none,0⟩,
 ⟨(some 6),.mov (.tmp 44),none,0⟩]))))))
 (.seq (.region 0 [] [
 ⟨(some 66),.load (some 3) (.tmp 5),none,0⟩,
 ⟨none,.store (some 3) (.tmp 4) (.tmp 66),none,0⟩])
 .ret))))))⟩
def f118 : AFunc:=⟨16,[.tmp 4],false,
 (.seq (.region 0 [] [
 ⟨(some 4),.mov (.cst (.c (.int .i64 0))),none,0⟩])
 (.seq (.seq (.region 0 [] [
 ⟨(some 5),.mov (.tmp 0),none,0⟩,
 ⟨(some 6),.len (.tmp 5),none,0⟩,
 ⟨(some 7),.bin .eql (.tmp 6) (.cst (.c (.int .i64 0))),none,0⟩])
 (.cond (.tmp 7)
 (.seq (.region 0 [] [
 ⟨(some 4),.mov (.cst (.c (.int .i64 0))),none,0⟩])
 .ret)
 .skip))
 (.seq (.region 0 [] [
 ⟨(some 8),.mov (.tmp 0),none,0⟩,
 ⟨(some 9),.mov (.tmp 1),none,0⟩,
 ⟨(some 10),.mov (.tmp 0),none,0⟩,
 ⟨(some 11),.len (.tmp 10),none,0⟩,
 ⟨(some 12),.bin .rem (.tmp 9) (.tmp 11),none,0⟩,
 ⟨(some 13),.iaddr 1 (.tmp 8) (.tmp 12),none,0⟩,
 ⟨(some 14),.load none (.tmp 13),none,0⟩,
 ⟨(some 15),.conv .i64 (.tmp 14),none,0⟩,
 ⟨(some 4),.mov (.tmp 15),none,0⟩])
 .ret)))⟩
def f120 : AFunc:=⟨24,[.tmp 6],false,
 (.seq (.region 1 [] [
 ⟨(some 3),.box (.tmp 0),none,0⟩,
 ⟨(some 6),.mov (.cst (.c (.bool false))),none,1⟩])
 (.seq (.region 0 [] [
 ⟨(some 7),.faddr 0 (.tmp 3),none,0⟩,
 ⟨(some 8),.load none (.tmp 7),none,0⟩,
 ⟨(some 9),.mov (.tmp 1),none,0⟩,
 ⟨(some 10),.bin .geq (.tmp 8) (.tmp 9),none,0⟩,
 ⟨(some 11),.mov (.tmp 10),none,0⟩,
 ⟨(some 12),.faddr 0 (.tmp 3),some (11,true),0⟩,
 ⟨(some 13),.load none (.tmp 12),some (11,true),0⟩,
 ⟨(some 14),.faddr 1 (.tmp 3),some (11,true),0⟩,
 ⟨(some 15),.load none (.tmp 14),some (11,true),0⟩,
 ⟨(some 16),.bin .leq (.tmp 13) (.tmp 15),some (11,true),0⟩,
 ⟨(some 17),.pick (.tmp 11) (.tmp 16) (.cst (.c (.bool false))),none,0⟩,
 ⟨(some 18),.mov (.tmp 17),none,0⟩,
 ⟨(some 19),.faddr 1 (.tmp 3),some (18,true),0⟩,
 ⟨(some 20),.load none (.tmp 19),some (18,true),0⟩,
 ⟨(some 21),.mov (.tmp 2),some (18,true),0⟩,
 ⟨(some 22),.bin .leq (.tmp 20) (.tmp 21),some (18,true),0⟩,
 ⟨(some 23),.pick (.tmp 18) (.tmp 22) (.cst (.c (.bool false))),none,0⟩,
 ⟨(some 6),.mov (.tmp 23),none,0⟩])
 .ret))⟩
def f121 : AFunc:=⟨9,[.tmp 2],false,
 (.seq (.region 1 [] [
 ⟨(some 1),.box (.tmp 0),none,0⟩,
 ⟨(some 2),.mov (.cst (.c (.int .i64 0))),none,1⟩])
 (.seq (.region 0 [] [
 ⟨(some 3),.faddr 1 (.tmp 1),none,0⟩,
 ⟨(some 4),.load none (.tmp 3),none,0⟩,
 ⟨(some 5),.faddr 0 (.tmp 1),none,0⟩,
 ⟨(some 6),.load none (.tmp 5),none,0⟩,
 ⟨(some 7),.bin .sub (.tmp 4) (.tmp 6),none,0⟩,
 ⟨(some 8),.bin .add (.tmp 7) (.cst (.c (.int .i64 1))),none,0⟩,
 ⟨(some 2),.mov (.tmp 8),none,0⟩])
 .ret))⟩
def f122 : AFunc:=⟨5,[.tmp 2],false,
 (.seq (.region 0 [] [
 ⟨(some 2),.mov (.cst (.c .nils)),none,0⟩])
 (.seq (.region 0 [] [
 ⟨(some 3),.mov (.tmp 0),none,0⟩,
 ⟨(some 4),.call 142 false [(.cst (.c .nils)),(.tmp 3)],none,0⟩,
 ⟨(some 2),.mov (.tmp 4),none,0⟩])
 .ret))⟩
def f123 : AFunc:=⟨6,[.tmp 4],false,
 (.seq (.region 2 [] [
 ⟨(some 2),.box (.tmp 0),none,0⟩,
 ⟨(some 3),.box (.tmp 1),none,1⟩,
 ⟨(some 4),.mov (.cst (.c .nilfn)),none,2⟩])
 (.seq (.region 0 [] [
 ⟨(some 5),.mkfn 143 none [(.tmp 3),(.tmp 2)],none,0⟩,
 ⟨(some 4),.mov (.tmp 5),none,0⟩])
 .ret))⟩
def f124 : AFunc:=⟨9,[.tmp 4],false,
 (.seq (.region 0 [] [
 ⟨(some 4),.mov (.cst (.c (.bool false))),none,0⟩])
 (.seq (.region 0 [] [
 ⟨(some 5),.mov (.tmp 0),none,0⟩,
 ⟨(some 6),.mov (.tmp 1),none,0⟩,
 ⟨(some 7),.call 144 false [(.tmp 5),(.tmp 6)],none,0⟩,
 ⟨(some 8),.bin .geq (.tmp 7) (.cst (.c (.int .i64 0))),none,0⟩,
 ⟨(some 4),.mov (.tmp 8),none,0⟩])
 .ret))⟩
def f125 : AFunc:=⟨8,[.tmp 3],false,
 (.seq (.region 1 [] [
 ⟨(some 2),.box (.tmp 0),none,0⟩,
 ⟨(some 3),.mov (.cst (.c (.bool false))),none,1⟩])
 (.seq (.region 0 [] [
 ⟨(some 4),.load none (.tmp 1),none,0⟩,
 ⟨(some 5),.load (some 4) (.tmp 2),none,0⟩,
 ⟨(some 6),.callv (.tmp 4) [(.tmp 5)],none,0⟩,
 ⟨(some 7),.not (.tmp 6),none,0⟩,
 ⟨(some 3),.mov (.tmp 7),none,0⟩])
 .ret))⟩
def f126 : AFunc:=⟨24,[.tmp 6],false,
 (.seq (.region 1 [] [
 ⟨(some 3),.box (.tmp 0),none,0⟩,
 ⟨(some 6),.mov (.cst (.c (.bool false))),none,1⟩])
 (.seq (.region 0 [] [
 ⟨(some 7),.mov (.tmp 1),none,0⟩,
 ⟨(some 8),.faddr 0 (.tmp 3),none,0⟩,
 ⟨(some 9),.load none (.tmp 8),none,0⟩,
 ⟨(some 10),.bin .leq (.tmp 7) (.tmp 9),none,0⟩,
 ⟨(some 11),.mov (.tmp 10),none,0⟩,
 ⟨(some 12),.faddr 0 (.tmp 3),some (11,true),0⟩,
 ⟨(some 13),.load none (.tmp 12),some (11,true),0⟩,
 ⟨(some 14),.faddr 1 (.tmp 3),some (11,true),0⟩,
 ⟨(some 15),.load none (.tmp 14),some (11,true),0⟩,
 ⟨(some 16),.bin .leq (.tmp 13) (.tmp 15),some (11,true),0⟩,
 ⟨(some 17),.pick (.tmp 11) (.tmp 16) (.cst (.c (.bool false))),none,0⟩,
 ⟨(some 18),.mov (.tmp 17),none,0⟩,
 ⟨(some 19),.faddr 1 (.tmp 3),some (18,true),0⟩,
 ⟨(some 20),.load none (.tmp 19),some (18,true),0⟩,
 ⟨(some 21),.mov (.tmp 2),some (18,true),0⟩,
 ⟨(some 22),.bin .leq (.tmp 20) (.tmp 21),some (18,true),0⟩,
 ⟨(some 23),.pick (.tmp 18) (.tmp 22) (.cst (.c (.bool false))),none,0⟩,
 ⟨(some 6),.mov (.tmp 23),none,0⟩])
 .ret))⟩
def f127 : AFunc:=⟨9,[.tmp 4],false,
 (.seq (.region 0 [] [
 ⟨(some 4),.mov (.cst (.c (.bool false))),none,0⟩])
 (.seq (.region 0 [] [
 ⟨(some 5),.mov (.tmp 0),none,0⟩,
 ⟨(some 6),.mov (.tmp 1),none,0⟩,
 ⟨(some 7),.call 145 false [(.tmp 5),(.tmp 6)],none,0⟩,
 ⟨(some 8),.bin .geq (.tmp 7) (.cst (.c (.int .i64 0))),none,0⟩,
 ⟨(some 4),.mov (.tmp 8),none,0⟩])
 .ret))⟩
def f128 : AFunc:=⟨8,[.tmp 3],true,
 (.seq (.region 1 [] [
 ⟨(some 2),.box (.tmp 0),none,0⟩,
 ⟨(some 3),.mov (.cst (.c (.bool false))),none,1⟩])
 (.seq (.region 0 [] [
 ⟨(some 4),.load none (.tmp 1),none,0⟩,
 ⟨(some 5),.load (some 2) (.tmp 2),none,0⟩,
 ⟨(some 6),.callv (.tmp 4) [(.tmp 5)],none,0⟩,
 ⟨(some 7),.not (.tmp 6),none,0⟩,
 ⟨(some 3),.mov (.tmp 7),none,0⟩])
 .ret))⟩
def f129 : AFunc:=⟨9,[.tmp 4],false,
 (.seq (.region 0 [] [
 ⟨(some 4),.mov (.cst (.c (.bool false))),none,0⟩])
 (.seq (.region 0 [] [
 ⟨(some 5),.mov (.tmp 0),none,0⟩,
 ⟨(some 6),.mov (.tmp 1),none,0⟩,
 ⟨(some 7),.call 146 false [(.tmp 5),(.tmp 6)],none,0⟩,
 ⟨(some 8),.bin .geq (.tmp 7) (.cst (.c (.int .i64 0))),none,0⟩,
 ⟨(some 4),.mov (.tmp 8),none,0⟩])
 .ret))⟩
def f130 : AFunc:=⟨8,[.tmp 3],true,
 (.seq (.region 1 [] [
 ⟨(some 2),.box (.tmp 0),none,0⟩,
 ⟨(some 3),.mov (.cst (.c (.bool false))),none,1⟩])
 (.seq (.region 0 [] [
 ⟨(some 4),.load none (.tmp 1),none,0⟩,
 ⟨(some 5),.load (some 3) (.tmp 2),none,0⟩,
 ⟨(some 6),.callv (.tmp 4) [(.tmp 5)],none,0⟩,
 ⟨(some 7),.not (.tmp 6),none,0⟩,
 ⟨(some 3),.mov (.tmp 7),none,0⟩])
 .ret))⟩
def f131 : AFunc:=⟨5,[.tmp 2],false,
 (.seq (.region 0 [] [
 ⟨(some 2),.mov (.cst (.c (.bool false))),none,0⟩])
 (.seq (.region 0 [] [
 ⟨(some 3),.mov (.tmp 0),none,0⟩,
 ⟨(some 4),.call 106 true [(.tmp 3),(.cst (.c (.int .i64 0))),(.cst (.c (.int .i64 9)))],none,0⟩,
 ⟨(some 2),.mov (.tmp 4),none,0⟩])
 .ret))⟩
def f132 : AFunc:=⟨9,[.tmp 4],false,
 (.seq (.region 0 [] [
 ⟨(some 4),.mov (.cst (.c (.bool false))),none,0⟩])
 (.seq (.region 0 [] [
 ⟨(some 5),.mov (.tmp 0),none,0⟩,
 ⟨(some 6),.mov (.tmp 1),none,0⟩,
 ⟨(some 7),.call 147 false [(.tmp 5),(.tmp 6)],none,0⟩,
 ⟨(some 8),.bin .geq (.tmp 7) (.cst (.c (.int .i64 0))),none,0⟩,
 ⟨(some 4),.mov (.tmp 8),none,0⟩])
 .ret))⟩
def f133 : AFunc:=⟨8,[.tmp 3],false,
 (.seq (.region 0 [] [
 ⟨(some 3),.mov (.cst (.c (.bool false))),none,0⟩])
 (.seq (.region 0 [] [
 ⟨(some 4),.load none (.tmp 1),none,0⟩,
 ⟨(some 5),.mov (.tmp 0),none,0⟩,
 ⟨(some 6),.callv (.tmp 4) [(.tmp 5)],none,0⟩,
 ⟨(some 7),.not (.tmp 6),none,0⟩,
 ⟨(some 3),.mov (.tmp 7),none,0⟩])
 .ret))⟩
def f134 : AFunc:=⟨25,[.tmp 2],false,
 (.seq (.region 0 [] [
 ⟨(some 2),.mov (.cst (.c (.int .i64 0))),none,0⟩])
 (.seq (.seq (.region 0 [] [
 ⟨(some 5),.mov (.tmp 0),none,0⟩,
 ⟨(some 6),.len (.tmp 5),none,0⟩,
 ⟨(some 7),.bin .lss (.tmp 6) (.cst (.c (.int .i64 1))),none,0⟩])
 (.cond (.tmp 7)
 (.region 0 [] [
 ⟨(some 8),.pick (.cst (.c .any)) (.cst (.c .any)) (.cst (.c .any)),none,0⟩,
 ⟨none,.pick (.cst (.c .any)) (.cst (.c .any)) (.cst (.c .any)),none,0⟩])
 .skip))
 (.seq (.region 0 [] [
 ⟨(some 9),.mov (.tmp 0),none,0⟩,
 ⟨(some 10),.iaddr 1 (.tmp 9) (.cst (.c (.int .i64 0))),none,0⟩,
 ⟨(some 11),.load none (.tmp 10),none,0⟩,
 ⟨(some 3),.mov (.tmp 11),none,0⟩])
 (.seq (.seq (.region 0 [] [
 ⟨(some 4),.mov (.cst (.c (.int .i64 1))),none,0⟩])
 (.block 0 (.loop ⟨[12,13,14,15,16,17,18,19,20,21,22,23],false,[]⟩
 (.seq (.seq (.region 0 [] [
 ⟨(some 12),.mov (.tmp 4),none,0⟩,
 ⟨(some 13),.mov (.tmp 0),none,0⟩,
 ⟨(some 14),.len (.tmp 13),none,0⟩,
 ⟨(some 15),.bin .lss (.tmp 12) (.tmp 14),none,0⟩])
 (.cond (.tmp 15)
 .skip
 (.exit 0)))
 (.seq (.block 1 (.region 0 [] [
 ⟨(some 18),.mov (.tmp 3),none,0⟩,
 ⟨(some 19),.mov (.tmp 0),none,0⟩,
 ⟨(some 20),.mov (.tmp 4),none,0⟩,
 ⟨(some 21),.iaddr 1 (.tmp 19) (.tmp 20),none,0⟩,
 ⟨(some 22),.load none (.tmp 21),none,0⟩,
 ⟨(some 23),.mm false (.tmp 18) (.tmp 22),none,0⟩,
 ⟨(some 3),.mov (.tmp 23),none,0⟩]))
 (.region 0 [] [
 ⟨(some 16),.mov (.tmp 4),none,0⟩,
 ⟨(some 17),.bin .add (.tmp 16) (.cst (.c (.int .i64 1))),none,0⟩,
 ⟨(some 4),.mov (.tmp 17),none,0⟩]))))))
 (.seq (.region 0 [] [
 ⟨(some 24),.mov (.tmp 3),none,0⟩,
 ⟨(some 2),.mov (.tmp 24),none,0⟩])
 .ret)))))⟩
def f135 : AFunc:=⟨44,[.tmp 4,.cell 5 (some 2)],false,
 (.seq (.region 2 [] [
 ⟨(some 3),.box (.tmp 1),none,0⟩,
 ⟨(some 4),.mov (.cst (.c (.int .i64 0))),none,1⟩,
 ⟨(some 5),.alloc [(.int .i64 0),(.bool false)],none,1⟩])
 (.seq (.region 0 [(0,4),(1,4),(2,4),(3,4),(7,8),(8,9)] [
 ⟨(some 9),.mov (.tmp 0),none,0⟩,
 ⟨(some 10),.nilchk (.tmp 9),none,0⟩,
 ⟨(some 11),.faddr 12 (.tmp 10),none,0⟩,
 ⟨(some 12),.load none (.tmp 11),none,0⟩,
 ⟨(some 13),.load (some 2) (.tmp 3),none,0⟩,
 ⟨(some 14),.lookup true false [(some .i64),none] (.c (.int .i64 0)) true (.tmp 12) (.tmp 13),none,0⟩,
 ⟨(some 8),.mov (.tmp 14),none,0⟩,
 ⟨(some 15),.extract 0 (.tmp 8),none,0⟩,
 ⟨(some 16),.extract 1 (.tmp 8),none,0⟩,
 ⟨(some 4),.mov (.tmp 15),none,0⟩,
 ⟨(some 6),.mov (.tmp 16),none,0⟩])
 (.seq (.seq (.region 0 [] [
 ⟨(some 17),.mov (.tmp 6),none,0⟩,
 ⟨(some 18),.not (.tmp 17),none,0⟩])
 (.cond (.tmp 18)
 (.seq (.region 0 [] [
 ⟨(some 7),.mov (.cst (.c (.int .i64 20))),none,0⟩])
 (.seq (.seq (.region 0 [] [
 ⟨(some 19),.faddr 1 (.tmp 3),none,0⟩,
 ⟨(some 20),.load none (.tmp 19),none,0⟩])
 (.cond (.tmp 20)
 (.region 0 [] [
 ⟨(some 7),.mov (.cst (.c (.int .i64 10))),none,0⟩])
 .skip))
 (.seq (.region 0 [] [
 ⟨(some 21),.faddr 0 (.tmp 3),none,0⟩,
 ⟨(some 22),.load none (.tmp 21),none,0⟩,
 ⟨(some 23),.mov (.tmp 7),none,0⟩,
 ⟨(some 24),.bin .quo (.tmp 22) (.tmp 23),none,0⟩,
 ⟨(some 4),.mov (.tmp 24),none,0⟩])
 (.region 0 [(0,4),(1,4),(2,4),(3,4),(0,5),(1,5),(2,5),(3,5),(4,5)] [
 ⟨(some 25),.mov (.tmp 0),none,0⟩,
 ⟨(some 26),.nilchk (.tmp 25),none,0⟩,
 ⟨(some 27),.faddr 12 (.tmp 26),none,0⟩,
 ⟨(some 28),.load none (.tmp 27),none,0⟩,
 ⟨(some 29),.load (some 2) (.tmp 3),none,0⟩,
 ⟨(some 30),.mov (.tmp 4),none,0⟩,
 ⟨none,.mapupd true false [(some .i64),none] (.tmp 28) (.tmp 29) (.tmp 30),none,0⟩]))))
 .skip))
 (.seq (.region 0 [(0,1),(0,2),(0,3),(1,3),(2,3),(0,4),(1,4),(2,4),(0,5),(1,5),(2,5),(0,6),(1,6),(2,6),(0,7),(1,7),(2,7),(0,8),(0,9),(0,10),(1,10),(2,10),(3,10),(4,10),(5,10),(6,10),(7,10),(8,10),(9,10),(0,11),(1,11),(2,11),(3,11),(4,11),(5,11),(6,11),(7,11),(8,11),(9,11),(0,12),(1,13),(2,13),(3,13),(4,13),(5,13),(6,13),(7,13),(8,13),(9,13),(10,13),(11,13),(12,13)] [
 ⟨(some 31),.mov (.tmp 4),none,0⟩,
 ⟨(some 32),.faddr 0 (.tmp 3),none,0⟩,
 ⟨(some 33),.load none (.tmp 32),none,0⟩,
 ⟨(some 34),.mov (.tmp 0),none,0⟩,
 ⟨(some 35),.nilchk (.tmp 34),none,0⟩,
 ⟨(some 36),.faddr 0 (.tmp 35),none,0⟩,
 ⟨(some 37),.faddr 7 (.tmp 36),none,0⟩,
 ⟨(some 38),.load none (.tmp 37),none,0⟩,
 ⟨(some 39),.bin .sub (.tmp 33) (.tmp 38),none,0⟩,
 ⟨(some 40),.mm true (.cst (.c (.int .i64 0))) (.tmp 39),none,0⟩,
 ⟨(some 41),.faddr 1 (.tmp 3),none,0⟩,
 ⟨(some 42),.load none (.tmp 41),none,0⟩,
 ⟨(some 43),.build [(.int .i64 0),(.bool false)] [(0,1,(.tmp 40)),(1,1,(.tmp 42))],none,0⟩,
 ⟨(some 4),.mov (.tmp 31),none,0⟩,
 ⟨none,.store (some 2) (.tmp 5) (.tmp 43),none,0⟩])
 .ret))))⟩
def f136 : AFunc:=⟨15,[.cell 4 (some 2)],false,
 (.seq (.region 2 [] [
 ⟨(some 2),.box (.tmp 0),none,0⟩,
 ⟨(some 4),.alloc [(.int .i64 0),(.int .i64 0)],none,1⟩])
 (.seq (.region 1 [(0,2),(1,2),(0,5),(1,5),(2,5),(3,5),(4,5),(0,6),(1,6),(2,6),(3,6),(4,6),(0,7),(1,7),(2,7),(3,7),(4,7),(5,7),(6,7),(0,8),(1,8),(2,8),(3,8),(4,8)] [
 ⟨(some 5),.faddr 0 (.tmp 2),none,0⟩,
 ⟨(some 6),.load none (.tmp 5),none,0⟩,
 ⟨(some 7),.mov (.tmp 1),none,0⟩,
 ⟨(some 8),.bslice 1 2 [(.int .i64 0)] [(0,(.tmp 6)),(1,(.tmp 7))],none,0⟩,
 ⟨(some 9),.call 87 true [(.tmp 8)],none,1⟩,
 ⟨(some 10),.faddr 1 (.tmp 2),none,1⟩,
 ⟨(some 11),.load none (.tmp 10),none,1⟩,
 ⟨(some 12),.mov (.tmp 1),none,1⟩,
 ⟨(some 13),.mm true (.tmp 11) (.tmp 12),none,1⟩,
 ⟨(some 14),.build [(.int .i64 0),(.int .i64 0)] [(0,1,(.tmp 9)),(1,1,(.tmp 13))],none,1⟩,
 ⟨none,.store (some 2) (.tmp 4) (.tmp 14),none,1⟩])
 .ret))⟩
def f137 : AFunc:=⟨12,[.tmp 4],false,
 (.seq (.region 0 [] [
 ⟨(some 4),.mov (.cst (.c (.int .i64 0))),none,0⟩])
 (.seq (.region 0 [(0,2),(1,2),(0,3),(1,3),(2,3),(0,4),(1,4),(0,5),(1,5)] [
 ⟨(some 5),.faddr 0 (.tmp 1),none,0⟩,
 ⟨(some 6),.load none (.tmp 5),none,0⟩,
 ⟨(some 7),.mov (.tmp 0),none,0⟩,
 ⟨(some 8),.load none (.tmp 2),none,0⟩,
 ⟨(some 9),.iaddr 2 (.tmp 7) (.tmp 8),none,0⟩,
 ⟨(some 10),.load (some 2) (.tmp 9),none,0⟩,
 ⟨(some 11),.callv (.tmp 6) [(.tmp 10)],none,0⟩,
 ⟨(some 4),.mov (.tmp 11),none,0⟩])
 .ret))⟩
def f138 : AFunc:=⟨60,[],false,
 (.seq (.region 1 [] [
 ⟨(some 3),.box (.tmp 0),none,0⟩])
 (.seq (.region 0 [] [
 ⟨(some 10),.load none (.tmp 1),none,0⟩,
 ⟨(some 11),.nilchk (.tmp 10),none,0⟩,
 ⟨(some 12),.faddr 0 (.tmp 11),none,0⟩,
 ⟨(some 13),.load (some 12) (.tmp 12),none,0⟩,
 ⟨(some 14),.call 86 true [(.tmp 13)],none,0⟩,
 ⟨(some 15),.call 139 false [(.tmp 14)],none,0⟩])
 (.block 0 (.range (.tmp 15) [16]
 (.region 0 [] [
 ⟨(some 4),.mov (.tmp 16),none,0⟩])
 (.block 1 (.seq (.region 1 [(0,3),(1,3),(2,3),(0,4),(1,4),(2,4),(0,5),(1,5),(2,5),(0,6),(1,6),(2,6),(3,6),(4,6),(5,6),(0,7),(1,7),(2,7),(3,7),(4,7),(5,7),(0,9),(1,9),(2,9),(3,9),(4,9),(5,9),(6,9),(7,9),(8,9)] [
 ⟨(some 17),.mov (.tmp 4),none,0⟩,
 ⟨(some 18),.iaddr 1 (.tmp 17) (.cst (.c (.int .i64 0))),none,0⟩,
 ⟨(some 19),.load none (.tmp 18),none,0⟩,
 ⟨(some 20),.mov (.tmp 4),none,0⟩,
 ⟨(some 21),.iaddr 1 (.tmp 20) (.cst (.c (.int .i64 1))),none,0⟩,
 ⟨(some 22),.load none (.tmp 21),none,0⟩,
 ⟨(some 23),.mov (.tmp 4),none,0⟩,
 ⟨(some 24),.slice 1 (.tmp 23) (some (.cst (.c (.int .i64 2)))) none,none,0⟩,
 ⟨(some 25),.build [(.int .i64 0),(.int .i64 0),.nils] [(0,1,(.tmp 19)),(1,1,(.tmp 22)),(2,1,(.tmp 24))],none,0⟩,
 ⟨(some 5),.alloc [(.int .i64 0),(.int .i64 0),.nils],none,0⟩,
 ⟨none,.store (some 3) (.tmp 5) (.tmp 25),none,1⟩])
 (.seq (.region 0 [] [
 ⟨(some 26),.load none (.tmp 1),none,0⟩,
 ⟨(some 27),.load (some 3) (.tmp 5),none,0⟩,
 ⟨(some 28),.call 73 false [(.tmp 26),(.tmp 27)],none,0⟩,
 ⟨(some 6),.mov (.tmp 28),none,0⟩])
 (.seq (.region 0 [] [
 ⟨(some 7),.mov (.cst (.c (.bool true))),none,0⟩])
 (.seq (.seq (.region 0 [] [
 ⟨(some 29),.load none (.tmp 1),none,0⟩,
 ⟨(some 30),.nilchk (.tmp 29),none,0⟩,
 ⟨(some 31),.faddr 0 (.tmp 30),none,0⟩,
 ⟨(some 32),.faddr 11 (.tmp 31),none,0⟩,
 ⟨(some 33),.load none (.tmp 32),none,0⟩,
 ⟨(some 34),.len (.tmp 33),none,0⟩,
 ⟨(some 35),.mov (.cst (.c (.int .i64 0))),none,0⟩])
 (.block 2 (.loop ⟨[8,9,36,37,38,39,40,41,42,43,44,45,46,47,48,49,50,51],false,[]⟩
 (.seq (.region 0 [] [
 ⟨(some 36),.bin .lss (.tmp 35) (.tmp 34),none,0⟩])
 (.seq (.cond (.tmp 36)
 .skip
 (.exit 2))
 (.seq (.block 3 (.seq (.region 1 [] [
 ⟨(some 37),.mov (.tmp 35),none,0⟩,
 ⟨(some 38),.iaddr 4 (.tmp 33) (.tmp 35),none,0⟩,
 ⟨(some 39),.load (some 4) (.tmp 38),none,0⟩,
 ⟨(some 9),.alloc [(.int .i64 0),(.bool false),(.int .i64 0),(.int .i64 0)],none,0⟩,
 ⟨(some 8),.mov (.tmp 37),none,1⟩,
 ⟨none,.store (some 4) (.tmp 9) (.tmp 39),none,1⟩])
 (.region 0 [] [
 ⟨(some 40),.mov (.tmp 7),none,0⟩,
 ⟨(some 41),.mov (.tmp 40),none,0⟩,
 ⟨(some 42),.load none (.tmp 2),some (41,true),0⟩,
 ⟨(some 43),.mov (.tmp 8),some (41,true),0⟩,
 ⟨(some 44),.call 140 true [(.tmp 42),(.tmp 43)],some (41,true),0⟩,
 ⟨(some 45),.mov (.tmp 44),some (41,true),0⟩,
 ⟨(some 46),.load (some 4) (.tmp 9),some (45,false),0⟩,
 ⟨(some 47),.mov (.tmp 6),some (45,false),0⟩,
 ⟨(some 48),.call 76 true [(.tmp 46),(.tmp 47)],some (45,false),0⟩,
 ⟨(some 49),.pick (.tmp 45) (.cst (.c (.bool true))) (.tmp 48),some (41,true),0⟩,
 ⟨(some 50),.pick (.tmp 41) (.tmp 49) (.cst (.c (.bool false))),none,0⟩,
 ⟨(some 7),.mov (.tmp 50),none,0⟩])))
 (.region 0 [] [
 ⟨(some 51),.bin .add (.tmp 35) (.cst (.c (.int .i64 1))),none,0⟩,
 ⟨(some 35),.mov (.tmp 51),none,0⟩])))))))
 (.seq (.region 0 [] [
 ⟨(some 52),.mov (.tmp 7),none,0⟩,
 ⟨(some 53),.mov (.tmp 52),none,0⟩,
 ⟨(some 54),.load none (.tmp 3),some (53,true),0⟩,
 ⟨(some 55),.load (some 3) (.tmp 5),some (53,true),0⟩,
 ⟨(some 56),.mov (.tmp 6),some (53,true),0⟩,
 ⟨(some 57),.callv (.tmp 54) [(.tmp 55),(.tmp 56)],some (53,true),0⟩,
 ⟨(some 58),.not (.tmp 57),some (53,true),0⟩,
 ⟨(some 59),.pick (.tmp 53) (.tmp 58) (.cst (.c (.bool false))),none,0⟩])
 (.cond (.tmp 59)
 .ret
 .skip)))))))))))⟩
def f139 : AFunc:=⟨4,[.tmp 2],false,
 (.seq (.region 1 [] [
 ⟨(some 1),.box (.tmp 0),none,0⟩,
 ⟨(some 2),.mov (.cst (.c .nilfn)),none,1⟩])
 (.seq (.region 0 [] [
 ⟨(some 3),.mkfn 148 none [(.tmp 1)],none,0⟩,
 ⟨(some 2),.mov (.tmp 3),none,0⟩])
 .ret))⟩
def f140 : AFunc:=⟨9,[.tmp 4],false,
 (.seq (.region 0 [] [
 ⟨(some 4),.mov (.cst (.c (.bool false))),none,0⟩])
 (.seq (.region 0 [] [
 ⟨(some 5),.mov (.tmp 0),none,0⟩,
 ⟨(some 6),.mov (.tmp 1),none,0⟩,
 ⟨(some 7),.call 150 true [(.tmp 5),(.tmp 6)],none,0⟩,
 ⟨(some 8),.bin .geq (.tmp 7) (.cst (.c (.int .i64 0))),none,0⟩,
 ⟨(some 4),.mov (.tmp 8),none,0⟩])
 .ret))⟩
def f141 : AFunc:=⟨26,[.cell 4 (some 8)],false,
 (.seq (.region 3 [] [
 ⟨(some 2),.box (.tmp 0),none,0⟩,
 ⟨(some 3),.box (.tmp 1),none,1⟩,
 ⟨(some 4),.alloc [(.int .i64 0),(.int .i64 0),(.int .i64 0),(.int .i64 0),(.int .i64 0),(.int .i64 0),(.int .i64 0),(.int .i64 0)],none,2⟩])
 (.seq (.region 0 [] [
 ⟨(some 7),.faddr 0 (.tmp 3),none,0⟩,
 ⟨(some 8),.load none (.tmp 7),none,0⟩,
 ⟨(some 5),.mov (.tmp 8),none,0⟩])
 (.seq (.seq (.region 0 [] [
 ⟨(some 9),.load (some 12) (.tmp 2),none,0⟩,
 ⟨(some 10),.call 79 true [(.tmp 9)],none,0⟩,
 ⟨(some 11),.mov (.cst (.c (.int .i64 0))),none,0⟩])
 (.block 0 (.loop ⟨[6,12,13,14,15,16,17,18,19,20,21,22,23,24],false,[]⟩
 (.seq (.region 0 [] [
 ⟨(some 12),.bin .lss (.tmp 11) (.tmp 10),none,0⟩])
 (.seq (.cond (.tmp 12)
 .skip
 (.exit 0))
 (.seq (.block 1 (.seq (.region 0 [] [
 ⟨(some 13),.mov (.tmp 11),none,0⟩,
 ⟨(some 6),.mov (.tmp 13),none,0⟩])
 (.seq (.region 0 [] [
 ⟨(some 14),.mov (.tmp 5),none,0⟩,
 ⟨(some 15),.faddr 2 (.tmp 3),none,0⟩,
 ⟨(some 16),.load none (.tmp 15),none,0⟩,
 ⟨(some 17),.mov (.tmp 6),none,0⟩,
 ⟨(some 18),.iaddr 1 (.tmp 16) (.tmp 17),none,0⟩,
 ⟨(some 19),.load none (.tmp 18),none,0⟩,
 ⟨(some 20),.bin .add (.tmp 14) (.tmp 19),none,0⟩,
 ⟨(some 5),.mov (.tmp 20),none,0⟩])
 (.region 0 [] [
 ⟨(some 21),.mov (.tmp 6),none,0⟩,
 ⟨(some 22),.mov (.tmp 5),none,0⟩,
 ⟨(some 23),.iaddrA 8 1 (.tmp 4) (.tmp 21),none,0⟩,
 ⟨none,.store none (.tmp 23) (.tmp 22),none,0⟩]))))
 (.region 0 [] [
 ⟨(some 24),.bin .add (.tmp 11) (.cst (.c (.int .i64 1))),none,0⟩,
 ⟨(some 11),.mov (.tmp 24),none,0⟩])))))))
 (.seq (.region 0 [] [
 ⟨(some 25),.load (some 8) (.tmp 4),none,0⟩,
 ⟨none,.store (some 8) (.tmp 4) (.tmp 25),none,0⟩])
 .ret))))⟩
def f142 : AFunc:=⟨13,[.tmp 4],false,
 (.seq (.region 1 [] [
 ⟨(some 2),.box (.tmp 0),none,0⟩,
 ⟨(some 4),.mov (.cst (.c .nils)),none,1⟩])
 (.seq (.seq (.region 0 [] [
 ⟨(some 6),.mov (.tmp 1),none,0⟩])
 (.block 0 (.range (.tmp 6) [7]
 (.region 1 [] [
 ⟨(some 5),.alloc [(.int .i64 0),(.int .i64 0)],none,0⟩,
 ⟨none,.store (some 2) (.tmp 5) (.tmp 7),none,1⟩])
 (.block 1 (.region 2 [] [
 ⟨(some 8),.load none (.tmp 2),none,0⟩,
 ⟨(some 9),.load (some 2) (.tmp 5),none,0⟩,
 ⟨(some 10),.bslice 2 1 [(.int .i64 0),(.int .i64 0)] [(0,(.tmp 9))],none,0⟩,
 ⟨(some 11),.append 2 16 (.tmp 8) (.tmp 10),none,1⟩,
 ⟨none,.store none (.tmp 2) (.tmp 11),none,2⟩])))))
 (.seq (.region 0 [] [
 ⟨(some 12),.load none (.tmp 2),none,0⟩,
 ⟨(some 4),.mov (.tmp 12),none,0⟩])
 .ret)))⟩
def f143 : AFunc:=⟨83,[],false,
 (.seq (.region 1 [] [
 ⟨(some 8),.faddr 0 (.tmp 1),none,0⟩,
 ⟨(some 9),.load none (.tmp 8),none,0⟩,
 ⟨(some 10),.faddr 1 (.tmp 1),none,0⟩,
 ⟨(some 11),.load none (.tmp 10),none,0⟩,
 ⟨(some 12),.build [(.int .i64 0),(.int .i64 0)] [(0,1,(.tmp 9)),(1,1,(.tmp 11))],none,0⟩,
 ⟨(some 4),.alloc [(.int .i64 0),(.int .i64 0)],none,0⟩,
 ⟨none,.store (some 2) (.tmp 4) (.tmp 12),none,1⟩])
 (.seq (.region 0 [] [
 ⟨(some 13),.load none (.tmp 2),none,0⟩,
 ⟨(some 14),.nilchk (.tmp 13),none,0⟩,
 ⟨(some 15),.faddr 0 (.tmp 14),none,0⟩,
 ⟨(some 16),.faddr 9 (.tmp 15),none,0⟩,
 ⟨(some 17),.load none (.tmp 16),none,0⟩,
 ⟨(some 18),.len (.tmp 17),none,0⟩,
 ⟨(some 19),.mov (.cst (.c (.int .i64 0))),none,0⟩])
 (.block 0 (.loop ⟨[5,6,7,20,21,22,23,24,25,26,27,28,29,30,31,32,33,34,35,36,37,38,39,40,41,42,43,44,45,46,47,48,49,50,51,52,53,54,55,56,57,58,59,60,61,62,63,64,65,66,67,68,69,70,71,72,73,74,75,76,77,78,79,80,81,82],false,[]⟩
 (.seq (.region 0 [] [
 ⟨(some 20),.bin .lss (.tmp 19) (.tmp 18),none,0⟩])
 (.seq (.cond (.tmp 20)
 .skip
 (.exit 0))
 (.seq (.block 1 (.seq (.region 1 [] [
 ⟨(some 21),.mov (.tmp 19),none,0⟩,
 ⟨(some 22),.iaddr 3 (.tmp 17) (.tmp 19),none,0⟩,
 ⟨(some 23),.load (some 3) (.tmp 22),none,0⟩,
 ⟨(some 6),.alloc [(.int .i64 0),(.int .i64 0),(.int .i64 0)],none,0⟩,
 ⟨(some 5),.mov (.tmp 21),none,1⟩,
 ⟨none,.store (some 3) (.tmp 6) (.tmp 23),none,1⟩])
 (.seq (.region 0 [(0,2),(1,2),(0,3),(1,3),(0,4),(1,4),(2,4),(3,4),(0,5),(1,5),(2,5),(3,5),(0,6),(1,6),(0,7),(1,7),(2,7),(3,7),(4,7),(5,7),(6,7),(0,8),(1,8),(2,8),(3,8),(4,8),(5,8),(6,8),(0,9),(1,9),(2,9),(3,9),(4,9),(5,9),(6,9),(7,9),(8,9),(0,10),(1,10),(2,10),(3,10),(4,10),(5,10),(6,10),(0,11),(1,11),(2,11),(3,11),(4,11),(5,11),(6,11),(0,12),(1,12)] [
 ⟨(some 24),.faddr 0 (.tmp 4),none,0⟩,
 ⟨(some 25),.load none (.tmp 24),none,0⟩,
 ⟨(some 26),.faddr 0 (.tmp 6),none,0⟩,
 ⟨(some 27),.load none (.tmp 26),none,0⟩,
 ⟨(some 28),.faddr 1 (.tmp 6),none,0⟩,
 ⟨(some 29),.load none (.tmp 28),none,0⟩,
 ⟨(some 30),.bin .sub (.tmp 27) (.tmp 29),none,0⟩,
 ⟨(some 31),.faddr 2 (.tmp 1),none,0⟩,
 ⟨(some 32),.load none (.tmp 31),none,0⟩,
 ⟨(some 33),.mov (.tmp 5),none,0⟩,
 ⟨(some 34),.iaddr 1 (.tmp 32) (.tmp 33),none,0⟩,
 ⟨(some 35),.load none (.tmp 34),none,0⟩,
 ⟨(some 36),.bin .add (.tmp 30) (.tmp 35),none,0⟩,
 ⟨(some 37),.bin .add (.tmp 25) (.tmp 36),none,0⟩,
 ⟨(some 38),.faddr 0 (.tmp 4),none,0⟩,
 ⟨none,.store none (.tmp 38) (.tmp 37),none,0⟩])
 (.seq (.region 1 [(0,2),(1,2),(0,3),(1,3),(0,4),(1,4),(2,4),(3,4),(0,5),(1,5),(2,5),(3,5),(0,6),(1,6),(2,6),(3,6),(0,7),(1,7),(2,7),(3,7),(0,8),(1,8),(2,8),(3,8),(0,9),(1,9),(0,11),(1,11),(2,11),(3,11),(4,11),(5,11),(6,11),(7,11),(8,11),(9,11),(10,11),(0,12),(1,12),(2,12),(3,12),(4,12),(5,12),(6,12),(7,12),(8,12),(9,12),(10,12),(0,13),(1,13),(2,13),(3,13),(4,13),(5,13),(6,13),(7,13),(8,13),(9,13),(10,13),(0,14),(1,14),(2,14),(3,14),(4,14),(5,14),(6,14),(7,14),(8,14),(9,14),(10,14),(0,15),(1,15),(2,15),(3,15),(4,15),(5,15),(6,15),(7,15),(8,15),(9,15),(10,15),(11,15),(12,15),(13,15),(14,15),(0,16),(1,16),(2,16),(3,16),(4,16),(5,16),(6,16),(7,16),(8,16),(9,16),(10,16),(11,16),(12,16),(13,16),(14,16),(0,17),(1,17),(2,17),(3,17),(4,17),(5,17),(6,17),(7,17),(8,17),(9,17),(10,17),(0,19),(1,19),(2,19),(3,19),(4,19),(5,19),(6,19),(7,19),(8,19),(9,19),(10,19),(11,19),(12,19),(13,19),(14,19),(15,19),(16,19),(17,19),(18,19)] [
 ⟨(some 39),.faddr 1 (.tmp 4),none,0⟩,
 ⟨(some 40),.load none (.tmp 39),none,0⟩,
 ⟨(some 41),.faddr 2 (.tmp 6),none,0⟩,
 ⟨(some 42),.load none (.tmp 41),none,0⟩,
 ⟨(some 43),.load none (.tmp 2),none,0⟩,
 ⟨(some 44),.nilchk (.tmp 43),none,0⟩,
 ⟨(some 45),.faddr 0 (.tmp 44),none,0⟩,
 ⟨(some 46),.faddr 6 (.tmp 45),none,0⟩,
 ⟨(some 47),.load none (.tmp 46),none,0⟩,
 ⟨(some 48),.bin .mul (.tmp 42) (.tmp 47),none,0⟩,
 ⟨(some 49),.bin .add (.tmp 40) (.tmp 48),none,0⟩,
 ⟨(some 50),.load none (.tmp 2),none,0⟩,
 ⟨(some 51),.nilchk (.tmp 50),none,0⟩,
 ⟨(some 52),.faddr 0 (.tmp 51),none,0⟩,
 ⟨(some 53),.load (some 12) (.tmp 52),none,0⟩,
 ⟨(some 54),.faddr 0 (.tmp 4),none,0⟩,
 ⟨(some 55),.load none (.tmp 54),none,0⟩,
 ⟨(some 56),.call 102 true [(.tmp 53),(.tmp 55)],none,0⟩,
 ⟨(some 57),.build [(.int .i64 0),(.bool false)] [(0,1,(.tmp 49)),(1,1,(.tmp 56))],none,0⟩,
 ⟨(some 7),.alloc [(.int .i64 0),(.bool false)],none,0⟩,
 ⟨none,.store (some 2) (.tmp 7) (.tmp 57),none,1⟩])
 (.seq (.seq (.region 0 [] [
 ⟨(some 58),.load none (.tmp 2),none,0⟩,
 ⟨(some 59),.nilchk (.tmp 58),none,0⟩,
 ⟨(some 60),.faddr 0 (.tmp 59),none,0⟩,
 ⟨(some 61),.faddr 10 (.tmp 60),none,0⟩,
 ⟨(some 62),.load none (.tmp 61),none,0⟩,
 ⟨(some 63),.mov (.tmp 5),none,0⟩,
 ⟨(some 64),.iaddr 1 (.tmp 62) (.tmp 63),none,0⟩,
 ⟨(some 65),.load none (.tmp 64),none,0⟩,
 ⟨(some 66),.mov (.cst (.c (.int .i64 0))),none,0⟩])
 (.block 2 (.loop ⟨[67,68,69,70,71,72,73,74],false,[]⟩
 (.seq (.region 0 [] [
 ⟨(some 67),.bin .lss (.tmp 66) (.tmp 65),none,0⟩])
 (.seq (.cond (.tmp 67)
 .skip
 (.exit 2))
 (.seq (.block 3 (.region 0 [] [
 ⟨(some 69),.load none (.tmp 2),none,0⟩,
 ⟨(some 70),.load (some 2) (.tmp 7),none,0⟩,
 ⟨(some 71),.call 135 false [(.tmp 69),(.tmp 70)],none,0⟩,
 ⟨(some 68),.mov (.tmp 71),none,0⟩,
 ⟨(some 72),.extract 0 (.tmp 68),none,0⟩,
 ⟨(some 73),.extract 1 (.tmp 68),none,0⟩,
 ⟨none,.store (some 2) (.tmp 7) (.tmp 73),none,0⟩]))
 (.region 0 [] [
 ⟨(some 74),.bin .add (.tmp 66) (.cst (.c (.int .i64 1))),none,0⟩,
 ⟨(some 66),.mov (.tmp 74),none,0⟩])))))))
 (.seq (.region 0 [] [
 ⟨(some 75),.faddr 0 (.tmp 7),none,0⟩,
 ⟨(some 76),.load none (.tmp 75),none,0⟩,
 ⟨(some 77),.faddr 1 (.tmp 4),none,0⟩,
 ⟨none,.store none (.tmp 77) (.tmp 76),none,0⟩])
 (.seq (.region 0 [] [
 ⟨(some 78),.mov (.tmp 0),none,0⟩,
 ⟨(some 79),.load (some 2) (.tmp 4),none,0⟩,
 ⟨(some 80),.callv (.tmp 78) [(.tmp 79)],none,0⟩,
 ⟨(some 81),.not (.tmp 80),none,0⟩])
 (.cond (.tmp 81)
 .ret
 .skip))))))))
 (.region 0 [] [
 ⟨(some 82),.bin .add (.tmp 19) (.cst (.c (.int .i64 1))),none,0⟩,
 ⟨(some 19),.mov (.tmp 82),none,0⟩]))))))))⟩
def f144 : AFunc:=⟨19,[.tmp 4],false,
 (.seq (.region 0 [] [
 ⟨(some 4),.mov (.cst (.c (.int .i64 0))),none,0⟩])
 (.seq (.seq (.region 0 [] [
 ⟨(some 6),.mov (.tmp 0),none,0⟩,
 ⟨(some 7),.len (.tmp 6),none,0⟩,
 ⟨(some 8),.mov (.cst (.c (.int .i64 0))),none,0⟩])
 (.block 0 (.loop ⟨[4,5,9,10,11,12,13,14,15,16,17,18],false,[]⟩
 (.seq (.region 0 [] [
 ⟨(some 9),.bin .lss (.tmp 8) (.tmp 7),none,0⟩])
 (.seq (.cond (.tmp 9)
 .skip
 (.exit 0))
 (.seq (.block 1 (.seq (.region 0 [] [
 ⟨(some 10),.mov (.tmp 8),none,0⟩,
 ⟨(some 5),.mov (.tmp 10),none,0⟩])
 (.seq (.region 0 [] [
 ⟨(some 11),.mov (.tmp 1),none,0⟩,
 ⟨(some 12),.mov (.tmp 0),none,0⟩,
 ⟨(some 13),.mov (.tmp 5),none,0⟩,
 ⟨(some 14),.iaddr 4 (.tmp 12) (.tmp 13),none,0⟩,
 ⟨(some 15),.load (some 4) (.tmp 14),none,0⟩,
 ⟨(some 16),.callv (.tmp 11) [(.tmp 15)],none,0⟩])
 (.cond (.tmp 16)
 (.seq (.region 0 [] [
 ⟨(some 17),.mov (.tmp 5),none,0⟩,
 ⟨(some 4),.mov (.tmp 17),none,0⟩])
 .ret)
 .skip))))
 (.region 0 [] [
 ⟨(some 18),.bin .add (.tmp 8) (.cst (.c (.int .i64 1))),none,0⟩,
 ⟨(some 8),.mov (.tmp 18),none,0⟩])))))))
 (.seq (.region 0 [] [
 ⟨(some 4),.mov (.cst (.c (.int .i64 (-1)))),none,0⟩])
 .ret)))⟩
def f145 : AFunc:=⟨19,[.tmp 4],false,
 (.seq (.region 0 [] [
 ⟨(some 4),.mov (.cst (.c (.int .i64 0))),none,0⟩])
 (.seq (.seq (.region 0 [] [
 ⟨(some 6),.mov (.tmp 0),none,0⟩,
 ⟨(some 7),.len (.tmp 6),none,0⟩,
 ⟨(some 8),.mov (.cst (.c (.int .i64 0))),none,0⟩])
 (.block 0 (.loop ⟨[4,5,9,10,11,12,13,14,15,16,17,18],false,[]⟩
 (.seq (.region 0 [] [
 ⟨(some 9),.bin .lss (.tmp 8) (.tmp 7),none,0⟩])
 (.seq (.cond (.tmp 9)
 .skip
 (.exit 0))
 (.seq (.block 1 (.seq (.region 0 [] [
 ⟨(some 10),.mov (.tmp 8),none,0⟩,
 ⟨(some 5),.mov (.tmp 10),none,0⟩])
 (.seq (.region 0 [] [
 ⟨(some 11),.mov (.tmp 1),none,0⟩,
 ⟨(some 12),.mov (.tmp 0),none,0⟩,
 ⟨(some 13),.mov (.tmp 5),none,0⟩,
 ⟨(some 14),.iaddr 2 (.tmp 12) (.tmp 13),none,0⟩,
 ⟨(some 15),.load (some 2) (.tmp 14),none,0⟩,
 ⟨(some 16),.callv (.tmp 11) [(.tmp 15)],none,0⟩])
 (.cond (.tmp 16)
 (.seq (.region 0 [] [
 ⟨(some 17),.mov (.tmp 5),none,0⟩,
 ⟨(some 4),.mov (.tmp 17),none,0⟩])
 .ret)
 .skip))))
 (.region 0 [] [
 ⟨(some 18),.bin .add (.tmp 8) (.cst (.c (.int .i64 1))),none,0⟩,
 ⟨(some 8),.mov (.tmp 18),none,0⟩])))))))
 (.seq (.region 0 [] [
 ⟨(some 4),.mov (.cst (.c (.int .i64 (-1)))),none,0⟩])
 .ret)))⟩
def f146 : AFunc:=⟨19,[.tmp 4],false,
 (.seq (.region 0 [] [
 ⟨(some 4),.mov (.cst (.c (.int .i64 0))),none,0⟩])
 (.seq (.seq (.region 0 [] [
 ⟨(some 6),.mov (.tmp 0),none,0⟩,
 ⟨(some 7),.len (.tmp 6),none,0⟩,
 ⟨(some 8),.mov (.cst (.c (.int .i64 0))),none,0⟩])
 (.block 0 (.loop ⟨[4,5,9,10,11,12,13,14,15,16,17,18],false,[]⟩
 (.seq (.region 0 [] [
 ⟨(some 9),.bin .lss (.tmp 8) (.tmp 7),none,0⟩])
 (.seq (.cond (.tmp 9)
 .skip
 (.exit 0))
 (.seq (.block 1 (.seq (.region 0 [] [
 ⟨(some 10),.mov (.tmp 8),none,0⟩,
 ⟨(some 5),.mov (.tmp 10),none,0⟩])
 (.seq (.region 0 [] [
 ⟨(some 11),.mov (.tmp 1),none,0⟩,
 ⟨(some 12),.mov (.tmp 0),none,0⟩,
 ⟨(some 13),.mov (.tmp 5),none,0⟩,
 ⟨(some 14),.iaddr 3 (.tmp 12) (.tmp 13),none,0⟩,
 ⟨(some 15),.load (some 3) (.tmp 14),none,0⟩,
 ⟨(some 16),.callv (.tmp 11) [(.tmp 15)],none,0⟩])
 (.cond (.tmp 16)
 (.seq (.region 0 [] [
 ⟨(some 17),.mov (.tmp 5),none,0⟩,
 ⟨(some 4),.mov (.tmp 17),none,0⟩])
 .ret)
 .skip))))
 (.region 0 [] [
 ⟨(some 18),.bin .add (.tmp 8) (.cst (.c (.int .i64 1))),none,0⟩,
 ⟨(some 8),.mov (.tmp 18),none,0⟩])))))))
 (.seq (.region 0 [] [
 ⟨(some 4),.mov (.cst (.c (.int .i64 (-1)))),none,0⟩])
 .ret)))⟩
def f147 : AFunc:=⟨19,[.tmp 4],false,
 (.seq (.region 0 [] [
 ⟨(some 4),.mov (.cst (.c (.int .i64 0))),none,0⟩])
 (.seq (.seq (.region 0 [] [
 ⟨(some 6),.mov (.tmp 0),none,0⟩,
 ⟨(some 7),.len (.tmp 6),none,0⟩,
 ⟨(some 8),.mov (.cst (.c (.int .i64 0))),none,0⟩])
 (.block 0 (.loop ⟨[4,5,9,10,11,12,13,14,15,16,17,18],false,[]⟩
 (.seq (.region 0 [] [
 ⟨(some 9),.bin .lss (.tmp 8) (.tmp 7),none,0⟩])
 (.seq (.cond (.tmp 9)
 .skip
 (.exit 0))
 (.seq (.block 1 (.seq (.region 0 [] [
 ⟨(some 10),.mov (.tmp 8),none,0⟩,
 ⟨(some 5),.mov (.tmp 10),none,0⟩])
 (.seq (.region 0 [] [
 ⟨(some 11),.mov (.tmp 1),none,0⟩,
 ⟨(some 12),.mov (.tmp 0),none,0⟩,
 ⟨(some 13),.mov (.tmp 5),none,0⟩,
 ⟨(some 14),.iaddr 1 (.tmp 12) (.tmp 13),none,0⟩,
 ⟨(some 15),.load none (.tmp 14),none,0⟩,
 ⟨(some 16),.callv (.tmp 11) [(.tmp 15)],none,0⟩])
 (.cond (.tmp 16)
 (.seq (.region 0 [] [
 ⟨(some 17),.mov (.tmp 5),none,0⟩,
 ⟨(some 4),.mov (.tmp 17),none,0⟩])
 .ret)
 .skip))))
 (.region 0 [] [
 ⟨(some 18),.bin .add (.tmp 8) (.cst (.c (.int .i64 1))),none,0⟩,
 ⟨(some 8),.mov (.tmp 18),none,0⟩])))))))
 (.seq (.region 0 [] [
 ⟨(some 4),.mov (.cst (.c (.int .i64 (-1)))),none,0⟩])
 .ret)))⟩
def f148 : AFunc:=⟨11,[],false,
 (.seq (.region 1 [] [
 ⟨(some 2),.box (.tmp 0),none,0⟩])
 (.seq (.region 2 [] [
 ⟨(some 5),.load none (.tmp 1),none,0⟩,
 ⟨(some 6),.len (.tmp 5),none,0⟩,
 ⟨(some 7),.mkslice 1 8 [(.int .i64 0)] (.tmp 6),none,0⟩,
 ⟨(some 3),.alloc [.nils],none,1⟩,
 ⟨none,.store none (.tmp 3) (.tmp 7),none,2⟩])
 (.seq (.region 1 [] [
 ⟨(some 4),.alloc [.nilfn],none,0⟩])
 (.seq (.region 0 [] [
 ⟨(some 8),.mkfn 149 none [(.tmp 1),(.tmp 2),(.tmp 3),(.tmp 4)],none,0⟩,
 ⟨none,.store none (.tmp 4) (.tmp 8),none,0⟩])
 (.region 0 [] [
 ⟨(some 9),.load none (.tmp 4),none,0⟩,
 ⟨(some 10),.callv (.tmp 9) [(.cst (.c (.int .i64 0)))],none,0⟩])))))⟩
def f149 : AFunc:=⟨39,[.tmp 6],false,
 (.seq (.region 0 [] [
 ⟨(some 6),.mov (.cst (.c (.bool false))),none,0⟩])
 (.seq (.seq (.region 0 [] [
 ⟨(some 8),.mov (.tmp 0),none,0⟩,
 ⟨(some 9),.load none (.tmp 1),none,0⟩,
 ⟨(some 10),.len (.tmp 9),none,0⟩,
 ⟨(some 11),.bin .eql (.tmp 8) (.tmp 10),none,0⟩])
 (.cond (.tmp 11)
 (.seq (.region 0 [] [
 ⟨(some 12),.load none (.tmp 2),none,0⟩,
 ⟨(some 13),.load none (.tmp 3),none,0⟩,
 ⟨(some 14),.callv (.tmp 12) [(.tmp 13)],none,0⟩,
 ⟨(some 6),.mov (.tmp 14),none,0⟩])
 .ret)
 .skip))
 (.seq (.seq (.region 0 [] [
 ⟨(some 15),.load none (.tmp 1),none,0⟩,
 ⟨(some 16),.mov (.tmp 0),none,0⟩,
 ⟨(some 17),.iaddr 2 (.tmp 15) (.tmp 16),none,0⟩,
 ⟨(some 18),.load (some 2) (.tmp 17),none,0⟩,
 ⟨(some 19),.call 88 true [(.tmp 18)],none,0⟩,
 ⟨(some 20),.mov (.cst (.c (.int .i64 0))),none,0⟩])
 (.block 0 (.loop ⟨[6,7,21,22,23,24,25,26,27,28,29,30,31,32,33,34,35,36,37,38],false,[]⟩
 (.seq (.region 0 [] [
 ⟨(some 21),.bin .lss (.tmp 20) (.tmp 19),none,0⟩])
 (.seq (.cond (.tmp 21)
 .skip
 (.exit 0))
 (.seq (.block 1 (.seq (.region 0 [] [
 ⟨(some 22),.mov (.tmp 20),none,0⟩,
 ⟨(some 7),.mov (.tmp 22),none,0⟩])
 (.seq (.region 0 [(0,1),(0,2),(1,2),(0,3),(1,3),(2,3),(0,4),(1,4),(0,5),(1,5),(0,6),(1,6),(0,7),(1,7),(2,7),(3,7),(4,7),(5,7),(6,7),(0,8),(1,8)] [
 ⟨(some 23),.load none (.tmp 3),none,0⟩,
 ⟨(some 24),.mov (.tmp 0),none,0⟩,
 ⟨(some 25),.load none (.tmp 1),none,0⟩,
 ⟨(some 26),.mov (.tmp 0),none,0⟩,
 ⟨(some 27),.iaddr 2 (.tmp 25) (.tmp 26),none,0⟩,
 ⟨(some 28),.faddr 0 (.tmp 27),none,0⟩,
 ⟨(some 29),.load none (.tmp 28),none,0⟩,
 ⟨(some 30),.mov (.tmp 7),none,0⟩,
 ⟨(some 31),.bin .add (.tmp 29) (.tmp 30),none,0⟩,
 ⟨(some 32),.iaddr 1 (.tmp 23) (.tmp 24),none,0⟩,
 ⟨none,.store none (.tmp 32) (.tmp 31),none,0⟩])
 (.seq (.region 0 [] [
 ⟨(some 33),.load none (.tmp 4),none,0⟩,
 ⟨(some 34),.mov (.tmp 0),none,0⟩,
 ⟨(some 35),.bin .add (.tmp 34) (.cst (.c (.int .i64 1))),none,0⟩,
 ⟨(some 36),.callv (.tmp 33) [(.tmp 35)],none,0⟩,
 ⟨(some 37),.not (.tmp 36),none,0⟩])
 (.cond (.tmp 37)
 (.seq (.region 0 [] [
 ⟨(some 6),.mov (.cst (.c (.bool false))),none,0⟩])
 .ret)
 .skip)))))
 (.region 0 [] [
 ⟨(some 38),.bin .add (.tmp 20) (.cst (.c (.int .i64 1))),none,0⟩,
 ⟨(some 20),.mov (.tmp 38),none,0⟩])))))))
 (.seq (.region 0 [] [
 ⟨(some 6),.mov (.cst (.c (.bool true))),none,0⟩])
 .ret))))⟩
def f150 : AFunc:=⟨19,[.tmp 4],false,
 (.seq (.region 0 [] [
 ⟨(some 4),.mov (.cst (.c (.int .i64 0))),none,0⟩])
 (.seq (.seq (.region 0 [] [
 ⟨(some 6),.mov (.tmp 0),none,0⟩,
 ⟨(some 7),.len (.tmp 6),none,0⟩,
 ⟨(some 8),.mov (.cst (.c (.int .i64 0))),none,0⟩])
 (.block 0 (.loop ⟨[4,5,9,10,11,12,13,14,15,16,17,18],false,[]⟩
 (.seq (.region 0 [] [
 ⟨(some 9),.bin .lss (.tmp 8) (.tmp 7),none,0⟩])
 (.seq (.cond (.tmp 9)
 .skip
 (.exit 0))
 (.seq (.block 1 (.seq (.region 0 [] [
 ⟨(some 10),.mov (.tmp 8),none,0⟩,
 ⟨(some 5),.mov (.tmp 10),none,0⟩])
 (.seq (.region 0 [] [
 ⟨(some 11),.mov (.tmp 1),none,0⟩,
 ⟨(some 12),.mov (.tmp 0),none,0⟩,
 ⟨(some 13),.mov (.tmp 5),none,0⟩,
 ⟨(some 14),.iaddr 1 (.tmp 12) (.tmp 13),none,0⟩,
 ⟨(some 15),.load none (.tmp 14),none,0⟩,
 ⟨(some 16),.bin .eql (.tmp 11) (.tmp 15),none,0⟩])
 (.cond (.tmp 16)
 (.seq (.region 0 [] [
 ⟨(some 17),.mov (.tmp 5),none,0⟩,
 ⟨(some 4),.mov (.tmp 17),none,0⟩])
 .ret)
 .skip))))
 (.region 0 [] [
 ⟨(some 18),.bin .add (.tmp 8) (.cst (.c (.int .i64 1))),none,0⟩,
 ⟨(some 8),.mov (.tmp 18),none,0⟩])))))))
 (.seq (.region 0 [] [
 ⟨(some 4),.mov (.cst (.c (.int .i64 (-1)))),none,0⟩])
 .ret)))⟩
def tabL : List (Option AFunc):=[none,none,none,none,none,none,none,none,none,none,none,some f11,none,none,some f14,none,some f16,some f17,some f18,none,some f20,none,some f22,none,none,some f25,some f26,some f27,none,some f29,some f30,none,some f32,none,some f34,some f35,none,none,some f38,some f39,some f40,none,none,none,some f44,some f45,none,none,none,none,some f50,some f51,some f52,none,none,some f55,none,none,none,some f59,some f60,some f61,some f62,none,none,none,some f66,some f67,some f68,some f69,some f70,some f71,some f72,some f73,some f74,some f75,some f76,some f77,some f78,some f79,some f80,some f81,some f82,some f83,some f84,some f85,some f86,some f87,some f88,some f89,some f90,some f91,some f92,some f93,some f94,some f95,none,none,some f98,some f99,some f100,some f101,some f102,some f103,some f104,some f105,some f106,some f107,some f108,none,some f110,some f111,none,some f113,some f114,some f115,some f116,none,some f118,none,some f120,some f121,some f122,some f123,some f124,some f125,some f126,some f127,some f128,some f129,some f130,some f131,some f132,some f133,some f134,some f135,some f136,some f137,some f138,some f139,some f140,some f141,some f142,some f143,some f144,some f145,some f146,some f147,some f148,some f149,some f150,none,none,none,none,none,none,none,none,none,none,none,none,none,none,none,none,none]
def tab (k:Nat):Option AFunc:=(nth tabL k).join
def annL : List (Nat × Nat × Ann):=[(3,0,⟨[4,84,85,86,87,88,89,90,91,92,93,94,95,96,97,98,99,100,101,102,103,104,105],false,[]⟩),(5,0,⟨[4,13,89,90,91,92,93,94,95,96,97,98,99,100,101,102,103,104,105,106,107,108,109,110],true,[]⟩),(9,0,⟨[8,20,21,22,23,24,25,26,106,107,108,109,110,111,112,113,114,115,116,117,118,119,120,121,122,123,124,125,126,127,128,129,130,131,132,133,134,135,136,137,138,139,140,141,142,143,144,145,146,147,148,149,150,151,152,153,154,155,156,157,158,159,160,161,162,163,164,165,166,167,168,169,170,171,172,173,174,175,176,177,178,179,180,181,182,183,184,185,186,187,188,189,190,191,192,193,194,195,196,197,198,199,200,201,202,203,204,205,206,207,208,209,210,211,212,213,214,215,216,217,218,219,220,221,222,223,224],true,[]⟩),(10,0,⟨[16,17,18,19,76,77,78,79,80,81,82,83,84,85,86,87,88,89,90,91,92,93,94,95,96,97,98,99,100,101,102,103,104,105,106,107,108,109,110,111,112,113,114,115,116,117,118,119,120,121,122,123,124,125,126,127,128,129,130,131,132,133,134,135,136,137,138,139,140,141,142,143,144,145,146,147,148,149,150,151,152,153,154,155,156],true,[]⟩),(10,2,⟨[145,146,147,148,149,150,151,152,153,154,155,156],false,[]⟩),(11,0,⟨[8,91,92,93,94,95,96,97,98,99,100,101,102,103,104,105,106,107,108,109,110,111,112,113,114,115,116,117,118,119,120,121,122],false,[]⟩),(11,2,⟨[128,129,130,131,132,133,134,135,136,137,138,139,140,141,142,143,144,145,146,147,148],false,[(18,none,1)]⟩),(13,0,⟨[4,26,27,28,29,30,31,32,33,34,35,36,37,38,39,40,41,42,43,44,45,46,47,48,49,50,51,52,53,54,55,56,57,58,59,60,61,62,63,64,65,66,67,68,69,70],false,[]⟩),(18,0,⟨[27,28,29,30,31,32,33,34,35,36,37,38,39,40,41,42,43,44],true,[(3,(some 8),2)]⟩),(18,2,⟨[6,45,46,47,48,49,50,51,52,53,54,55,56,57,58,59,60,61,62,63,64,65,66,67,68],true,[(3,(some 9),3)]⟩),(18,4,⟨[8,69,70,71,72,73,74,75,76,77,78,79,80,81,82,83,84,85,86,87,88,89,90,91,92,93],true,[(3,(some 11),4)]⟩),(22,1,⟨[6,76,77,78,79,80,81,82,83,84,85],false,[]⟩),(23,0,⟨[4,10,11,12,13,14,15,16,17,18,19,20,21,22,23,24,25],false,[]⟩),(24,0,⟨[4,37,38,39,40,41,42,43,44,45,46,47,48,49,50,51,52,53,54,55,56,57,58,59,60,61,62],false,[]⟩),(25,0,⟨[9,14,15,16,17,18,19,20,21,22,23,24,25,26,27,28,29,30,31,32,33,34,35,36,37,38,39,40,41,42,43,44,45,46,47,48,49,50,51,52,53,54,55,56,57,58,59,60,61,62,63,64,65,66,67,68,69,70,71,72,73,74],true,[(5,none,2)]⟩),(25,2,⟨[53,54,55,56,57,58,59,60,61,62,63,64,65,66,67,68],false,[]⟩),(30,0,⟨[4,11,12,13,14,15,16,17,18,19,20,21,22,23,24,25],false,[]⟩),(31,0,⟨[11,22,23,24,25,26,27,28,29,30,31,32,33,34,35,36,37,38],true,[(10,none,1)]⟩),(33,0,⟨[12,13,14,15,16,17,18,19,20,21,22,23,24,25,26,27,28],false,[]⟩),(34,0,⟨[7,19,20,21,22,23,24,25,26,27,28,29,30,31,32,33],false,[(6,none,4)]⟩),(36,0,⟨[9,10,11,12,13,14,15,16,17,18,19,20,21,22,23,24,25,26,27,28,29,30,31,32],false,[]⟩),(37,0,⟨[9,13,14,15,16,17,18,19,20,21,22,23,24,25,26,27,28,29,30,31,32,33,34,35,36,37,38],true,[]⟩),(38,0,⟨[10,11,41,42,43,44,45,46,47,48,49,50,51,52,53,54,55,56,57,58,59,60,61,62,63,64,65,66,67],false,[]⟩),(39,0,⟨[4,9,10,32,33,34,35,36,37,38,39,40,41,42,43,44,45,46],false,[]⟩),(41,0,⟨[4,6,7,8,9,10,11,12,13,14,15,16,17],false,[]⟩),(42,0,⟨[6,8,9,10,11,12,13,14,15,16,17,18,19,20,21,22,23],false,[]⟩),(43,0,⟨[4,7,8,9,10,12,13,14,15,16,17,18,19,20,21,22,23,24,25,26,27,28,29,30,31,32,33,34,35,36,37,38,39,40,41,42,43,44,45,46,47,48,49,50,51,52,53,54,55,56,57,58,59,60],false,[]⟩),(43,2,⟨[9,10,21,22,23,24,25,26,27,28,29,30,31,32,33,34,35,36,37,38,39,40,41,42,43,44,45,46,47,48,49,50,51,52,53,54,55],true,[(7,none,1)]⟩),(43,4,⟨[28,29,30,31,32,33,34,35,36,37,38,39,40,41,42,43],false,[]⟩),(44,0,⟨[10,35,36,37,38,39,40,41,42,43,44,45,46,47,48,49,50,51,52,53,54,55,56,57,58,59,60,61,62,63,64,65,66,67,68],false,[]⟩),(44,2,⟨[47,48,49,50,51,52,53,54,55,56,57,58,59,60,61,62,63,64,65,66,67],false,[]⟩),(50,0,⟨[2,3,6,18,19,20,21,22,23,24,25,26,27,28,29,30,31,32,33],false,[]⟩),(51,0,⟨[8,22,23,24,25,26,27],false,[]⟩),(52,0,⟨[5,6,7,8,9,10,11,12,13,14,15,16,17,18,19,20,21,22,23,24,25,26,27,28,29,30,31,32,33,34,35,36,37,38],true,[(3,none,1)]⟩),(52,2,⟨[13,14,15,16,17,18,19,20,21,22,23,24,25,26,27,28,29,30,31,32,33,34],false,[]⟩),(53,0,⟨[7,11,12,13,14,15,16,17,18,19,20,21,22,23,24,25,26,27,28,29,30],false,[]⟩),(54,0,⟨[4,6,7,8,9,10,11,12,13,14,15,16,17,18,19,20],false,[]⟩),(56,0,⟨[12,13,14,27,28,29,30,31,32,33,34,35,36,37,38,39,40,41,42,43,44,45,46,47,48,49,50,51,52,53,54,55,56,57,58,59,60,61,62,63,64,65,66,67,68,69,70,71,72,73,74,75,76,77,78],true,[(9,(some 11),4)]⟩),(58,0,⟨[5,6,7,8,9,10,11,12,13,14,15,16],false,[]⟩),(59,0,⟨[8,9,10,11,12,13,14,15,16,17,18,19,20,21,22,23,24,25,26],true,[(4,none,3)]⟩),(60,0,⟨[11,12,13,14,15,16,17,18,19,20,21,22],false,[]⟩),(61,0,⟨[7,8,9,10,11,12,13,14,15,16,17,18,19,20,21,22,23,24,25,26,27],true,[(5,none,1)]⟩),(63,0,⟨[9,10,11,12,13,14,15,16,17,18,19,20,21,22,23,24,25,26,27,28,29,30,31],true,[(5,(some 11),4)]⟩),(65,0,⟨[5,6,7,8,9,10,11,12,13,14,15,16,17,18,19,20,21],true,[(3,none,1)]⟩),(66,0,⟨[2,5,73,74,75,76,77,78,79,80,81,82,83,84,85,86,87,88,89,90,91,92,93,94,95,96,97,98,99,100,101,102,103,104,105,106,107,108,109,110,111,112,113,114,115,116],true,[]⟩),(66,2,⟨[2,117,118,119,120,121,122,123,124,125,126,127,128,129,130,131,132,133,134,135,136,137,138,139,140,141,142,143],false,[]⟩),(67,0,⟨[13,14,15,16,17,18,19,20,21,22,23,24,25,26,27,28],false,[]⟩),(71,0,⟨[4,5,6,33,34,35,36,37,38,39,40,41,42,43,44,45],true,[]⟩),(92,0,⟨[8,9,22,23,24,25,26,27,28,29,30,31,32,33,34],false,[(6,none,1)]⟩),(95,0,⟨[7,17,18,19,20,21,22,23],false,[]⟩),(103,0,⟨[6,7,15,16,17,18,19,20,21,22,23,24,25,26,27,28,29,30,31,32,33,34,35,36,37,38,39,40,41,42,43,44],false,[(4,none,2)]⟩),(104,2,⟨[8,40,41,42,43,44,45,46,47,48,49,50,51,52,53,54,55,56,57,58,59,60,61,62,63,64,65,66,67,68,69,70,71,72,73,74,75,76,77,78,79,80,81,82,83,84],false,[]⟩),(109,0,⟨[8,10,11,12,13,14,15,16,17,18,19,20,21,22,23,24,25,26,27,28,29,30],false,[]⟩),(110,0,⟨[5,6,7,8,9,10,11,12],true,[(2,none,1)]⟩),(114,0,⟨[10,19,20,21,22,23,24,25,26,27,28,29,30,31,32,33,34,35,36,37,38],false,[]⟩),(116,0,⟨[7,38,39,40,41,42,43,44,45,46,47,48,49,50,51,52,53,54,55,56,57,58,59,60,61,62,63,64,65],true,[(5,(some 2),1)]⟩),(117,0,⟨[4,6,7,8,9,10,11,12,13,14,15,16,17,18,19],false,[]⟩),(119,0,⟨[4,6,7,8,9,10,11,12,13,14,15,16,17,18,19,20,21,22,23,24,25,26,27,28,29,30,31,32,33,34,35],false,[]⟩),(134,0,⟨[12,13,14,15,16,17,18,19,20,21,22,23],false,[]⟩),(138,2,⟨[8,9,36,37,38,39,40,41,42,43,44,45,46,47,48,49,50,51],false,[]⟩),(141,0,⟨[6,12,13,14,15,16,17,18,19,20,21,22,23,24],false,[]⟩),(143,0,⟨[5,6,7,20,21,22,23,24,25,26,27,28,29,30,31,32,33,34,35,36,37,38,39,40,41,42,43,44,45,46,47,48,49,50,51,52,53,54,55,56,57,58,59,60,61,62,63,64,65,66,67,68,69,70,71,72,73,74,75,76,77,78,79,80,81,82],false,[]⟩),(143,2,⟨[67,68,69,70,71,72,73,74],false,[]⟩),(144,0,⟨[4,5,9,10,11,12,13,14,15,16,17,18],false,[]⟩),(145,0,⟨[4,5,9,10,11,12,13,14,15,16,17,18],false,[]⟩),(146,0,⟨[4,5,9,10,11,12,13,14,15,16,17,18],false,[]⟩),(147,0,⟨[4,5,9,10,11,12,13,14,15,16,17,18],false,[]⟩),(149,0,⟨[6,7,21,22,23,24,25,26,27,28,29,30,31,32,33,34,35,36,37,38],false,[]⟩),(150,0,⟨[4,5,9,10,11,12,13,14,15,16,17,18],false,[]⟩)]
def dropL : List Nat:=[81,83,128,130]
def cloneL : List (Nat × Nat):=[(115,3)]
def growL : List (Nat × Nat):=[]
def pureL : List Nat:=[0,1,2,3,4,5,6,7,8,9,10,11,12,13,14,15,16,17,18,19,20,21,22,23,24,25,26,27,28,29,30,31,32,33,34,35,36,37,38,39,40,41,42,43,44,45,46,47,48,49,50,51,52,53,54,55,56,57,58,59,60,61,62,63,64,65,66,67,68,69,70,71,76,77,78,79,81,83,85,86,87,88,89,90,91,96,97,98,100,102,105,106,108,109,110,111,112,116,117,118,119,120,121,126,131,134,136,140,141,150,152]
def pinL : List (Nat × Nat × Nat × Bool):=[(11,128,40,false)]
end Am.Vt
