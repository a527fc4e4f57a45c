/-
  A part of the proof: the texts CrTab of this seat, joined.
-/
import Derived.Test.YtiblicjmmippnaaTabA
namespace Am.Cr
open Go Am
set_option maxRecDepth 100000
def f26 : AFunc:=⟨10,[.tmp 2],false,
 (.seq (.region 1 [] [
 ⟨(some 1),.box (.tmp 0),none,0⟩,
 ⟨(some 2),.mov (.cst (.c (.bool false))),none,1⟩])
 (.seq (.region 0 [] [
 ⟨(some 3),.load (some 9) (.tmp 1),none,0⟩,
 ⟨(some 4),.call 12 true [(.tmp 3)],none,0⟩,
 ⟨(some 5),.mov (.tmp 4),none,0⟩,
 ⟨(some 6),.load (some 9) (.tmp 1),some (5,true),0⟩,
 ⟨(some 7),.call 46 true [(.tmp 6)],some (5,true),0⟩,
 ⟨(some 8),.bin .eql (.tmp 7) (.cst (.c (.int .i64 0))),some (5,true),0⟩,
 ⟨(some 9),.pick (.tmp 5) (.tmp 8) (.cst (.c (.bool false))),none,0⟩,
 ⟨(some 2),.mov (.tmp 9),none,0⟩])
 .ret))⟩
def f27 : AFunc:=⟨55,[.cell 4 (some 2)],false,
 (.seq (.region 2 [] [
 ⟨(some 2),.box (.tmp 0),none,0⟩,
 ⟨(some 4),.alloc [.nils,.nils],none,1⟩])
 (.seq (.region 1 [] [
 ⟨(some 5),.alloc [.nils,.nils],none,0⟩])
 (.seq (.seq (.region 0 [] [
 ⟨(some 6),.mov (.cst (.c (.int .i64 0))),none,0⟩])
 (.block 0 (.loop ⟨[7,8,9,10,11,12,13,14,15,16,17,18,19,20,21,22,23,24,25,26,27,28,29,30,31,32,33,34,35,36,37,38,39,40,41,42,43,44,45,46,47,48,49,50,51,52,53],true,[(5,(some 0),1),(5,(some 1),1)]⟩
 (.seq (.seq (.region 0 [] [
 ⟨(some 9),.mov (.tmp 6),none,0⟩,
 ⟨(some 10),.faddr 1 (.tmp 2),none,0⟩,
 ⟨(some 11),.load none (.tmp 10),none,0⟩,
 ⟨(some 12),.len (.tmp 11),none,0⟩,
 ⟨(some 13),.bin .lss (.tmp 9) (.tmp 12),none,0⟩])
 (.cond (.tmp 13)
 .skip
 (.exit 0)))
 (.seq (.block 1 (.seq (.region 1 [] [
 ⟨(some 16),.faddr 1 (.tmp 2),none,0⟩,
 ⟨(some 17),.load none (.tmp 16),none,0⟩,
 ⟨(some 18),.mov (.tmp 6),none,0⟩,
 ⟨(some 19),.iaddr 2 (.tmp 17) (.tmp 18),none,0⟩,
 ⟨(some 20),.load (some 2) (.tmp 19),none,0⟩,
 ⟨(some 7),.alloc [(.int .i64 0),(.int .i64 0)],none,0⟩,
 ⟨none,.store (some 2) (.tmp 7) (.tmp 20),none,1⟩])
 (.seq (.region 2 [(0,2),(1,2),(0,3),(1,3),(0,4),(1,4),(2,4),(3,4),(0,5),(1,5),(2,5),(3,5),(4,5),(0,6),(1,6),(2,6),(3,6),(4,6),(0,7),(1,7),(2,7),(3,7),(0,8),(1,8),(0,9),(1,9),(0,11),(1,11),(2,11),(3,11),(4,11),(5,11),(6,11),(7,11),(8,11),(9,11),(10,11),(0,12),(1,12),(2,12),(3,12),(4,12),(5,12),(6,12),(7,12),(8,12),(9,12),(10,12),(11,12),(11,13),(11,15),(12,15),(13,15),(14,15),(11,16),(14,16)] [
 ⟨(some 21),.faddr 0 (.tmp 5),none,0⟩,
 ⟨(some 22),.load none (.tmp 21),none,0⟩,
 ⟨(some 23),.faddr 0 (.tmp 7),none,0⟩,
 ⟨(some 24),.load none (.tmp 23),none,0⟩,
 ⟨(some 25),.mov (.tmp 1),none,0⟩,
 ⟨(some 26),.load (some 2) (.tmp 7),none,0⟩,
 ⟨(some 27),.call 72 true [(.tmp 26)],none,0⟩,
 ⟨(some 28),.bin .rem (.tmp 25) (.tmp 27),none,0⟩,
 ⟨(some 29),.bin .add (.tmp 24) (.tmp 28),none,0⟩,
 ⟨(some 30),.bslice 1 1 [(.int .i64 0)] [(0,(.tmp 29))],none,0⟩,
 ⟨(some 31),.append 1 8 (.tmp 22) (.tmp 30),none,1⟩,
 ⟨(some 32),.mov (.tmp 1),none,2⟩,
 ⟨(some 33),.load (some 2) (.tmp 7),none,2⟩,
 ⟨(some 34),.call 72 true [(.tmp 33)],none,2⟩,
 ⟨(some 35),.bin .quo (.tmp 32) (.tmp 34),none,2⟩,
 ⟨(some 36),.faddr 0 (.tmp 5),none,2⟩,
 ⟨none,.store none (.tmp 36) (.tmp 31),none,2⟩,
 ⟨(some 1),.mov (.tmp 35),none,2⟩])
 (.seq (.region 0 [] [
 ⟨(some 37),.faddr 2 (.tmp 2),none,0⟩,
 ⟨(some 38),.load none (.tmp 37),none,0⟩,
 ⟨(some 39),.mov (.tmp 6),none,0⟩,
 ⟨(some 40),.iaddr 1 (.tmp 38) (.tmp 39),none,0⟩,
 ⟨(some 41),.load none (.tmp 40),none,0⟩,
 ⟨(some 8),.mov (.tmp 41),none,0⟩])
 (.seq (.seq (.region 0 [] [
 ⟨(some 42),.mov (.tmp 8),none,0⟩,
 ⟨(some 43),.bin .eql (.tmp 42) (.cst (.c (.int .i64 2))),none,0⟩])
 (.cond (.tmp 43)
 (.region 0 [] [
 ⟨(some 44),.mov (.tmp 1),none,0⟩,
 ⟨(some 45),.bin .rem (.tmp 44) (.cst (.c (.int .i64 2))),none,0⟩,
 ⟨(some 46),.mov (.tmp 1),none,0⟩,
 ⟨(some 47),.bin .quo (.tmp 46) (.cst (.c (.int .i64 2))),none,0⟩,
 ⟨(some 8),.mov (.tmp 45),none,0⟩,
 ⟨(some 1),.mov (.tmp 47),none,0⟩])
 .skip))
 (.region 2 [] [
 ⟨(some 48),.faddr 1 (.tmp 5),none,0⟩,
 ⟨(some 49),.load none (.tmp 48),none,0⟩,
 ⟨(some 50),.mov (.tmp 8),none,0⟩,
 ⟨(some 51),.bslice 1 1 [(.int .i64 0)] [(0,(.tmp 50))],none,0⟩,
 ⟨(some 52),.append 1 8 (.tmp 49) (.tmp 51),none,1⟩,
 ⟨(some 53),.faddr 1 (.tmp 5),none,2⟩,
 ⟨none,.store none (.tmp 53) (.tmp 52),none,2⟩]))))))
 (.region 0 [] [
 ⟨(some 14),.mov (.tmp 6),none,0⟩,
 ⟨(some 15),.bin .add (.tmp 14) (.cst (.c (.int .i64 1))),none,0⟩,
 ⟨(some 6),.mov (.tmp 15),none,0⟩]))))))
 (.seq (.region 0 [] [
 ⟨(some 54),.load (some 2) (.tmp 5),none,0⟩,
 ⟨none,.store (some 2) (.tmp 4) (.tmp 54),none,0⟩])
 .ret))))⟩
def f28 : AFunc:=⟨29,[.tmp 2],false,
 (.seq (.region 1 [] [
 ⟨(some 1),.box (.tmp 0),none,0⟩,
 ⟨(some 2),.mov (.cst (.c (.int .i64 0))),none,1⟩])
 (.seq (.region 0 [] [
 ⟨(some 3),.mov (.cst (.c (.int .i64 1))),none,0⟩])
 (.seq (.seq (.region 0 [] [
 ⟨(some 4),.mov (.cst (.c (.int .i64 0))),none,0⟩])
 (.block 0 (.loop ⟨[5,6,7,8,9,10,11,12,13,14,15,16,17,18,19,20,21,22,23,24,25,26,27],false,[]⟩
 (.seq (.seq (.region 0 [] [
 ⟨(some 5),.mov (.tmp 4),none,0⟩,
 ⟨(some 6),.faddr 1 (.tmp 1),none,0⟩,
 ⟨(some 7),.load none (.tmp 6),none,0⟩,
 ⟨(some 8),.len (.tmp 7),none,0⟩,
 ⟨(some 9),.bin .lss (.tmp 5) (.tmp 8),none,0⟩])
 (.cond (.tmp 9)
 .skip
 (.exit 0)))
 (.seq (.block 1 (.region 0 [(0,1),(0,2),(0,3),(1,3),(2,3),(0,4),(0,5),(0,6),(0,8),(1,8),(2,8),(3,8),(4,8),(5,8),(6,8),(7,8),(0,9),(1,9),(2,9),(3,9),(4,9),(5,9),(6,9),(7,9),(0,10),(1,10),(2,10),(3,10),(4,10),(5,10),(6,10),(7,10),(8,10),(9,10),(0,11),(1,11),(2,11),(3,11),(4,11),(5,11),(6,11),(7,11),(0,12),(1,12),(2,12),(3,12),(4,12),(5,12),(6,12),(7,12),(0,13),(7,13)] [
 ⟨(some 12),.mov (.tmp 3),none,0⟩,
 ⟨(some 13),.faddr 1 (.tmp 1),none,0⟩,
 ⟨(some 14),.load none (.tmp 13),none,0⟩,
 ⟨(some 15),.mov (.tmp 4),none,0⟩,
 ⟨(some 16),.iaddr 2 (.tmp 14) (.tmp 15),none,0⟩,
 ⟨(some 17),.load (some 2) (.tmp 16),none,0⟩,
 ⟨(some 18),.call 72 true [(.tmp 17)],none,0⟩,
 ⟨(some 19),.bin .mul (.tmp 12) (.tmp 18),none,0⟩,
 ⟨(some 20),.faddr 2 (.tmp 1),none,0⟩,
 ⟨(some 21),.load none (.tmp 20),none,0⟩,
 ⟨(some 22),.mov (.tmp 4),none,0⟩,
 ⟨(some 23),.iaddr 1 (.tmp 21) (.tmp 22),none,0⟩,
 ⟨(some 24),.load none (.tmp 23),none,0⟩,
 ⟨(some 25),.call 73 true [(.tmp 24)],none,0⟩,
 ⟨(some 26),.bin .mul (.tmp 19) (.tmp 25),none,0⟩,
 ⟨(some 27),.mm false (.cst (.c (.int .i64 3000))) (.tmp 26),none,0⟩,
 ⟨(some 3),.mov (.tmp 27),none,0⟩]))
 (.region 0 [] [
 ⟨(some 10),.mov (.tmp 4),none,0⟩,
 ⟨(some 11),.bin .add (.tmp 10) (.cst (.c (.int .i64 1))),none,0⟩,
 ⟨(some 4),.mov (.tmp 11),none,0⟩]))))))
 (.seq (.region 0 [] [
 ⟨(some 28),.mov (.tmp 3),none,0⟩,
 ⟨(some 2),.mov (.tmp 28),none,0⟩])
 .ret))))⟩
def f29 : AFunc:=⟨23,[.tmp 4],false,
 (.seq (.region 1 [] [
 ⟨(some 2),.box (.tmp 0),none,0⟩,
 ⟨(some 4),.mov (.cst (.c .nils)),none,1⟩])
 (.seq (.region 0 [] [
 ⟨(some 6),.mov (.tmp 1),none,0⟩,
 ⟨(some 7),.conv .i64 (.tmp 6),none,0⟩,
 ⟨(some 8),.faddr 0 (.tmp 2),none,0⟩,
 ⟨(some 9),.load none (.tmp 8),none,0⟩,
 ⟨(some 10),.conv .u64 (.tmp 9),none,0⟩,
 ⟨(some 11),.bin .shl (.cst (.c (.int .i64 2))) (.tmp 10),none,0⟩,
 ⟨(some 12),.bin .sub (.tmp 11) (.cst (.c (.int .i64 1))),none,0⟩,
 ⟨(some 13),.bin .and (.tmp 7) (.tmp 12),none,0⟩,
 ⟨(some 14),.call 39 true [(.tmp 13)],none,0⟩,
 ⟨(some 5),.mov (.tmp 14),none,0⟩])
 (.seq (.region 0 [] [
 ⟨(some 15),.mov (.tmp 5),none,0⟩,
 ⟨(some 16),.mov (.tmp 5),none,0⟩,
 ⟨(some 17),.len (.tmp 16),none,0⟩,
 ⟨(some 18),.faddr 3 (.tmp 2),none,0⟩,
 ⟨(some 19),.load none (.tmp 18),none,0⟩,
 ⟨(some 20),.len (.tmp 19),none,0⟩,
 ⟨(some 21),.mm false (.tmp 17) (.tmp 20),none,0⟩,
 ⟨(some 22),.slice 1 (.tmp 15) none (some (.tmp 21)),none,0⟩,
 ⟨(some 4),.mov (.tmp 22),none,0⟩])
 .ret)))⟩
def f30 : AFunc:=⟨29,[.tmp 2,.tmp 3],false,
 (.seq (.region 1 [] [
 ⟨(some 1),.box (.tmp 0),none,0⟩,
 ⟨(some 2),.mov (.cst (.c .nils)),none,1⟩,
 ⟨(some 3),.mov (.cst (.c (.int .i64 0))),none,1⟩])
 (.seq (.seq (.region 0 [] [
 ⟨(some 9),.load (some 9) (.tmp 1),none,0⟩,
 ⟨(some 10),.call 20 true [(.tmp 9)],none,0⟩,
 ⟨(some 4),.mov (.tmp 10),none,0⟩])
 (.seq (.region 0 [] [
 ⟨(some 11),.mov (.tmp 4),none,0⟩,
 ⟨(some 12),.bin .neq (.tmp 11) (.cst (.c (.int .i64 0))),none,0⟩])
 (.cond (.tmp 12)
 (.seq (.region 0 [] [
 ⟨(some 13),.mov (.tmp 4),none,0⟩,
 ⟨(some 2),.mov (.cst (.c .nils)),none,0⟩,
 ⟨(some 3),.mov (.tmp 13),none,0⟩])
 .ret)
 .skip)))
 (.seq (.region 1 [] [
 ⟨(some 14),.load (some 9) (.tmp 1),none,0⟩,
 ⟨(some 15),.call 51 false [(.tmp 14)],none,0⟩,
 ⟨(some 5),.alloc [.nilp],none,0⟩,
 ⟨none,.store none (.tmp 5) (.tmp 15),none,1⟩])
 (.seq (.region 1 [] [
 ⟨(some 6),.alloc [.nils],none,0⟩])
 (.seq (.region 1 [] [
 ⟨(some 7),.alloc [.nilfn],none,0⟩])
 (.seq (.region 0 [] [
 ⟨(some 16),.mkfn 74 none [(.tmp 6),(.tmp 5),(.tmp 1),(.tmp 7)],none,0⟩,
 ⟨none,.store none (.tmp 7) (.tmp 16),none,0⟩])
 (.seq .skip
 (.seq (.seq (.region 0 [] [
 ⟨(some 17),.faddr 8 (.tmp 1),none,0⟩,
 ⟨(some 18),.load none (.tmp 17),none,0⟩,
 ⟨(some 19),.len (.tmp 18),none,0⟩,
 ⟨(some 20),.bin .add (.tmp 19) (.cst (.c (.int .i64 1))),none,0⟩,
 ⟨(some 21),.mov (.cst (.c (.int .i64 0))),none,0⟩])
 (.block 0 (.loop ⟨[8,22,23,24,25,26,27],false,[]⟩
 (.seq (.region 0 [] [
 ⟨(some 22),.bin .lss (.tmp 21) (.tmp 20),none,0⟩])
 (.seq (.cond (.tmp 22)
 .skip
 (.exit 0))
 (.seq (.block 1 (.seq (.region 0 [] [
 ⟨(some 23),.mov (.tmp 21),none,0⟩,
 ⟨(some 8),.mov (.tmp 23),none,0⟩])
 (.seq (.region 0 [] [
 ⟨(some 24),.load none (.tmp 7),none,0⟩,
 ⟨(some 25),.mov (.tmp 8),none,0⟩,
 ⟨(some 26),.callv (.tmp 24) [(.cst (.c .nils)),(.cst (.c (.int .i64 0))),(.tmp 25)],none,0⟩])
 (.cond (.tmp 26)
 (.exit 0)
 .skip))))
 (.region 0 [] [
 ⟨(some 27),.bin .add (.tmp 21) (.cst (.c (.int .i64 1))),none,0⟩,
 ⟨(some 21),.mov (.tmp 27),none,0⟩])))))))
 (.seq (.region 0 [] [
 ⟨(some 28),.load none (.tmp 6),none,0⟩,
 ⟨(some 2),.mov (.tmp 28),none,0⟩,
 ⟨(some 3),.mov (.cst (.c (.int .i64 0))),none,0⟩])
 .ret)))))))))⟩
def f31 : AFunc:=⟨21,[.cell 4 (some 2),.tmp 5],false,
 (.seq (.region 3 [] [
 ⟨(some 2),.box (.tmp 0),none,0⟩,
 ⟨(some 3),.box (.tmp 1),none,1⟩,
 ⟨(some 4),.alloc [(.int .i64 0),(.int .i64 0)],none,2⟩,
 ⟨(some 5),.mov (.cst (.c (.int .i64 0))),none,3⟩])
 (.seq (.region 1 [] [
 ⟨(some 9),.load (some 9) (.tmp 2),none,0⟩,
 ⟨(some 10),.load none (.tmp 3),none,0⟩,
 ⟨(some 11),.call 77 false [(.tmp 9),(.tmp 10)],none,0⟩,
 ⟨(some 8),.mov (.tmp 11),none,0⟩,
 ⟨(some 12),.extract 0 (.tmp 8),none,0⟩,
 ⟨(some 13),.extract 1 (.tmp 8),none,0⟩,
 ⟨(some 6),.alloc [.nilp],none,0⟩,
 ⟨none,.store none (.tmp 6) (.tmp 12),none,1⟩,
 ⟨(some 7),.mov (.tmp 13),none,1⟩])
 (.seq (.seq (.region 0 [] [
 ⟨(some 14),.mov (.tmp 7),none,0⟩,
 ⟨(some 15),.bin .neq (.tmp 14) (.cst (.c (.int .i64 0))),none,0⟩])
 (.cond (.tmp 15)
 (.seq (.region 0 [] [
 ⟨(some 16),.build [(.int .i64 0),(.int .i64 0)] [],none,0⟩,
 ⟨(some 17),.mov (.tmp 7),none,0⟩,
 ⟨none,.store (some 2) (.tmp 4) (.tmp 16),none,0⟩,
 ⟨(some 5),.mov (.tmp 17),none,0⟩])
 .ret)
 .skip))
 (.seq (.region 0 [] [
 ⟨(some 18),.load none (.tmp 6),none,0⟩,
 ⟨(some 19),.mkfn 79 none [(.tmp 6),(.tmp 3)],none,0⟩,
 ⟨(some 20),.call 78 false [(.tmp 18),(.tmp 19)],none,0⟩,
 ⟨none,.store (some 2) (.tmp 4) (.tmp 20),none,0⟩,
 ⟨(some 5),.mov (.cst (.c (.int .i64 0))),none,0⟩])
 .ret))))⟩
def f32 : AFunc:=⟨35,[.cell 2 none,.cell 3 none,.tmp 4],false,
 (.seq (.region 3 [] [
 ⟨(some 1),.box (.tmp 0),none,0⟩,
 ⟨(some 2),.alloc [.nils],none,1⟩,
 ⟨(some 3),.alloc [(.int .i64 0)],none,2⟩,
 ⟨(some 4),.mov (.cst (.c (.int .i64 0))),none,3⟩])
 (.seq (.region 1 [] [
 ⟨(some 10),.load (some 9) (.tmp 1),none,0⟩,
 ⟨(some 11),.call 77 false [(.tmp 10),(.cst (.c .nils))],none,0⟩,
 ⟨(some 9),.mov (.tmp 11),none,0⟩,
 ⟨(some 12),.extract 0 (.tmp 9),none,0⟩,
 ⟨(some 13),.extract 1 (.tmp 9),none,0⟩,
 ⟨(some 5),.alloc [.nilp],none,0⟩,
 ⟨none,.store none (.tmp 5) (.tmp 12),none,1⟩,
 ⟨(some 4),.mov (.tmp 13),none,1⟩])
 (.seq (.seq (.region 0 [] [
 ⟨(some 14),.mov (.tmp 4),none,0⟩,
 ⟨(some 15),.bin .neq (.tmp 14) (.cst (.c (.int .i64 0))),none,0⟩])
 (.cond (.tmp 15)
 (.seq (.region 0 [] [
 ⟨(some 16),.mov (.tmp 4),none,0⟩,
 ⟨none,.store none (.tmp 2) (.cst (.c .nils)),none,0⟩,
 ⟨none,.store none (.tmp 3) (.cst (.c (.int .i64 0))),none,0⟩,
 ⟨(some 4),.mov (.tmp 16),none,0⟩])
 .ret)
 .skip))
 (.seq (.region 1 [] [
 ⟨(some 6),.alloc [.nils],none,0⟩])
 (.seq (.seq (.region 0 [] [
 ⟨(some 17),.load none (.tmp 5),none,0⟩,
 ⟨(some 18),.call 81 false [(.tmp 17),(.cst (.c .nils))],none,0⟩])
 (.block 0 (.range (.tmp 18) [19]
 (.region 1 [] [
 ⟨(some 7),.alloc [.nils,.nils],none,0⟩,
 ⟨none,.store (some 2) (.tmp 7) (.tmp 19),none,1⟩])
 (.block 1 (.region 4 [(0,1),(0,2),(0,3),(0,4),(1,4),(2,4),(3,4),(0,5),(1,5),(2,5),(3,5),(0,6),(0,7),(0,8)] [
 ⟨(some 20),.load none (.tmp 6),none,0⟩,
 ⟨(some 21),.faddr 0 (.tmp 7),none,0⟩,
 ⟨(some 22),.load none (.tmp 21),none,0⟩,
 ⟨(some 23),.clone 76 1 8 (.tmp 22),none,0⟩,
 ⟨(some 24),.faddr 1 (.tmp 7),none,1⟩,
 ⟨(some 25),.load none (.tmp 24),none,1⟩,
 ⟨(some 26),.clone 76 1 8 (.tmp 25),none,1⟩,
 ⟨(some 27),.build [.nils,.nils] [(0,1,(.tmp 23)),(1,1,(.tmp 26))],none,2⟩,
 ⟨(some 28),.bslice 2 1 [.nils,.nils] [(0,(.tmp 27))],none,2⟩,
 ⟨(some 29),.append 2 48 (.tmp 20) (.tmp 28),none,3⟩,
 ⟨none,.store none (.tmp 6) (.tmp 29),none,4⟩])))))
 (.seq (.region 1 [] [
 ⟨(some 8),.alloc [.nilfn],none,0⟩])
 (.seq (.region 0 [] [
 ⟨(some 30),.mkfn 82 none [(.tmp 5),(.tmp 6),(.tmp 3),(.tmp 2),(.tmp 1),(.tmp 8)],none,0⟩,
 ⟨none,.store none (.tmp 8) (.tmp 30),none,0⟩])
 (.seq (.region 0 [] [
 ⟨(some 31),.load none (.tmp 8),none,0⟩,
 ⟨(some 32),.callv (.tmp 31) [(.cst (.c .nils)),(.cst (.c (.int .i64 0)))],none,0⟩])
 (.seq (.region 0 [(0,1),(1,2)] [
 ⟨(some 33),.load none (.tmp 2),none,0⟩,
 ⟨(some 34),.load none (.tmp 3),none,0⟩,
 ⟨none,.store none (.tmp 2) (.tmp 33),none,0⟩,
 ⟨none,.store none (.tmp 3) (.tmp 34),none,0⟩,
 ⟨(some 4),.mov (.cst (.c (.int .i64 0))),none,0⟩])
 .ret)))))))))⟩
def f34 : AFunc:=⟨34,[.tmp 2,.tmp 3],false,
 (.seq (.region 1 [] [
 ⟨(some 1),.box (.tmp 0),none,0⟩,
 ⟨(some 2),.mov (.cst (.c (.int .i64 0))),none,1⟩,
 ⟨(some 3),.mov (.cst (.c (.int .i64 0))),none,1⟩])
 (.seq (.seq (.region 0 [] [
 ⟨(some 7),.load (some 9) (.tmp 1),none,0⟩,
 ⟨(some 8),.call 20 true [(.tmp 7)],none,0⟩,
 ⟨(some 4),.mov (.tmp 8),none,0⟩])
 (.seq (.region 0 [] [
 ⟨(some 9),.mov (.tmp 4),none,0⟩,
 ⟨(some 10),.bin .neq (.tmp 9) (.cst (.c (.int .i64 0))),none,0⟩])
 (.cond (.tmp 10)
 (.seq (.region 0 [] [
 ⟨(some 11),.mov (.tmp 4),none,0⟩,
 ⟨(some 2),.mov (.cst (.c (.int .i64 0))),none,0⟩,
 ⟨(some 3),.mov (.tmp 11),none,0⟩])
 .ret)
 .skip)))
 (.seq (.region 0 [] [
 ⟨(some 12),.load (some 9) (.tmp 1),none,0⟩,
 ⟨(some 13),.call 51 false [(.tmp 12)],none,0⟩,
 ⟨(some 5),.mov (.tmp 13),none,0⟩])
 (.seq (.seq (.region 0 [] [
 ⟨(some 14),.faddr 8 (.tmp 1),none,0⟩,
 ⟨(some 15),.load none (.tmp 14),none,0⟩,
 ⟨(some 16),.len (.tmp 15),none,0⟩,
 ⟨(some 17),.mov (.cst (.c (.int .i64 0))),none,0⟩])
 (.block 0 (.loop ⟨[2,3,6,18,19,20,21,22,23,24,25,26,27,28,29,30,31,32,33],false,[]⟩
 (.seq (.region 0 [] [
 ⟨(some 18),.bin .lss (.tmp 17) (.tmp 16),none,0⟩])
 (.seq (.cond (.tmp 18)
 .skip
 (.exit 0))
 (.seq (.block 1 (.seq (.region 0 [] [
 ⟨(some 19),.mov (.tmp 17),none,0⟩,
 ⟨(some 6),.mov (.tmp 19),none,0⟩])
 (.seq (.region 0 [] [
 ⟨(some 20),.mov (.tmp 5),none,0⟩,
 ⟨(some 21),.faddr 8 (.tmp 1),none,0⟩,
 ⟨(some 22),.load none (.tmp 21),none,0⟩,
 ⟨(some 23),.mov (.tmp 6),none,0⟩,
 ⟨(some 24),.bin .add (.tmp 23) (.cst (.c (.int .i64 1))),none,0⟩,
 ⟨(some 25),.slice 3 (.tmp 22) none (some (.tmp 24)),none,0⟩,
 ⟨(some 26),.nilchk (.tmp 20),none,0⟩,
 ⟨(some 27),.faddr 0 (.tmp 26),none,0⟩,
 ⟨(some 28),.faddr 8 (.tmp 27),none,0⟩,
 ⟨none,.store none (.tmp 28) (.tmp 25),none,0⟩])
 (.seq (.region 0 [] [
 ⟨(some 29),.mov (.tmp 5),none,0⟩,
 ⟨(some 30),.call 75 false [(.tmp 29),(.cst (.c .nils))],none,0⟩,
 ⟨(some 31),.not (.tmp 30),none,0⟩])
 (.cond (.tmp 31)
 (.seq (.region 0 [] [
 ⟨(some 32),.mov (.tmp 6),none,0⟩,
 ⟨(some 2),.mov (.tmp 32),none,0⟩,
 ⟨(some 3),.mov (.cst (.c (.int .i64 0))),none,0⟩])
 .ret)
 .skip)))))
 (.region 0 [] [
 ⟨(some 33),.bin .add (.tmp 17) (.cst (.c (.int .i64 1))),none,0⟩,
 ⟨(some 17),.mov (.tmp 33),none,0⟩])))))))
 (.seq (.region 0 [] [
 ⟨(some 2),.mov (.cst (.c (.int .i64 0))),none,0⟩,
 ⟨(some 3),.mov (.cst (.c (.int .i64 7))),none,0⟩])
 .ret)))))⟩
def f35 : AFunc:=⟨15,[.tmp 6],false,
 (.seq (.region 0 [] [
 ⟨(some 6),.mov (.cst (.c (.bool false))),none,0⟩])
 (.seq (.region 0 [] [
 ⟨(some 7),.mov (.tmp 0),none,0⟩,
 ⟨(some 8),.mov (.tmp 1),none,0⟩,
 ⟨(some 9),.bin .geq (.tmp 7) (.tmp 8),none,0⟩,
 ⟨(some 10),.mov (.tmp 9),none,0⟩,
 ⟨(some 11),.mov (.tmp 0),some (10,true),0⟩,
 ⟨(some 12),.mov (.tmp 2),some (10,true),0⟩,
 ⟨(some 13),.bin .leq (.tmp 11) (.tmp 12),some (10,true),0⟩,
 ⟨(some 14),.pick (.tmp 10) (.tmp 13) (.cst (.c (.bool false))),none,0⟩,
 ⟨(some 6),.mov (.tmp 14),none,0⟩])
 .ret))⟩
def f39 : AFunc:=⟨23,[.tmp 2],false,
 (.seq (.region 0 [] [
 ⟨(some 2),.mov (.cst (.c .nils)),none,0⟩])
 (.seq (.region 0 [] [
 ⟨(some 3),.mov (.cst (.c .nils)),none,0⟩])
 (.seq (.seq (.region 0 [] [
 ⟨(some 4),.mov (.cst (.c (.int .i64 0))),none,0⟩])
 (.block 0 (.loop ⟨[5,6,7,8,9,10,11,12,13,14,15,16,17,18,19,20,21],true,[(3,none,1)]⟩
 (.seq (.seq (.region 0 [] [
 ⟨(some 5),.mov (.tmp 0),none,0⟩,
 ⟨(some 6),.mov (.tmp 4),none,0⟩,
 ⟨(some 7),.conv .u64 (.tmp 6),none,0⟩,
 ⟨(some 8),.bin .shr (.tmp 5) (.tmp 7),none,0⟩,
 ⟨(some 9),.bin .gtr (.tmp 8) (.cst (.c (.int .i64 0))),none,0⟩])
 (.cond (.tmp 9)
 .skip
 (.exit 0)))
 (.seq (.block 1 (.seq (.region 0 [] [
 ⟨(some 12),.mov (.tmp 0),none,0⟩,
 ⟨(some 13),.mov (.tmp 4),none,0⟩,
 ⟨(some 14),.conv .u64 (.tmp 13),none,0⟩,
 ⟨(some 15),.bin .shr (.tmp 12) (.tmp 14),none,0⟩,
 ⟨(some 16),.bin .rem (.tmp 15) (.cst (.c (.int .i64 2))),none,0⟩,
 ⟨(some 17),.bin .eql (.tmp 16) (.cst (.c (.int .i64 1))),none,0⟩])
 (.cond (.tmp 17)
 (.region 2 [] [
 ⟨(some 18),.mov (.tmp 3),none,0⟩,
 ⟨(some 19),.mov (.tmp 4),none,0⟩,
 ⟨(some 20),.bslice 1 1 [(.int .i64 0)] [(0,(.tmp 19))],none,0⟩,
 ⟨(some 21),.append 1 8 (.tmp 18) (.tmp 20),none,1⟩,
 ⟨(some 3),.mov (.tmp 21),none,2⟩])
 .skip)))
 (.region 0 [] [
 ⟨(some 10),.mov (.tmp 4),none,0⟩,
 ⟨(some 11),.bin .add (.tmp 10) (.cst (.c (.int .i64 1))),none,0⟩,
 ⟨(some 4),.mov (.tmp 11),none,0⟩]))))))
 (.seq (.region 0 [] [
 ⟨(some 22),.mov (.tmp 3),none,0⟩,
 ⟨(some 2),.mov (.tmp 22),none,0⟩])
 .ret))))⟩
def f40 : AFunc:=⟨4,[.cell 0 (some 2)],false,
 (.seq (.region 1 [] [
 ⟨(some 0),.alloc [.nils,.nils],none,0⟩])
 (.seq (.region 2 [] [
 ⟨(some 1),.bslice 1 5 [(.int .i64 0)] [(0,(.cst (.c (.int .i64 10)))),(1,(.cst (.c (.int .i64 8)))),(2,(.cst (.c (.int .i64 6)))),(3,(.cst (.c (.int .i64 4)))),(4,(.cst (.c (.int .i64 2))))],none,0⟩,
 ⟨(some 2),.bslice 1 5 [(.int .i64 0)] [(0,(.cst (.c (.int .i64 0)))),(1,(.cst (.c (.int .i64 0)))),(2,(.cst (.c (.int .i64 0)))),(3,(.cst (.c (.int .i64 1)))),(4,(.cst (.c (.int .i64 0))))],none,1⟩,
 ⟨(some 3),.build [.nils,.nils] [(0,1,(.tmp 1)),(1,1,(.tmp 2))],none,2⟩,
 ⟨none,.store (some 2) (.tmp 0) (.tmp 3),none,2⟩])
 .ret))⟩
def f41 : AFunc:=⟨21,[.cell 2 (some 9)],false,
 (.seq (.region 1 [] [
 ⟨(some 2),.alloc [(.int .i64 0),.nils,.nils,.nils,.nils,(.int .i64 0),(.int .i64 0),(.int .i64 0),.nils],none,0⟩])
 (.seq (.region 1 [] [
 ⟨(some 4),.call 43 true [(.cst (.c (.int .i64 25))),(.cst (.c (.int .i64 25)))],none,0⟩,
 ⟨(some 5),.build [(.int .i64 0),(.int .i64 0),(.int .i64 0)] [(0,1,(.cst (.c (.int .i64 2)))),(1,2,(.tmp 4))],none,0⟩,
 ⟨(some 6),.call 43 true [(.cst (.c (.int .i64 18))),(.cst (.c (.int .i64 18)))],none,0⟩,
 ⟨(some 7),.build [(.int .i64 0),(.int .i64 0),(.int .i64 0)] [(0,1,(.cst (.c (.int .i64 1)))),(1,2,(.tmp 6))],none,0⟩,
 ⟨(some 8),.bslice 3 2 [(.int .i64 0),(.int .i64 0),(.int .i64 0)] [(0,(.tmp 5)),(1,(.tmp 7))],none,0⟩,
 ⟨(some 3),.mov (.tmp 8),none,1⟩])
 (.seq (.region 3 [(0,6),(1,6),(2,6),(3,6),(4,6),(5,6),(0,7),(1,7),(2,7),(3,7),(4,7),(5,7),(6,7),(0,8),(1,8),(2,8),(3,8),(4,8),(5,8),(6,8),(7,8),(0,9),(1,9),(2,9),(3,9),(4,9),(5,9),(6,9),(7,9),(8,9),(0,10),(1,10),(2,10),(3,10),(4,10),(5,10),(6,10),(7,10)] [
 ⟨(some 9),.call 43 true [(.cst (.c (.int .i64 10))),(.cst (.c (.int .i64 12)))],none,0⟩,
 ⟨(some 10),.call 43 true [(.cst (.c (.int .i64 8))),(.cst (.c (.int .i64 8)))],none,0⟩,
 ⟨(some 11),.call 43 true [(.cst (.c (.int .i64 6))),(.cst (.c (.int .i64 6)))],none,0⟩,
 ⟨(some 12),.call 43 true [(.cst (.c (.int .i64 4))),(.cst (.c (.int .i64 5)))],none,0⟩,
 ⟨(some 13),.call 43 true [(.cst (.c (.int .i64 2))),(.cst (.c (.int .i64 2)))],none,0⟩,
 ⟨(some 14),.bslice 2 5 [(.int .i64 0),(.int .i64 0)] [(0,(.tmp 9)),(1,(.tmp 10)),(2,(.tmp 11)),(3,(.tmp 12)),(4,(.tmp 13))],none,0⟩,
 ⟨(some 15),.bslice 1 5 [(.int .i64 0)] [(0,(.cst (.c (.int .i64 0)))),(1,(.cst (.c (.int .i64 2)))),(2,(.cst (.c (.int .i64 0)))),(3,(.cst (.c (.int .i64 1)))),(4,(.cst (.c (.int .i64 0))))],none,1⟩,
 ⟨(some 16),.bslice 1 2 [(.int .i64 0)] [(0,(.cst (.c (.int .i64 20)))),(1,(.cst (.c (.int .i64 15))))],none,2⟩,
 ⟨(some 17),.mov (.tmp 3),none,3⟩,
 ⟨(some 18),.mov (.tmp 0),none,3⟩,
 ⟨(some 19),.slice 3 (.tmp 17) none (some (.tmp 18)),none,3⟩,
 ⟨(some 20),.build [(.int .i64 0),.nils,.nils,.nils,.nils,(.int .i64 0),(.int .i64 0),(.int .i64 0),.nils] [(0,1,(.cst (.c (.int .i64 4)))),(1,1,(.tmp 14)),(2,1,(.tmp 15)),(3,1,(.tmp 16)),(5,1,(.cst (.c (.int .i64 2)))),(6,1,(.cst (.c (.int .i64 4)))),(7,1,(.cst (.c (.int .i64 50)))),(8,1,(.tmp 19))],none,3⟩,
 ⟨none,.store (some 9) (.tmp 2) (.tmp 20),none,3⟩])
 .ret)))⟩
def f42 : AFunc:=⟨21,[.cell 4 (some 2),.tmp 5],false,
 (.seq (.region 3 [] [
 ⟨(some 2),.box (.tmp 0),none,0⟩,
 ⟨(some 3),.box (.tmp 1),none,1⟩,
 ⟨(some 4),.alloc [(.int .i64 0),(.int .i64 0)],none,2⟩,
 ⟨(some 5),.mov (.cst (.c (.int .i64 0))),none,3⟩])
 (.seq (.region 1 [] [
 ⟨(some 9),.load (some 9) (.tmp 2),none,0⟩,
 ⟨(some 10),.mkfn 86 none [(.tmp 3)],none,0⟩,
 ⟨(some 11),.call 85 false [(.tmp 9),(.tmp 10)],none,0⟩,
 ⟨(some 8),.mov (.tmp 11),none,0⟩,
 ⟨(some 12),.extract 0 (.tmp 8),none,0⟩,
 ⟨(some 13),.extract 1 (.tmp 8),none,0⟩,
 ⟨(some 6),.alloc [.nilp],none,0⟩,
 ⟨none,.store none (.tmp 6) (.tmp 12),none,1⟩,
 ⟨(some 7),.mov (.tmp 13),none,1⟩])
 (.seq (.seq (.region 0 [] [
 ⟨(some 14),.mov (.tmp 7),none,0⟩,
 ⟨(some 15),.bin .neq (.tmp 14) (.cst (.c (.int .i64 0))),none,0⟩])
 (.cond (.tmp 15)
 (.seq (.region 0 [] [
 ⟨(some 16),.build [(.int .i64 0),(.int .i64 0)] [],none,0⟩,
 ⟨(some 17),.mov (.tmp 7),none,0⟩,
 ⟨none,.store (some 2) (.tmp 4) (.tmp 16),none,0⟩,
 ⟨(some 5),.mov (.tmp 17),none,0⟩])
 .ret)
 .skip))
 (.seq (.region 0 [] [
 ⟨(some 18),.load none (.tmp 6),none,0⟩,
 ⟨(some 19),.mkfn 88 none [(.tmp 6),(.tmp 3)],none,0⟩,
 ⟨(some 20),.call 78 false [(.tmp 18),(.tmp 19)],none,0⟩,
 ⟨none,.store (some 2) (.tmp 4) (.tmp 20),none,0⟩,
 ⟨(some 5),.mov (.cst (.c (.int .i64 0))),none,0⟩])
 .ret))))⟩
def f43 : AFunc:=⟨8,[.cell 4 (some 2)],false,
 (.seq (.region 1 [] [
 ⟨(some 4),.alloc [(.int .i64 0),(.int .i64 0)],none,0⟩])
 (.seq (.region 0 [] [
 ⟨(some 5),.mov (.tmp 0),none,0⟩,
 ⟨(some 6),.mov (.tmp 1),none,0⟩,
 ⟨(some 7),.build [(.int .i64 0),(.int .i64 0)] [(0,1,(.tmp 5)),(1,1,(.tmp 6))],none,0⟩,
 ⟨none,.store (some 2) (.tmp 4) (.tmp 7),none,0⟩])
 .ret))⟩
def f45 : AFunc:=⟨47,[.tmp 4,.tmp 5],false,
 (.seq (.region 1 [] [
 ⟨(some 2),.box (.tmp 0),none,0⟩,
 ⟨(some 4),.mov (.cst (.c .nils)),none,1⟩,
 ⟨(some 5),.mov (.cst (.c (.int .i64 0))),none,1⟩])
 (.seq (.region 0 [] [
 ⟨(some 11),.load (some 9) (.tmp 2),none,0⟩,
 ⟨(some 12),.mov (.tmp 1),none,0⟩,
 ⟨(some 13),.call 77 false [(.tmp 11),(.tmp 12)],none,0⟩,
 ⟨(some 10),.mov (.tmp 13),none,0⟩,
 ⟨(some 14),.extract 0 (.tmp 10),none,0⟩,
 ⟨(some 15),.extract 1 (.tmp 10),none,0⟩,
 ⟨(some 6),.mov (.tmp 14),none,0⟩,
 ⟨(some 7),.mov (.tmp 15),none,0⟩])
 (.seq (.seq (.region 0 [] [
 ⟨(some 16),.mov (.tmp 7),none,0⟩,
 ⟨(some 17),.bin .neq (.tmp 16) (.cst (.c (.int .i64 0))),none,0⟩])
 (.cond (.tmp 17)
 (.seq (.region 0 [] [
 ⟨(some 18),.mov (.tmp 7),none,0⟩,
 ⟨(some 4),.mov (.cst (.c .nils)),none,0⟩,
 ⟨(some 5),.mov (.tmp 18),none,0⟩])
 .ret)
 .skip))
 (.seq (.region 0 [] [
 ⟨(some 8),.mov (.cst (.c .nils)),none,0⟩])
 (.seq (.seq (.region 0 [] [
 ⟨(some 19),.mov (.tmp 1),none,0⟩,
 ⟨(some 20),.len (.tmp 19),none,0⟩,
 ⟨(some 21),.mov (.cst (.c (.int .i64 0))),none,0⟩])
 (.block 0 (.loop ⟨[9,22,23,24,25,26,27,28,29,30,31,32,33,34,35,36,37,38,39,40,41,42,43,44,45],false,[(8,none,5)]⟩
 (.seq (.region 0 [] [
 ⟨(some 22),.bin .lss (.tmp 21) (.tmp 20),none,0⟩])
 (.seq (.cond (.tmp 22)
 .skip
 (.exit 0))
 (.seq (.block 1 (.seq (.region 0 [] [
 ⟨(some 23),.mov (.tmp 21),none,0⟩,
 ⟨(some 9),.mov (.tmp 23),none,0⟩])
 (.region 2 [(0,1),(0,2),(1,2),(0,3),(1,3),(2,3),(0,4),(1,4),(2,4),(3,4),(0,5),(0,6),(1,6),(2,6),(3,6),(4,6),(5,6),(0,7),(1,7),(2,7),(3,7),(4,7),(5,7),(0,8),(1,8),(2,8),(3,8),(4,8),(5,8),(0,9),(1,9),(2,9),(3,9),(4,9),(5,9),(0,10),(1,10),(2,10),(3,10),(4,10),(5,10),(6,10),(7,10),(8,10),(9,10),(0,11),(1,11),(2,11),(3,11),(4,11),(5,11),(6,11),(7,11),(8,11),(9,11),(10,11),(0,12),(0,13),(1,13),(2,13),(3,13),(4,13),(5,13),(6,13),(7,13),(8,13),(9,13),(10,13),(11,13),(12,13),(0,14),(1,14),(2,14),(3,14),(4,14),(5,14),(6,14),(7,14),(8,14),(9,14),(10,14),(11,14),(12,14),(13,14),(0,15),(1,15),(2,15),(3,15),(4,15),(5,15),(6,15),(7,15),(8,15),(9,15),(10,15),(11,15),(12,15),(13,15),(14,15),(0,16),(1,16),(2,16),(3,16),(4,16),(5,16),(6,16),(7,16),(8,16),(9,16),(10,16),(11,16),(12,16),(13,16),(14,16),(15,16),(0,17),(0,18),(0,19)] [
 ⟨(some 24),.mov (.tmp 8),none,0⟩,
 ⟨(some 25),.build [.nilfn] [(0,1,(.cst (.c (.fn 89 false [] []))))],none,0⟩,
 ⟨(some 26),.mov (.tmp 6),none,0⟩,
 ⟨(some 27),.mov (.tmp 1),none,0⟩,
 ⟨(some 28),.mov (.tmp 9),none,0⟩,
 ⟨(some 29),.call 90 false [(.tmp 25),(.tmp 26),(.tmp 27),(.tmp 28)],none,0⟩,
 ⟨(some 30),.mov (.tmp 6),none,0⟩,
 ⟨(some 31),.nilchk (.tmp 30),none,0⟩,
 ⟨(some 32),.faddr 0 (.tmp 31),none,0⟩,
 ⟨(some 33),.load (some 9) (.tmp 32),none,0⟩,
 ⟨(some 34),.mov (.tmp 1),none,0⟩,
 ⟨(some 35),.mov (.tmp 9),none,0⟩,
 ⟨(some 36),.call 91 true [(.tmp 33),(.tmp 34),(.tmp 35)],none,0⟩,
 ⟨(some 37),.build [.nilfn] [(0,1,(.cst (.c (.fn 92 false [] []))))],none,0⟩,
 ⟨(some 38),.mov (.tmp 6),none,0⟩,
 ⟨(some 39),.mov (.tmp 1),none,0⟩,
 ⟨(some 40),.mov (.tmp 9),none,0⟩,
 ⟨(some 41),.call 90 false [(.tmp 37),(.tmp 38),(.tmp 39),(.tmp 40)],none,0⟩,
 ⟨(some 42),.build [(.int .i64 0),(.int .i64 0),(.int .i64 0),(.int .i64 0),(.int .i64 0)] [(0,2,(.tmp 29)),(2,1,(.tmp 36)),(3,2,(.tmp 41))],none,0⟩,
 ⟨(some 43),.bslice 5 1 [(.int .i64 0),(.int .i64 0),(.int .i64 0),(.int .i64 0),(.int .i64 0)] [(0,(.tmp 42))],none,0⟩,
 ⟨(some 44),.append 5 40 (.tmp 24) (.tmp 43),none,1⟩,
 ⟨(some 8),.mov (.tmp 44),none,2⟩])))
 (.region 0 [] [
 ⟨(some 45),.bin .add (.tmp 21) (.cst (.c (.int .i64 1))),none,0⟩,
 ⟨(some 21),.mov (.tmp 45),none,0⟩])))))))
 (.seq (.region 0 [] [
 ⟨(some 46),.mov (.tmp 8),none,0⟩,
 ⟨(some 4),.mov (.tmp 46),none,0⟩,
 ⟨(some 5),.mov (.cst (.c (.int .i64 0))),none,0⟩])
 .ret))))))⟩
def f46 : AFunc:=⟨157,[.tmp 2],false,
 (.seq (.region 1 [] [
 ⟨(some 1),.box (.tmp 0),none,0⟩,
 ⟨(some 2),.mov (.cst (.c (.int .i64 0))),none,1⟩])
 (.seq (.seq (.region 0 [] [
 ⟨(some 6),.faddr 0 (.tmp 1),none,0⟩,
 ⟨(some 7),.load none (.tmp 6),none,0⟩,
 ⟨(some 8),.bin .gtr (.tmp 7) (.cst (.c (.int .i64 9))),none,0⟩,
 ⟨(some 9),.mov (.tmp 8),none,0⟩,
 ⟨(some 10),.faddr 3 (.tmp 1),some (9,false),0⟩,
 ⟨(some 11),.load none (.tmp 10),some (9,false),0⟩,
 ⟨(some 12),.len (.tmp 11),some (9,false),0⟩,
 ⟨(some 13),.bin .gtr (.tmp 12) (.cst (.c (.int .i64 3))),some (9,false),0⟩,
 ⟨(some 14),.pick (.tmp 9) (.cst (.c (.bool true))) (.tmp 13),none,0⟩,
 ⟨(some 15),.mov (.tmp 14),none,0⟩,
 ⟨(some 16),.faddr 8 (.tmp 1),some (15,false),0⟩,
 ⟨(some 17),.load none (.tmp 16),some (15,false),0⟩,
 ⟨(some 18),.len (.tmp 17),some (15,false),0⟩,
 ⟨(some 19),.bin .gtr (.tmp 18) (.cst (.c (.int .i64 5))),some (15,false),0⟩,
 ⟨(some 20),.pick (.tmp 15) (.cst (.c (.bool true))) (.tmp 19),none,0⟩])
 (.cond (.tmp 20)
 (.seq (.region 0 [] [
 ⟨(some 2),.mov (.cst (.c (.int .i64 3))),none,0⟩])
 .ret)
 .skip))
 (.seq (.seq (.region 0 [] [
 ⟨(some 21),.faddr 0 (.tmp 1),none,0⟩,
 ⟨(some 22),.load none (.tmp 21),none,0⟩,
 ⟨(some 23),.bin .lss (.tmp 22) (.cst (.c (.int .i64 0))),none,0⟩,
 ⟨(some 24),.mov (.tmp 23),none,0⟩,
 ⟨(some 25),.faddr 1 (.tmp 1),some (24,false),0⟩,
 ⟨(some 26),.load none (.tmp 25),some (24,false),0⟩,
 ⟨(some 27),.len (.tmp 26),some (24,false),0⟩,
 ⟨(some 28),.faddr 0 (.tmp 1),some (24,false),0⟩,
 ⟨(some 29),.load none (.tmp 28),some (24,false),0⟩,
 ⟨(some 30),.bin .add (.tmp 29) (.cst (.c (.int .i64 1))),some (24,false),0⟩,
 ⟨(some 31),.bin .neq (.tmp 27) (.tmp 30),some (24,false),0⟩,
 ⟨(some 32),.pick (.tmp 24) (.cst (.c (.bool true))) (.tmp 31),none,0⟩,
 ⟨(some 33),.mov (.tmp 32),none,0⟩,
 ⟨(some 34),.faddr 2 (.tmp 1),some (33,false),0⟩,
 ⟨(some 35),.load none (.tmp 34),some (33,false),0⟩,
 ⟨(some 36),.len (.tmp 35),some (33,false),0⟩,
 ⟨(some 37),.faddr 0 (.tmp 1),some (33,false),0⟩,
 ⟨(some 38),.load none (.tmp 37),some (33,false),0⟩,
 ⟨(some 39),.bin .add (.tmp 38) (.cst (.c (.int .i64 1))),some (33,false),0⟩,
 ⟨(some 40),.bin .neq (.tmp 36) (.tmp 39),some (33,false),0⟩,
 ⟨(some 41),.pick (.tmp 33) (.cst (.c (.bool true))) (.tmp 40),none,0⟩,
 ⟨(some 42),.mov (.tmp 41),none,0⟩,
 ⟨(some 43),.faddr 3 (.tmp 1),some (42,false),0⟩,
 ⟨(some 44),.load none (.tmp 43),some (42,false),0⟩,
 ⟨(some 45),.len (.tmp 44),some (42,false),0⟩,
 ⟨(some 46),.bin .eql (.tmp 45) (.cst (.c (.int .i64 0))),some (42,false),0⟩,
 ⟨(some 47),.pick (.tmp 42) (.cst (.c (.bool true))) (.tmp 46),none,0⟩,
 ⟨(some 48),.mov (.tmp 47),none,0⟩,
 ⟨(some 49),.faddr 5 (.tmp 1),some (48,false),0⟩,
 ⟨(some 50),.load none (.tmp 49),some (48,false),0⟩,
 ⟨(some 51),.call 35 true [(.tmp 50),(.cst (.c (.int .i64 1))),(.cst (.c (.int .i64 10)))],some (48,false),0⟩,
 ⟨(some 52),.not (.tmp 51),some (48,false),0⟩,
 ⟨(some 53),.pick (.tmp 48) (.cst (.c (.bool true))) (.tmp 52),none,0⟩,
 ⟨(some 54),.mov (.tmp 53),none,0⟩,
 ⟨(some 55),.faddr 6 (.tmp 1),some (54,false),0⟩,
 ⟨(some 56),.load none (.tmp 55),some (54,false),0⟩,
 ⟨(some 57),.call 35 true [(.tmp 56),(.cst (.c (.int .i64 0))),(.cst (.c (.int .i64 50)))],some (54,false),0⟩,
 ⟨(some 58),.not (.tmp 57),some (54,false),0⟩,
 ⟨(some 59),.pick (.tmp 54) (.cst (.c (.bool true))) (.tmp 58),none,0⟩,
 ⟨(some 60),.mov (.tmp 59),none,0⟩,
 ⟨(some 61),.faddr 7 (.tmp 1),some (60,false),0⟩,
 ⟨(some 62),.load none (.tmp 61),some (60,false),0⟩,
 ⟨(some 63),.call 35 true [(.tmp 62),(.cst (.c (.int .i64 0))),(.cst (.c (.int .i64 100)))],some (60,false),0⟩,
 ⟨(some 64),.not (.tmp 63),some (60,false),0⟩,
 ⟨(some 65),.pick (.tmp 60) (.cst (.c (.bool true))) (.tmp 64),none,0⟩,
 ⟨(some 66),.mov (.tmp 65),none,0⟩,
 ⟨(some 67),.load (some 9) (.tmp 1),some (66,false),0⟩,
 ⟨(some 68),.faddr 4 (.tmp 1),some (66,false),0⟩,
 ⟨(some 69),.load none (.tmp 68),some (66,false),0⟩,
 ⟨(some 70),.call 23 true [(.tmp 67),(.tmp 69)],some (66,false),0⟩,
 ⟨(some 71),.not (.tmp 70),some (66,false),0⟩,
 ⟨(some 72),.pick (.tmp 66) (.cst (.c (.bool true))) (.tmp 71),none,0⟩])
 (.cond (.tmp 72)
 (.seq (.region 0 [] [
 ⟨(some 2),.mov (.cst (.c (.int .i64 1))),none,0⟩])
 .ret)
 .skip))
 (.seq (.seq (.region 0 [] [
 ⟨(some 3),.mov (.cst (.c (.int .i64 0))),none,0⟩])
 (.block 0 (.loop ⟨[2,73,74,75,76,77,78,79,80,81,82,83,84,85,86,87,88,89,90,91,92,93,94],false,[]⟩
 (.seq (.seq (.region 0 [] [
 ⟨(some 73),.mov (.tmp 3),none,0⟩,
 ⟨(some 74),.faddr 0 (.tmp 1),none,0⟩,
 ⟨(some 75),.load none (.tmp 74),none,0⟩,
 ⟨(some 76),.bin .leq (.tmp 73) (.tmp 75),none,0⟩])
 (.cond (.tmp 76)
 .skip
 (.exit 0)))
 (.seq (.block 1 (.seq (.region 0 [] [
 ⟨(some 79),.faddr 1 (.tmp 1),none,0⟩,
 ⟨(some 80),.load none (.tmp 79),none,0⟩,
 ⟨(some 81),.mov (.tmp 3),none,0⟩,
 ⟨(some 82),.iaddr 2 (.tmp 80) (.tmp 81),none,0⟩,
 ⟨(some 83),.load (some 2) (.tmp 82),none,0⟩,
 ⟨(some 84),.call 93 true [(.tmp 83),(.cst (.c (.int .i64 0))),(.cst (.c (.int .i64 50)))],none,0⟩,
 ⟨(some 85),.not (.tmp 84),none,0⟩,
 ⟨(some 86),.mov (.tmp 85),none,0⟩,
 ⟨(some 87),.faddr 2 (.tmp 1),some (86,false),0⟩,
 ⟨(some 88),.load none (.tmp 87),some (86,false),0⟩,
 ⟨(some 89),.mov (.tmp 3),some (86,false),0⟩,
 ⟨(some 90),.iaddr 1 (.tmp 88) (.tmp 89),some (86,false),0⟩,
 ⟨(some 91),.load none (.tmp 90),some (86,false),0⟩,
 ⟨(some 92),.call 35 true [(.tmp 91),(.cst (.c (.int .i64 0))),(.cst (.c (.int .i64 2)))],some (86,false),0⟩,
 ⟨(some 93),.not (.tmp 92),some (86,false),0⟩,
 ⟨(some 94),.pick (.tmp 86) (.cst (.c (.bool true))) (.tmp 93),none,0⟩])
 (.cond (.tmp 94)
 (.seq (.region 0 [] [
 ⟨(some 2),.mov (.cst (.c (.int .i64 1))),none,0⟩])
 .ret)
 .skip)))
 (.region 0 [] [
 ⟨(some 77),.mov (.tmp 3),none,0⟩,
 ⟨(some 78),.bin .add (.tmp 77) (.cst (.c (.int .i64 1))),none,0⟩,
 ⟨(some 3),.mov (.tmp 78),none,0⟩]))))))
 (.seq (.seq (.region 0 [] [
 ⟨(some 4),.mov (.cst (.c (.int .i64 0))),none,0⟩])
 (.block 2 (.loop ⟨[2,95,96,97,98,99,100,101,102,103,104,105,106,107,108,109,110,111,112,113,114,115,116,117,118,119,120,121,122,123,124,125,126],false,[]⟩
 (.seq (.seq (.region 0 [] [
 ⟨(some 95),.mov (.tmp 4),none,0⟩,
 ⟨(some 96),.faddr 3 (.tmp 1),none,0⟩,
 ⟨(some 97),.load none (.tmp 96),none,0⟩,
 ⟨(some 98),.len (.tmp 97),none,0⟩,
 ⟨(some 99),.bin .lss (.tmp 95) (.tmp 98),none,0⟩])
 (.cond (.tmp 99)
 .skip
 (.exit 2)))
 (.seq (.block 3 (.seq (.region 0 [(0,2),(1,2),(11,13),(12,13),(11,16),(12,16),(13,16),(14,16),(15,16),(11,17),(12,17),(13,17),(14,17),(15,17),(11,18),(12,18),(13,18),(14,18),(15,18),(16,18),(17,18),(11,19),(12,19),(13,19),(14,19),(15,19),(16,19),(17,19),(11,20),(12,20),(13,20),(14,20),(15,20),(11,21),(12,21),(13,21),(14,21),(15,21)] [
 ⟨(some 102),.faddr 3 (.tmp 1),none,0⟩,
 ⟨(some 103),.load none (.tmp 102),none,0⟩,
 ⟨(some 104),.mov (.tmp 4),none,0⟩,
 ⟨(some 105),.iaddr 1 (.tmp 103) (.tmp 104),none,0⟩,
 ⟨(some 106),.load none (.tmp 105),none,0⟩,
 ⟨(some 107),.call 35 true [(.tmp 106),(.cst (.c (.int .i64 0))),(.cst (.c (.int .i64 200)))],none,0⟩,
 ⟨(some 108),.not (.tmp 107),none,0⟩,
 ⟨(some 109),.mov (.tmp 108),none,0⟩,
 ⟨(some 110),.mov (.tmp 4),some (109,false),0⟩,
 ⟨(some 111),.bin .gtr (.tmp 110) (.cst (.c (.int .i64 0))),some (109,false),0⟩,
 ⟨(some 112),.mov (.tmp 111),some (109,false),0⟩,
 ⟨(some 113),.faddr 3 (.tmp 1),some (112,true),0⟩,
 ⟨(some 114),.load none (.tmp 113),some (112,true),0⟩,
 ⟨(some 115),.mov (.tmp 4),some (112,true),0⟩,
 ⟨(some 116),.iaddr 1 (.tmp 114) (.tmp 115),some (112,true),0⟩,
 ⟨(some 117),.load none (.tmp 116),some (112,true),0⟩,
 ⟨(some 118),.faddr 3 (.tmp 1),some (112,true),0⟩,
 ⟨(some 119),.load none (.tmp 118),some (112,true),0⟩,
 ⟨(some 120),.mov (.tmp 4),some (112,true),0⟩,
 ⟨(some 121),.bin .sub (.tmp 120) (.cst (.c (.int .i64 1))),some (112,true),0⟩,
 ⟨(some 122),.iaddr 1 (.tmp 119) (.tmp 121),some (112,true),0⟩,
 ⟨(some 123),.load none (.tmp 122),some (112,true),0⟩,
 ⟨(some 124),.bin .gtr (.tmp 117) (.tmp 123),some (112,true),0⟩,
 ⟨(some 125),.pick (.tmp 112) (.tmp 124) (.cst (.c (.bool false))),some (109,false),0⟩,
 ⟨(some 126),.pick (.tmp 109) (.cst (.c (.bool true))) (.tmp 125),none,0⟩])
 (.cond (.tmp 126)
 (.seq (.region 0 [] [
 ⟨(some 2),.mov (.cst (.c (.int .i64 1))),none,0⟩])
 .ret)
 .skip)))
 (.region 0 [] [
 ⟨(some 100),.mov (.tmp 4),none,0⟩,
 ⟨(some 101),.bin .add (.tmp 100) (.cst (.c (.int .i64 1))),none,0⟩,
 ⟨(some 4),.mov (.tmp 101),none,0⟩]))))))
 (.seq (.seq (.region 0 [] [
 ⟨(some 5),.mov (.cst (.c (.int .i64 0))),none,0⟩])
 (.block 4 (.loop ⟨[2,127,128,129,130,131,132,133,134,135,136,137,138,139,140,141,142,143,144,145,146,147,148,149,150,151,152,153],false,[]⟩
 (.seq (.seq (.region 0 [] [
 ⟨(some 127),.mov (.tmp 5),none,0⟩,
 ⟨(some 128),.faddr 8 (.tmp 1),none,0⟩,
 ⟨(some 129),.load none (.tmp 128),none,0⟩,
 ⟨(some 130),.len (.tmp 129),none,0⟩,
 ⟨(some 131),.bin .lss (.tmp 127) (.tmp 130),none,0⟩])
 (.cond (.tmp 131)
 .skip
 (.exit 4)))
 (.seq (.block 5 (.seq (.region 0 [(0,2),(1,2),(0,6),(1,6),(2,6),(3,6),(4,6),(5,6),(0,7),(1,7),(2,7),(3,7),(4,7),(5,7),(11,13),(12,13)] [
 ⟨(some 134),.faddr 8 (.tmp 1),none,0⟩,
 ⟨(some 135),.load none (.tmp 134),none,0⟩,
 ⟨(some 136),.mov (.tmp 5),none,0⟩,
 ⟨(some 137),.iaddr 3 (.tmp 135) (.tmp 136),none,0⟩,
 ⟨(some 138),.faddr 0 (.tmp 137),none,0⟩,
 ⟨(some 139),.load none (.tmp 138),none,0⟩,
 ⟨(some 140),.faddr 0 (.tmp 1),none,0⟩,
 ⟨(some 141),.load none (.tmp 140),none,0⟩,
 ⟨(some 142),.call 35 true [(.tmp 139),(.cst (.c (.int .i64 0))),(.tmp 141)],none,0⟩,
 ⟨(some 143),.not (.tmp 142),none,0⟩,
 ⟨(some 144),.mov (.tmp 143),none,0⟩,
 ⟨(some 145),.faddr 8 (.tmp 1),some (144,false),0⟩,
 ⟨(some 146),.load none (.tmp 145),some (144,false),0⟩,
 ⟨(some 147),.mov (.tmp 5),some (144,false),0⟩,
 ⟨(some 148),.iaddr 3 (.tmp 146) (.tmp 147),some (144,false),0⟩,
 ⟨(some 149),.faddr 1 (.tmp 148),some (144,false),0⟩,
 ⟨(some 150),.load (some 2) (.tmp 149),some (144,false),0⟩,
 ⟨(some 151),.call 93 true [(.tmp 150),(.cst (.c (.int .i64 0))),(.cst (.c (.int .i64 1000)))],some (144,false),0⟩,
 ⟨(some 152),.not (.tmp 151),some (144,false),0⟩,
 ⟨(some 153),.pick (.tmp 144) (.cst (.c (.bool true))) (.tmp 152),none,0⟩])
 (.cond (.tmp 153)
 (.seq (.region 0 [] [
 ⟨(some 2),.mov (.cst (.c (.int .i64 1))),none,0⟩])
 .ret)
 .skip)))
 (.region 0 [] [
 ⟨(some 132),.mov (.tmp 5),none,0⟩,
 ⟨(some 133),.bin .add (.tmp 132) (.cst (.c (.int .i64 1))),none,0⟩,
 ⟨(some 5),.mov (.tmp 133),none,0⟩]))))))
 (.seq (.seq (.region 0 [] [
 ⟨(some 154),.load (some 9) (.tmp 1),none,0⟩,
 ⟨(some 155),.call 28 true [(.tmp 154)],none,0⟩,
 ⟨(some 156),.bin .gtr (.tmp 155) (.cst (.c (.int .i64 2000))),none,0⟩])
 (.cond (.tmp 156)
 (.seq (.region 0 [] [
 ⟨(some 2),.mov (.cst (.c (.int .i64 3))),none,0⟩])
 .ret)
 .skip))
 (.seq (.region 0 [] [
 ⟨(some 2),.mov (.cst (.c (.int .i64 0))),none,0⟩])
 .ret))))))))⟩
def f47 : AFunc:=⟨46,[.cell 4 (some 2),.tmp 5],false,
 (.seq (.region 3 [] [
 ⟨(some 2),.box (.tmp 0),none,0⟩,
 ⟨(some 3),.box (.tmp 1),none,1⟩,
 ⟨(some 4),.alloc [.nils,.nils],none,2⟩,
 ⟨(some 5),.mov (.cst (.c (.int .i64 0))),none,3⟩])
 (.seq (.region 1 [] [
 ⟨(some 14),.load (some 9) (.tmp 2),none,0⟩,
 ⟨(some 15),.load none (.tmp 3),none,0⟩,
 ⟨(some 16),.call 77 false [(.tmp 14),(.tmp 15)],none,0⟩,
 ⟨(some 13),.mov (.tmp 16),none,0⟩,
 ⟨(some 17),.extract 0 (.tmp 13),none,0⟩,
 ⟨(some 18),.extract 1 (.tmp 13),none,0⟩,
 ⟨(some 6),.alloc [.nilp],none,0⟩,
 ⟨none,.store none (.tmp 6) (.tmp 17),none,1⟩,
 ⟨(some 7),.mov (.tmp 18),none,1⟩])
 (.seq (.seq (.region 0 [] [
 ⟨(some 19),.mov (.tmp 7),none,0⟩,
 ⟨(some 20),.bin .neq (.tmp 19) (.cst (.c (.int .i64 0))),none,0⟩])
 (.cond (.tmp 20)
 (.seq (.region 0 [] [
 ⟨(some 21),.build [.nils,.nils] [],none,0⟩,
 ⟨(some 22),.mov (.tmp 7),none,0⟩,
 ⟨none,.store (some 2) (.tmp 4) (.tmp 21),none,0⟩,
 ⟨(some 5),.mov (.tmp 22),none,0⟩])
 .ret)
 .skip))
 (.seq (.region 1 [] [
 ⟨(some 8),.alloc [.nils,.nils],none,0⟩])
 (.seq (.region 2 [] [
 ⟨(some 9),.alloc [(.int .i64 0)],none,0⟩,
 ⟨(some 10),.alloc [(.bool false)],none,1⟩,
 ⟨none,.store none (.tmp 9) (.cst (.c (.int .i64 0))),none,2⟩,
 ⟨none,.store none (.tmp 10) (.cst (.c (.bool false))),none,2⟩])
 (.seq (.seq (.region 0 [] [
 ⟨(some 23),.load none (.tmp 6),none,0⟩,
 ⟨(some 24),.call 81 false [(.tmp 23),(.cst (.c .nils))],none,0⟩])
 (.block 0 (.range (.tmp 24) [25]
 (.region 1 [] [
 ⟨(some 11),.alloc [.nils,.nils],none,0⟩,
 ⟨none,.store (some 2) (.tmp 11) (.tmp 25),none,1⟩])
 (.block 1 (.seq (.region 0 [] [
 ⟨(some 26),.load none (.tmp 6),none,0⟩,
 ⟨(some 27),.load (some 2) (.tmp 11),none,0⟩,
 ⟨(some 28),.load none (.tmp 3),none,0⟩,
 ⟨(some 29),.call 80 false [(.tmp 26),(.tmp 27),(.tmp 28)],none,0⟩,
 ⟨(some 12),.mov (.tmp 29),none,0⟩])
 (.seq (.region 0 [] [
 ⟨(some 30),.load none (.tmp 10),none,0⟩,
 ⟨(some 31),.not (.tmp 30),none,0⟩,
 ⟨(some 32),.mov (.tmp 31),none,0⟩,
 ⟨(some 33),.mov (.tmp 12),some (32,false),0⟩,
 ⟨(some 34),.load none (.tmp 9),some (32,false),0⟩,
 ⟨(some 35),.bin .lss (.tmp 33) (.tmp 34),some (32,false),0⟩,
 ⟨(some 36),.pick (.tmp 32) (.cst (.c (.bool true))) (.tmp 35),none,0⟩])
 (.cond (.tmp 36)
 (.seq (.region 0 [] [
 ⟨(some 37),.mov (.tmp 12),none,0⟩,
 ⟨none,.store none (.tmp 9) (.tmp 37),none,0⟩,
 ⟨none,.store none (.tmp 10) (.cst (.c (.bool true))),none,0⟩])
 (.region 2 [(0,3),(1,3),(2,3),(0,4),(1,4),(2,4)] [
 ⟨(some 38),.faddr 0 (.tmp 11),none,0⟩,
 ⟨(some 39),.load none (.tmp 38),none,0⟩,
 ⟨(some 40),.clone 76 1 8 (.tmp 39),none,0⟩,
 ⟨(some 41),.faddr 1 (.tmp 11),none,1⟩,
 ⟨(some 42),.load none (.tmp 41),none,1⟩,
 ⟨(some 43),.clone 76 1 8 (.tmp 42),none,1⟩,
 ⟨(some 44),.build [.nils,.nils] [(0,1,(.tmp 40)),(1,1,(.tmp 43))],none,2⟩,
 ⟨none,.store (some 2) (.tmp 8) (.tmp 44),none,2⟩]))
 .skip)))))))
 (.seq (.region 0 [] [
 ⟨(some 45),.load (some 2) (.tmp 8),none,0⟩,
 ⟨none,.store (some 2) (.tmp 4) (.tmp 45),none,0⟩,
 ⟨(some 5),.mov (.cst (.c (.int .i64 0))),none,0⟩])
 .ret)))))))⟩
def f48 : AFunc:=⟨26,[.tmp 4],false,
 (.seq (.region 0 [] [
 ⟨(some 4),.mov (.cst (.c (.bool false))),none,0⟩])
 (.seq (.seq (.region 0 [] [
 ⟨(some 6),.mov (.tmp 0),none,0⟩,
 ⟨(some 7),.len (.tmp 6),none,0⟩,
 ⟨(some 8),.mov (.tmp 1),none,0⟩,
 ⟨(some 9),.len (.tmp 8),none,0⟩,
 ⟨(some 10),.bin .neq (.tmp 7) (.tmp 9),none,0⟩])
 (.cond (.tmp 10)
 (.seq (.region 0 [] [
 ⟨(some 4),.mov (.cst (.c (.bool false))),none,0⟩])
 .ret)
 .skip))
 (.seq (.seq (.region 0 [] [
 ⟨(some 5),.mov (.cst (.c (.int .i64 0))),none,0⟩])
 (.block 0 (.loop ⟨[4,11,12,13,14,15,16,17,18,19,20,21,22,23,24,25],false,[]⟩
 (.seq (.seq (.region 0 [] [
 ⟨(some 11),.mov (.tmp 5),none,0⟩,
 ⟨(some 12),.mov (.tmp 0),none,0⟩,
 ⟨(some 13),.len (.tmp 12),none,0⟩,
 ⟨(some 14),.bin .lss (.tmp 11) (.tmp 13),none,0⟩])
 (.cond (.tmp 14)
 .skip
 (.exit 0)))
 (.seq (.block 1 (.seq (.region 0 [(0,1),(0,4),(1,4),(2,4),(3,4),(0,5),(1,5),(2,5),(3,5),(4,5),(0,6),(1,6),(2,6),(3,6),(0,7),(1,7),(2,7),(3,7)] [
 ⟨(some 17),.mov (.tmp 0),none,0⟩,
 ⟨(some 18),.mov (.tmp 5),none,0⟩,
 ⟨(some 19),.iaddr 1 (.tmp 17) (.tmp 18),none,0⟩,
 ⟨(some 20),.load none (.tmp 19),none,0⟩,
 ⟨(some 21),.mov (.tmp 1),none,0⟩,
 ⟨(some 22),.mov (.tmp 5),none,0⟩,
 ⟨(some 23),.iaddr 1 (.tmp 21) (.tmp 22),none,0⟩,
 ⟨(some 24),.load none (.tmp 23),none,0⟩,
 ⟨(some 25),.bin .neq (.tmp 20) (.tmp 24),none,0⟩])
 (.cond (.tmp 25)
 (.seq (.region 0 [] [
 ⟨(some 4),.mov (.cst (.c (.bool false))),none,0⟩])
 .ret)
 .skip)))
 (.region 0 [] [
 ⟨(some 15),.mov (.tmp 5),none,0⟩,
 ⟨(some 16),.bin .add (.tmp 15) (.cst (.c (.int .i64 1))),none,0⟩,
 ⟨(some 5),.mov (.tmp 16),none,0⟩]))))))
 (.seq (.region 0 [] [
 ⟨(some 4),.mov (.cst (.c (.bool true))),none,0⟩])
 .ret))))⟩
def f49 : AFunc:=⟨44,[.tmp 4],false,
 (.seq (.region 2 [] [
 ⟨(some 2),.box (.tmp 0),none,0⟩,
 ⟨(some 3),.box (.tmp 1),none,1⟩,
 ⟨(some 4),.mov (.cst (.c (.bool false))),none,2⟩])
 (.seq (.seq (.region 0 [(0,3),(1,3),(2,3),(0,4),(1,4),(2,4),(7,10),(8,10),(9,10),(7,11),(8,11),(9,11)] [
 ⟨(some 8),.faddr 0 (.tmp 3),none,0⟩,
 ⟨(some 9),.load none (.tmp 8),none,0⟩,
 ⟨(some 10),.len (.tmp 9),none,0⟩,
 ⟨(some 11),.load (some 9) (.tmp 2),none,0⟩,
 ⟨(some 12),.call 60 true [(.tmp 11)],none,0⟩,
 ⟨(some 13),.bin .neq (.tmp 10) (.tmp 12),none,0⟩,
 ⟨(some 14),.mov (.tmp 13),none,0⟩,
 ⟨(some 15),.faddr 1 (.tmp 3),some (14,false),0⟩,
 ⟨(some 16),.load none (.tmp 15),some (14,false),0⟩,
 ⟨(some 17),.len (.tmp 16),some (14,false),0⟩,
 ⟨(some 18),.load (some 9) (.tmp 2),some (14,false),0⟩,
 ⟨(some 19),.call 60 true [(.tmp 18)],some (14,false),0⟩,
 ⟨(some 20),.bin .neq (.tmp 17) (.tmp 19),some (14,false),0⟩,
 ⟨(some 21),.pick (.tmp 14) (.cst (.c (.bool true))) (.tmp 20),none,0⟩])
 (.cond (.tmp 21)
 (.seq (.region 0 [] [
 ⟨(some 4),.mov (.cst (.c (.bool false))),none,0⟩])
 .ret)
 .skip))
 (.seq (.region 1 [] [
 ⟨(some 22),.faddr 0 (.tmp 3),none,0⟩,
 ⟨(some 23),.load none (.tmp 22),none,0⟩,
 ⟨(some 24),.faddr 1 (.tmp 3),none,0⟩,
 ⟨(some 25),.load none (.tmp 24),none,0⟩,
 ⟨(some 26),.bslice 1 2 [.nils] [(0,(.tmp 23)),(1,(.tmp 25))],none,0⟩,
 ⟨(some 27),.call 94 true [(.tmp 26)],none,1⟩,
 ⟨(some 5),.mov (.tmp 27),none,1⟩])
 (.seq (.seq (.region 0 [] [
 ⟨(some 28),.load (some 9) (.tmp 2),none,0⟩,
 ⟨(some 29),.call 66 true [(.tmp 28)],none,0⟩,
 ⟨(some 30),.len (.tmp 29),none,0⟩,
 ⟨(some 31),.mov (.cst (.c (.int .i64 0))),none,0⟩])
 (.block 0 (.loop ⟨[4,6,7,32,33,34,35,36,37,38,39,40,41,42,43],true,[]⟩
 (.seq (.region 0 [] [
 ⟨(some 32),.bin .lss (.tmp 31) (.tmp 30),none,0⟩])
 (.seq (.cond (.tmp 32)
 .skip
 (.exit 0))
 (.seq (.block 1 (.seq (.region 1 [] [
 ⟨(some 33),.mov (.tmp 31),none,0⟩,
 ⟨(some 34),.iaddr 2 (.tmp 29) (.tmp 31),none,0⟩,
 ⟨(some 35),.load (some 2) (.tmp 34),none,0⟩,
 ⟨(some 7),.alloc [(.int .i64 0),(.int .i64 0)],none,0⟩,
 ⟨(some 6),.mov (.tmp 33),none,1⟩,
 ⟨none,.store (some 2) (.tmp 7) (.tmp 35),none,1⟩])
 (.seq (.region 0 [(0,1),(0,2),(1,2),(0,3),(0,4)] [
 ⟨(some 36),.load (some 2) (.tmp 7),none,0⟩,
 ⟨(some 37),.mov (.tmp 5),none,0⟩,
 ⟨(some 38),.mov (.tmp 6),none,0⟩,
 ⟨(some 39),.iaddr 1 (.tmp 37) (.tmp 38),none,0⟩,
 ⟨(some 40),.load none (.tmp 39),none,0⟩,
 ⟨(some 41),.call 57 true [(.tmp 36),(.tmp 40)],none,0⟩,
 ⟨(some 42),.not (.tmp 41),none,0⟩])
 (.cond (.tmp 42)
 (.seq (.region 0 [] [
 ⟨(some 4),.mov (.cst (.c (.bool false))),none,0⟩])
 .ret)
 .skip))))
 (.region 0 [] [
 ⟨(some 43),.bin .add (.tmp 31) (.cst (.c (.int .i64 1))),none,0⟩,
 ⟨(some 31),.mov (.tmp 43),none,0⟩])))))))
 (.seq (.region 0 [] [
 ⟨(some 4),.mov (.cst (.c (.bool true))),none,0⟩])
 .ret)))))⟩
def f50 : AFunc:=⟨17,[.tmp 4],false,
 (.seq (.region 1 [] [
 ⟨(some 2),.box (.tmp 0),none,0⟩,
 ⟨(some 4),.mov (.cst (.c (.bool false))),none,1⟩])
 (.seq (.region 1 [] [
 ⟨(some 5),.alloc [(.int .i64 0)],none,0⟩,
 ⟨none,.store none (.tmp 5) (.cst (.c (.int .i64 (-1)))),none,1⟩])
 (.seq (.region 0 [] [
 ⟨(some 6),.mov (.tmp 1),none,0⟩,
 ⟨(some 7),.len (.tmp 6),none,0⟩,
 ⟨(some 8),.faddr 3 (.tmp 2),none,0⟩,
 ⟨(some 9),.load none (.tmp 8),none,0⟩,
 ⟨(some 10),.len (.tmp 9),none,0⟩,
 ⟨(some 11),.bin .leq (.tmp 7) (.tmp 10),none,0⟩,
 ⟨(some 12),.mov (.tmp 11),none,0⟩,
 ⟨(some 13),.mov (.tmp 1),some (12,true),0⟩,
 ⟨(some 14),.mkfn 95 none [(.tmp 5),(.tmp 2)],some (12,true),0⟩,
 ⟨(some 15),.call 64 false [(.tmp 13),(.tmp 14)],some (12,true),0⟩,
 ⟨(some 16),.pick (.tmp 12) (.tmp 15) (.cst (.c (.bool false))),none,0⟩,
 ⟨(some 4),.mov (.tmp 16),none,0⟩])
 .ret)))⟩
def f51 : AFunc:=⟨7,[.tmp 2],false,
 (.seq (.region 1 [] [
 ⟨(some 1),.box (.tmp 0),none,0⟩,
 ⟨(some 2),.mov (.cst (.c .nilp)),none,1⟩])
 (.seq (.region 2 [] [
 ⟨(some 3),.load (some 9) (.tmp 1),none,0⟩,
 ⟨(some 4),.mkmap true false [(some .i64),none],none,0⟩,
 ⟨(some 5),.build [(.int .i64 0),.nils,.nils,.nils,.nils,(.int .i64 0),(.int .i64 0),(.int .i64 0),.nils,.any] [(0,9,(.tmp 3)),(9,1,(.tmp 4))],none,1⟩,
 ⟨(some 6),.box (.tmp 5),none,1⟩,
 ⟨(some 2),.mov (.tmp 6),none,2⟩])
 .ret))⟩
def f52 : AFunc:=⟨53,[.tmp 6],false,
 (.seq (.region 1 [] [
 ⟨(some 4),.box (.tmp 1),none,0⟩,
 ⟨(some 6),.mov (.cst (.c .nils)),none,1⟩])
 (.seq (.region 1 [] [
 ⟨(some 12),.mov (.tmp 0),none,0⟩,
 ⟨(some 13),.load (some 2) (.tmp 4),none,0⟩,
 ⟨(some 14),.mov (.tmp 2),none,0⟩,
 ⟨(some 15),.call 54 true [(.tmp 12),(.tmp 13),(.tmp 14)],none,0⟩,
 ⟨(some 7),.alloc [(.int .i64 0),(.int .i64 0),(.int .i64 0),(.int .i64 0),(.int .i64 0),(.int .i64 0),(.int .i64 0),(.int .i64 0),(.int .i64 0),(.int .i64 0)],none,0⟩,
 ⟨none,.store (some 10) (.tmp 7) (.tmp 15),none,1⟩])
 (.seq (.seq (.region 0 [] [
 ⟨(some 16),.mov (.tmp 2),none,0⟩,
 ⟨(some 17),.len (.tmp 16),none,0⟩,
 ⟨(some 18),.mov (.cst (.c (.int .i64 0))),none,0⟩])
 (.block 0 (.loop ⟨[8,9,10,11,19,20,21,22,23,24,25,26,27,28,29,30,31,32,33,34,35,36,37,38,39,40,41,42,43,44,45,46,47,48,49,50,51],false,[(6,none,3)]⟩
 (.seq (.region 0 [] [
 ⟨(some 19),.bin .lss (.tmp 18) (.tmp 17),none,0⟩])
 (.seq (.cond (.tmp 19)
 .skip
 (.exit 0))
 (.seq (.block 1 (.seq (.region 0 [] [
 ⟨(some 20),.mov (.tmp 18),none,0⟩,
 ⟨(some 21),.iaddr 1 (.tmp 16) (.tmp 18),none,0⟩,
 ⟨(some 22),.load none (.tmp 21),none,0⟩,
 ⟨(some 8),.mov (.tmp 20),none,0⟩,
 ⟨(some 9),.mov (.tmp 22),none,0⟩])
 (.seq (.region 0 [(0,1),(0,2),(0,3),(0,4),(1,4),(2,4),(3,4),(0,5),(1,5),(2,5),(3,5),(0,6),(1,6),(2,6),(3,6),(4,6),(5,6),(0,7),(1,7),(2,7),(3,7),(0,8),(1,8),(2,8),(3,8),(0,9),(1,9),(2,9),(3,9),(0,10),(0,12),(1,12),(2,12),(3,12),(4,12),(5,12),(6,12),(7,12),(8,12),(9,12),(10,12),(11,12),(0,13),(1,13),(2,13),(3,13),(4,13),(5,13),(6,13),(7,13),(8,13),(9,13),(10,13),(11,13),(0,14),(1,14),(2,14),(3,14),(4,14),(5,14),(6,14),(7,14),(8,14),(9,14),(10,14),(11,14),(0,15),(1,15),(2,15),(3,15),(4,15),(5,15),(6,15),(7,15),(8,15),(9,15),(10,15),(11,15),(0,16),(1,16),(2,16),(3,16),(4,16),(5,16),(6,16),(7,16),(8,16),(9,16),(10,16),(11,16),(12,16),(13,16),(14,16),(15,16),(0,17),(1,17),(2,17),(3,17),(4,17),(5,17),(6,17),(7,17),(8,17),(9,17),(10,17),(11,17),(12,17),(13,17),(14,17),(15,17),(16,17)] [
 ⟨(some 23),.mov (.tmp 0),none,0⟩,
 ⟨(some 24),.mov (.tmp 9),none,0⟩,
 ⟨(some 25),.iaddrA 10 1 (.tmp 7) (.tmp 24),none,0⟩,
 ⟨(some 26),.load none (.tmp 25),none,0⟩,
 ⟨(some 27),.faddr 1 (.tmp 4),none,0⟩,
 ⟨(some 28),.load none (.tmp 27),none,0⟩,
 ⟨(some 29),.mov (.tmp 9),none,0⟩,
 ⟨(some 30),.iaddr 1 (.tmp 28) (.tmp 29),none,0⟩,
 ⟨(some 31),.load none (.tmp 30),none,0⟩,
 ⟨(some 32),.bin .gtr (.tmp 31) (.cst (.c (.int .i64 0))),none,0⟩,
 ⟨(some 33),.build [(.int .i64 0),(.bool false)] [(0,1,(.tmp 26)),(1,1,(.tmp 32))],none,0⟩,
 ⟨(some 34),.call 97 false [(.tmp 23),(.tmp 33)],none,0⟩,
 ⟨(some 35),.mov (.tmp 0),none,0⟩,
 ⟨(some 36),.nilchk (.tmp 35),none,0⟩,
 ⟨(some 37),.faddr 0 (.tmp 36),none,0⟩,
 ⟨(some 38),.load (some 9) (.tmp 37),none,0⟩,
 ⟨(some 39),.mov (.tmp 2),none,0⟩,
 ⟨(some 40),.mov (.tmp 8),none,0⟩,
 ⟨(some 41),.call 91 true [(.tmp 38),(.tmp 39),(.tmp 40)],none,0⟩,
 ⟨(some 10),.mov (.tmp 34),none,0⟩,
 ⟨(some 11),.mov (.tmp 41),none,0⟩])
 (.region 2 [] [
 ⟨(some 42),.mov (.tmp 6),none,0⟩,
 ⟨(some 43),.mov (.tmp 10),none,0⟩,
 ⟨(some 44),.mov (.tmp 11),none,0⟩,
 ⟨(some 45),.mov (.tmp 10),none,0⟩,
 ⟨(some 46),.mov (.tmp 11),none,0⟩,
 ⟨(some 47),.bin .mul (.tmp 45) (.tmp 46),none,0⟩,
 ⟨(some 48),.build [(.int .i64 0),(.int .i64 0),(.int .i64 0)] [(0,1,(.tmp 43)),(1,1,(.tmp 44)),(2,1,(.tmp 47))],none,0⟩,
 ⟨(some 49),.bslice 3 1 [(.int .i64 0),(.int .i64 0),(.int .i64 0)] [(0,(.tmp 48))],none,0⟩,
 ⟨(some 50),.append 3 24 (.tmp 42) (.tmp 49),none,1⟩,
 ⟨(some 6),.mov (.tmp 50),none,2⟩]))))
 (.region 0 [] [
 ⟨(some 51),.bin .add (.tmp 18) (.cst (.c (.int .i64 1))),none,0⟩,
 ⟨(some 18),.mov (.tmp 51),none,0⟩])))))))
 (.seq (.region 0 [] [
 ⟨(some 52),.mov (.tmp 6),none,0⟩,
 ⟨(some 6),.mov (.tmp 52),none,0⟩])
 .ret))))⟩
def f53 : AFunc:=⟨8,[.cell 2 (some 2)],false,
 (.seq (.region 2 [] [
 ⟨(some 1),.box (.tmp 0),none,0⟩,
 ⟨(some 2),.alloc [(.int .i64 0),(.int .i64 0)],none,1⟩])
 (.seq (.region 0 [] [
 ⟨(some 3),.faddr 0 (.tmp 1),none,0⟩,
 ⟨(some 4),.load none (.tmp 3),none,0⟩,
 ⟨(some 5),.faddr 1 (.tmp 1),none,0⟩,
 ⟨(some 6),.load none (.tmp 5),none,0⟩,
 ⟨(some 7),.build [(.int .i64 0),(.int .i64 0)] [(0,1,(.tmp 4)),(1,1,(.tmp 6))],none,0⟩,
 ⟨none,.store (some 2) (.tmp 2) (.tmp 7),none,0⟩])
 .ret))⟩
def f54 : AFunc:=⟨29,[.cell 6 (some 10)],false,
 (.seq (.region 2 [] [
 ⟨(some 4),.box (.tmp 1),none,0⟩,
 ⟨(some 6),.alloc [(.int .i64 0),(.int .i64 0),(.int .i64 0),(.int .i64 0),(.int .i64 0),(.int .i64 0),(.int .i64 0),(.int .i64 0),(.int .i64 0),(.int .i64 0)],none,1⟩])
 (.seq (.region 0 [] [
 ⟨(some 7),.mov (.cst (.c (.int .i64 0))),none,0⟩])
 (.seq (.seq (.region 0 [] [
 ⟨(some 10),.faddr 0 (.tmp 4),none,0⟩,
 ⟨(some 11),.load none (.tmp 10),none,0⟩,
 ⟨(some 12),.len (.tmp 11),none,0⟩,
 ⟨(some 13),.mov (.cst (.c (.int .i64 0))),none,0⟩])
 (.block 0 (.loop ⟨[8,9,14,15,16,17,18,19,20,21,22,23,24,25,26,27],false,[]⟩
 (.seq (.region 0 [] [
 ⟨(some 14),.bin .lss (.tmp 13) (.tmp 12),none,0⟩])
 (.seq (.cond (.tmp 14)
 .skip
 (.exit 0))
 (.seq (.block 1 (.seq (.region 0 [] [
 ⟨(some 15),.mov (.tmp 13),none,0⟩,
 ⟨(some 16),.iaddr 1 (.tmp 11) (.tmp 13),none,0⟩,
 ⟨(some 17),.load none (.tmp 16),none,0⟩,
 ⟨(some 8),.mov (.tmp 15),none,0⟩,
 ⟨(some 9),.mov (.tmp 17),none,0⟩])
 (.seq (.region 0 [] [
 ⟨(some 18),.mov (.tmp 7),none,0⟩,
 ⟨(some 19),.mov (.tmp 9),none,0⟩,
 ⟨(some 20),.bin .add (.tmp 18) (.tmp 19),none,0⟩,
 ⟨(some 7),.mov (.tmp 20),none,0⟩])
 (.seq (.region 0 [] [
 ⟨(some 21),.mov (.tmp 8),none,0⟩,
 ⟨(some 22),.mov (.tmp 7),none,0⟩,
 ⟨(some 23),.iaddrA 10 1 (.tmp 6) (.tmp 21),none,0⟩,
 ⟨none,.store none (.tmp 23) (.tmp 22),none,0⟩])
 (.seq (.region 0 [] [
 ⟨(some 24),.mov (.tmp 2),none,0⟩,
 ⟨(some 25),.mov (.tmp 8),none,0⟩,
 ⟨(some 26),.call 98 true [(.tmp 24),(.tmp 25)],none,0⟩])
 (.cond (.tmp 26)
 (.region 0 [] [
 ⟨(some 7),.mov (.cst (.c (.int .i64 0))),none,0⟩])
 .skip))))))
 (.region 0 [] [
 ⟨(some 27),.bin .add (.tmp 13) (.cst (.c (.int .i64 1))),none,0⟩,
 ⟨(some 13),.mov (.tmp 27),none,0⟩])))))))
 (.seq (.region 0 [] [
 ⟨(some 28),.load (some 10) (.tmp 6),none,0⟩,
 ⟨none,.store (some 10) (.tmp 6) (.tmp 28),none,0⟩])
 .ret))))⟩
def f55 : AFunc:=⟨9,[.tmp 4],false,
 (.seq (.region 1 [] [
 ⟨(some 3),.box (.tmp 1),none,0⟩,
 ⟨(some 4),.mov (.cst (.c (.bool false))),none,1⟩])
 (.seq (.region 0 [] [
 ⟨(some 5),.mov (.tmp 0),none,0⟩,
 ⟨(some 6),.mkfn 100 none [(.tmp 3)],none,0⟩,
 ⟨(some 7),.call 99 false [(.tmp 5),(.tmp 6)],none,0⟩,
 ⟨(some 8),.not (.tmp 7),none,0⟩,
 ⟨(some 4),.mov (.tmp 8),none,0⟩])
 .ret))⟩
def f56 : AFunc:=⟨11,[.tmp 3],false,
 (.seq (.region 1 [] [
 ⟨(some 2),.box (.tmp 0),none,0⟩,
 ⟨(some 3),.mov (.cst (.c (.bool false))),none,1⟩])
 (.seq (.region 0 [(0,2),(1,2),(0,3),(1,3),(0,4),(1,4),(0,5),(1,5)] [
 ⟨(some 4),.faddr 1 (.tmp 2),none,0⟩,
 ⟨(some 5),.load (some 2) (.tmp 4),none,0⟩,
 ⟨(some 6),.faddr 0 (.tmp 2),none,0⟩,
 ⟨(some 7),.load none (.tmp 6),none,0⟩,
 ⟨(some 8),.iaddrA 10 1 (.tmp 1) (.tmp 7),none,0⟩,
 ⟨(some 9),.load none (.tmp 8),none,0⟩,
 ⟨(some 10),.call 57 true [(.tmp 5),(.tmp 9)],none,0⟩,
 ⟨(some 3),.mov (.tmp 10),none,0⟩])
 .ret))⟩
def f57 : AFunc:=⟨11,[.tmp 4],false,
 (.seq (.region 1 [] [
 ⟨(some 2),.box (.tmp 0),none,0⟩,
 ⟨(some 4),.mov (.cst (.c (.bool false))),none,1⟩])
 (.seq (.region 0 [] [
 ⟨(some 5),.mov (.tmp 1),none,0⟩,
 ⟨(some 6),.faddr 0 (.tmp 2),none,0⟩,
 ⟨(some 7),.load none (.tmp 6),none,0⟩,
 ⟨(some 8),.faddr 1 (.tmp 2),none,0⟩,
 ⟨(some 9),.load none (.tmp 8),none,0⟩,
 ⟨(some 10),.call 96 true [(.tmp 5),(.tmp 7),(.tmp 9)],none,0⟩,
 ⟨(some 4),.mov (.tmp 10),none,0⟩])
 .ret))⟩
def f58 : AFunc:=⟨14,[.tmp 4],true,
 (.seq (.region 2 [] [
 ⟨(some 2),.box (.tmp 0),none,0⟩,
 ⟨(some 3),.box (.tmp 1),none,1⟩,
 ⟨(some 4),.mov (.cst (.c (.bool false))),none,2⟩])
 (.seq (.region 0 [] [
 ⟨(some 5),.load (some 9) (.tmp 2),none,0⟩,
 ⟨(some 6),.faddr 0 (.tmp 3),none,0⟩,
 ⟨(some 7),.load none (.tmp 6),none,0⟩,
 ⟨(some 8),.call 87 true [(.tmp 5),(.tmp 7)],none,0⟩,
 ⟨(some 9),.mov (.tmp 8),none,0⟩,
 ⟨(some 10),.faddr 1 (.tmp 3),some (9,true),0⟩,
 ⟨(some 11),.load (some 2) (.tmp 10),some (9,true),0⟩,
 ⟨(some 12),.call 101 true [(.tmp 11),(.cst (.c (.int .i64 1000)))],some (9,true),0⟩,
 ⟨(some 13),.pick (.tmp 9) (.tmp 12) (.cst (.c (.bool false))),none,0⟩,
 ⟨(some 4),.mov (.tmp 13),none,0⟩])
 .ret))⟩
def f59 : AFunc:=⟨21,[.tmp 2],false,
 (.seq (.region 1 [] [
 ⟨(some 1),.box (.tmp 0),none,0⟩,
 ⟨(some 2),.mov (.cst (.c (.bool false))),none,1⟩])
 (.seq (.region 0 [] [
 ⟨(some 3),.faddr 0 (.tmp 1),none,0⟩,
 ⟨(some 4),.load none (.tmp 3),none,0⟩,
 ⟨(some 5),.bin .geq (.tmp 4) (.cst (.c (.int .i64 0))),none,0⟩,
 ⟨(some 6),.mov (.tmp 5),none,0⟩,
 ⟨(some 7),.faddr 5 (.tmp 1),some (6,true),0⟩,
 ⟨(some 8),.load none (.tmp 7),some (6,true),0⟩,
 ⟨(some 9),.call 96 true [(.tmp 8),(.cst (.c (.int .i64 1))),(.cst (.c (.int .i64 10)))],some (6,true),0⟩,
 ⟨(some 10),.pick (.tmp 6) (.tmp 9) (.cst (.c (.bool false))),none,0⟩,
 ⟨(some 11),.mov (.tmp 10),none,0⟩,
 ⟨(some 12),.faddr 6 (.tmp 1),some (11,true),0⟩,
 ⟨(some 13),.load none (.tmp 12),some (11,true),0⟩,
 ⟨(some 14),.call 96 true [(.tmp 13),(.cst (.c (.int .i64 0))),(.cst (.c (.int .i64 50)))],some (11,true),0⟩,
 ⟨(some 15),.pick (.tmp 11) (.tmp 14) (.cst (.c (.bool false))),none,0⟩,
 ⟨(some 16),.mov (.tmp 15),none,0⟩,
 ⟨(some 17),.faddr 7 (.tmp 1),some (16,true),0⟩,
 ⟨(some 18),.load none (.tmp 17),some (16,true),0⟩,
 ⟨(some 19),.call 96 true [(.tmp 18),(.cst (.c (.int .i64 0))),(.cst (.c (.int .i64 100)))],some (16,true),0⟩,
 ⟨(some 20),.pick (.tmp 16) (.tmp 19) (.cst (.c (.bool false))),none,0⟩,
 ⟨(some 2),.mov (.tmp 20),none,0⟩])
 .ret))⟩
def f60 : AFunc:=⟨6,[.tmp 2],false,
 (.seq (.region 1 [] [
 ⟨(some 1),.box (.tmp 0),none,0⟩,
 ⟨(some 2),.mov (.cst (.c (.int .i64 0))),none,1⟩])
 (.seq (.region 0 [] [
 ⟨(some 3),.faddr 0 (.tmp 1),none,0⟩,
 ⟨(some 4),.load none (.tmp 3),none,0⟩,
 ⟨(some 5),.bin .add (.tmp 4) (.cst (.c (.int .i64 1))),none,0⟩,
 ⟨(some 2),.mov (.tmp 5),none,0⟩])
 .ret))⟩
def f61 : AFunc:=⟨14,[.tmp 2],false,
 (.seq (.region 1 [] [
 ⟨(some 1),.box (.tmp 0),none,0⟩,
 ⟨(some 2),.mov (.cst (.c (.bool false))),none,1⟩])
 (.seq (.region 1 [] [
 ⟨(some 3),.alloc [(.int .i64 0)],none,0⟩,
 ⟨none,.store none (.tmp 3) (.cst (.c (.int .i64 200))),none,1⟩])
 (.seq (.region 0 [] [
 ⟨(some 4),.faddr 3 (.tmp 1),none,0⟩,
 ⟨(some 5),.load none (.tmp 4),none,0⟩,
 ⟨(some 6),.len (.tmp 5),none,0⟩,
 ⟨(some 7),.bin .gtr (.tmp 6) (.cst (.c (.int .i64 0))),none,0⟩,
 ⟨(some 8),.mov (.tmp 7),none,0⟩,
 ⟨(some 9),.faddr 3 (.tmp 1),some (8,true),0⟩,
 ⟨(some 10),.load none (.tmp 9),some (8,true),0⟩,
 ⟨(some 11),.mkfn 102 none [(.tmp 3)],some (8,true),0⟩,
 ⟨(some 12),.call 64 false [(.tmp 10),(.tmp 11)],some (8,true),0⟩,
 ⟨(some 13),.pick (.tmp 8) (.tmp 12) (.cst (.c (.bool false))),none,0⟩,
 ⟨(some 2),.mov (.tmp 13),none,0⟩])
 .ret)))⟩
def f62 : AFunc:=⟨9,[.tmp 4],false,
 (.seq (.region 1 [] [
 ⟨(some 3),.box (.tmp 1),none,0⟩,
 ⟨(some 4),.mov (.cst (.c (.bool false))),none,1⟩])
 (.seq (.region 0 [] [
 ⟨(some 5),.mov (.tmp 0),none,0⟩,
 ⟨(some 6),.mkfn 104 none [(.tmp 3)],none,0⟩,
 ⟨(some 7),.call 103 false [(.tmp 5),(.tmp 6)],none,0⟩,
 ⟨(some 8),.not (.tmp 7),none,0⟩,
 ⟨(some 4),.mov (.tmp 8),none,0⟩])
 .ret))⟩
def f63 : AFunc:=⟨5,[.tmp 2],true,
 (.seq (.region 1 [] [
 ⟨(some 1),.box (.tmp 0),none,0⟩,
 ⟨(some 2),.mov (.cst (.c (.bool false))),none,1⟩])
 (.seq (.region 0 [] [
 ⟨(some 3),.load (some 2) (.tmp 1),none,0⟩,
 ⟨(some 4),.call 101 true [(.tmp 3),(.cst (.c (.int .i64 50)))],none,0⟩,
 ⟨(some 2),.mov (.tmp 4),none,0⟩])
 .ret))⟩
def f64 : AFunc:=⟨9,[.tmp 4],false,
 (.seq (.region 1 [] [
 ⟨(some 3),.box (.tmp 1),none,0⟩,
 ⟨(some 4),.mov (.cst (.c (.bool false))),none,1⟩])
 (.seq (.region 0 [] [
 ⟨(some 5),.mov (.tmp 0),none,0⟩,
 ⟨(some 6),.mkfn 106 none [(.tmp 3)],none,0⟩,
 ⟨(some 7),.call 105 false [(.tmp 5),(.tmp 6)],none,0⟩,
 ⟨(some 8),.not (.tmp 7),none,0⟩,
 ⟨(some 4),.mov (.tmp 8),none,0⟩])
 .ret))⟩
def f65 : AFunc:=⟨5,[.tmp 2],false,
 (.seq (.region 0 [] [
 ⟨(some 2),.mov (.cst (.c (.bool false))),none,0⟩])
 (.seq (.region 0 [] [
 ⟨(some 3),.mov (.tmp 0),none,0⟩,
 ⟨(some 4),.call 96 true [(.tmp 3),(.cst (.c (.int .i64 0))),(.cst (.c (.int .i64 2)))],none,0⟩,
 ⟨(some 2),.mov (.tmp 4),none,0⟩])
 .ret))⟩
def f66 : AFunc:=⟨29,[.tmp 2],false,
 (.seq (.region 1 [] [
 ⟨(some 1),.box (.tmp 0),none,0⟩,
 ⟨(some 2),.mov (.cst (.c .nils)),none,1⟩])
 (.seq (.region 1 [] [
 ⟨(some 7),.faddr 1 (.tmp 1),none,0⟩,
 ⟨(some 8),.load none (.tmp 7),none,0⟩,
 ⟨(some 9),.clone 107 2 16 (.tmp 8),none,0⟩,
 ⟨(some 3),.mov (.tmp 9),none,1⟩])
 (.seq (.seq (.region 0 [] [
 ⟨(some 10),.faddr 2 (.tmp 1),none,0⟩,
 ⟨(some 11),.load none (.tmp 10),none,0⟩,
 ⟨(some 12),.len (.tmp 11),none,0⟩,
 ⟨(some 13),.mov (.cst (.c (.int .i64 0))),none,0⟩])
 (.block 0 (.loop ⟨[5,6,14,15,16,17,18,19,20,21,22,23,24,25,26,27],true,[(3,none,2)]⟩
 (.seq (.region 0 [] [
 ⟨(some 14),.bin .lss (.tmp 13) (.tmp 12),none,0⟩])
 (.seq (.cond (.tmp 14)
 .skip
 (.exit 0))
 (.seq (.block 1 (.seq (.region 0 [] [
 ⟨(some 15),.iaddr 1 (.tmp 11) (.tmp 13),none,0⟩,
 ⟨(some 16),.load none (.tmp 15),none,0⟩,
 ⟨(some 5),.mov (.tmp 16),none,0⟩])
 (.seq (.region 1 [] [
 ⟨(some 17),.mov (.tmp 5),none,0⟩,
 ⟨(some 18),.mov (.tmp 5),none,0⟩,
 ⟨(some 19),.build [(.int .i64 0),(.int .i64 0)] [(0,1,(.tmp 17)),(1,1,(.tmp 18))],none,0⟩,
 ⟨(some 6),.alloc [(.int .i64 0),(.int .i64 0)],none,0⟩,
 ⟨none,.store (some 2) (.tmp 6) (.tmp 19),none,1⟩])
 (.seq (.seq (.region 0 [] [
 ⟨(some 20),.mov (.tmp 5),none,0⟩,
 ⟨(some 21),.bin .eql (.tmp 20) (.cst (.c (.int .i64 2))),none,0⟩])
 (.cond (.tmp 21)
 (.region 0 [] [
 ⟨(some 22),.build [(.int .i64 0),(.int .i64 0)] [(0,1,(.cst (.c (.int .i64 0)))),(1,1,(.cst (.c (.int .i64 1))))],none,0⟩,
 ⟨none,.store (some 2) (.tmp 6) (.tmp 22),none,0⟩])
 .skip))
 (.region 2 [] [
 ⟨(some 23),.mov (.tmp 3),none,0⟩,
 ⟨(some 24),.load (some 2) (.tmp 6),none,0⟩,
 ⟨(some 25),.bslice 2 1 [(.int .i64 0),(.int .i64 0)] [(0,(.tmp 24))],none,0⟩,
 ⟨(some 26),.append 2 16 (.tmp 23) (.tmp 25),none,1⟩,
 ⟨(some 3),.mov (.tmp 26),none,2⟩])))))
 (.region 0 [] [
 ⟨(some 27),.bin .add (.tmp 13) (.cst (.c (.int .i64 1))),none,0⟩,
 ⟨(some 13),.mov (.tmp 27),none,0⟩])))))))
 (.seq (.region 0 [] [
 ⟨(some 28),.mov (.tmp 3),none,0⟩,
 ⟨(some 2),.mov (.tmp 28),none,0⟩])
 .ret))))⟩
def f67 : AFunc:=⟨5,[.tmp 2],false,
 (.seq (.region 0 [] [
 ⟨(some 2),.mov (.cst (.c (.int .i64 0))),none,0⟩])
 (.seq (.region 0 [] [
 ⟨(some 3),.mov (.tmp 0),none,0⟩,
 ⟨(some 4),.call 108 true [(.tmp 3)],none,0⟩,
 ⟨(some 2),.mov (.tmp 4),none,0⟩])
 .ret))⟩
def f68 : AFunc:=⟨9,[.tmp 2],false,
 (.seq (.region 1 [] [
 ⟨(some 1),.box (.tmp 0),none,0⟩,
 ⟨(some 2),.mov (.cst (.c (.int .i64 0))),none,1⟩])
 (.seq (.region 0 [] [
 ⟨(some 3),.faddr 1 (.tmp 1),none,0⟩,
 ⟨(some 4),.load none (.tmp 3),none,0⟩,
 ⟨(some 5),.faddr 0 (.tmp 1),none,0⟩,
 ⟨(some 6),.load none (.tmp 5),none,0⟩,
 ⟨(some 7),.bin .sub (.tmp 4) (.tmp 6),none,0⟩,
 ⟨(some 8),.bin .add (.tmp 7) (.cst (.c (.int .i64 1))),none,0⟩,
 ⟨(some 2),.mov (.tmp 8),none,0⟩])
 .ret))⟩
def f72 : AFunc:=⟨9,[.tmp 2],false,
 (.seq (.region 1 [] [
 ⟨(some 1),.box (.tmp 0),none,0⟩,
 ⟨(some 2),.mov (.cst (.c (.int .i64 0))),none,1⟩])
 (.seq (.region 0 [] [
 ⟨(some 3),.faddr 1 (.tmp 1),none,0⟩,
 ⟨(some 4),.load none (.tmp 3),none,0⟩,
 ⟨(some 5),.faddr 0 (.tmp 1),none,0⟩,
 ⟨(some 6),.load none (.tmp 5),none,0⟩,
 ⟨(some 7),.bin .sub (.tmp 4) (.tmp 6),none,0⟩,
 ⟨(some 8),.bin .add (.tmp 7) (.cst (.c (.int .i64 1))),none,0⟩,
 ⟨(some 2),.mov (.tmp 8),none,0⟩])
 .ret))⟩
def f73 : AFunc:=⟨6,[.tmp 2],false,
 (.seq (.region 0 [] [
 ⟨(some 2),.mov (.cst (.c (.int .i64 0))),none,0⟩])
 (.seq (.region 0 [] [
 ⟨(some 3),.mov (.tmp 0),none,0⟩,
 ⟨(some 4),.bin .quo (.tmp 3) (.cst (.c (.int .i64 2))),none,0⟩,
 ⟨(some 5),.bin .add (.cst (.c (.int .i64 1))) (.tmp 4),none,0⟩,
 ⟨(some 2),.mov (.tmp 5),none,0⟩])
 .ret))⟩
def f74 : AFunc:=⟨39,[.tmp 10],false,
 (.seq (.region 0 [] [
 ⟨(some 10),.mov (.cst (.c (.bool false))),none,0⟩])
 (.seq (.seq (.region 0 [] [
 ⟨(some 12),.mov (.tmp 2),none,0⟩,
 ⟨(some 13),.bin .eql (.tmp 12) (.cst (.c (.int .i64 0))),none,0⟩])
 (.cond (.tmp 13)
 (.seq (.region 0 [] [
 ⟨(some 14),.mov (.tmp 0),none,0⟩,
 ⟨none,.store none (.tmp 3) (.tmp 14),none,0⟩])
 (.seq (.region 0 [] [
 ⟨(some 15),.load none (.tmp 4),none,0⟩,
 ⟨(some 16),.mov (.tmp 0),none,0⟩,
 ⟨(some 17),.call 75 false [(.tmp 15),(.tmp 16)],none,0⟩,
 ⟨(some 10),.mov (.tmp 17),none,0⟩])
 .ret))
 .skip))
 (.seq (.seq (.region 0 [] [
 ⟨(some 18),.mov (.tmp 1),none,0⟩,
 ⟨(some 11),.mov (.tmp 18),none,0⟩])
 (.block 0 (.loop ⟨[10,19,20,21,22,23,24,25,26,27,28,29,30,31,32,33,34,35,36,37,38],false,[]⟩
 (.seq (.seq (.region 0 [] [
 ⟨(some 19),.mov (.tmp 11),none,0⟩,
 ⟨(some 20),.faddr 8 (.tmp 5),none,0⟩,
 ⟨(some 21),.load none (.tmp 20),none,0⟩,
 ⟨(some 22),.len (.tmp 21),none,0⟩,
 ⟨(some 23),.mov (.tmp 2),none,0⟩,
 ⟨(some 24),.bin .sub (.tmp 22) (.tmp 23),none,0⟩,
 ⟨(some 25),.bin .leq (.tmp 19) (.tmp 24),none,0⟩])
 (.cond (.tmp 25)
 .skip
 (.exit 0)))
 (.seq (.block 1 (.seq (.region 3 [(0,1),(0,2),(0,3),(1,3),(2,3),(0,4),(1,4),(2,4),(0,5),(0,6),(1,6),(2,6),(3,6),(4,6),(5,6),(0,7),(1,7),(2,7),(3,7),(4,7),(5,7),(0,8),(1,8),(2,8),(3,8),(4,8),(5,8),(6,8),(7,8),(0,9),(1,9),(2,9),(3,9),(4,9),(5,9),(6,9),(7,9)] [
 ⟨(some 28),.load none (.tmp 6),none,0⟩,
 ⟨(some 29),.mov (.tmp 0),none,0⟩,
 ⟨(some 30),.clone 76 1 8 (.tmp 29),none,0⟩,
 ⟨(some 31),.mov (.tmp 11),none,1⟩,
 ⟨(some 32),.bslice 1 1 [(.int .i64 0)] [(0,(.tmp 31))],none,1⟩,
 ⟨(some 33),.append 1 8 (.tmp 30) (.tmp 32),none,2⟩,
 ⟨(some 34),.mov (.tmp 11),none,3⟩,
 ⟨(some 35),.bin .add (.tmp 34) (.cst (.c (.int .i64 1))),none,3⟩,
 ⟨(some 36),.mov (.tmp 2),none,3⟩,
 ⟨(some 37),.bin .sub (.tmp 36) (.cst (.c (.int .i64 1))),none,3⟩,
 ⟨(some 38),.callv (.tmp 28) [(.tmp 33),(.tmp 35),(.tmp 37)],none,3⟩])
 (.cond (.tmp 38)
 (.seq (.region 0 [] [
 ⟨(some 10),.mov (.cst (.c (.bool true))),none,0⟩])
 .ret)
 .skip)))
 (.region 0 [] [
 ⟨(some 26),.mov (.tmp 11),none,0⟩,
 ⟨(some 27),.bin .add (.tmp 26) (.cst (.c (.int .i64 1))),none,0⟩,
 ⟨(some 11),.mov (.tmp 27),none,0⟩]))))))
 (.seq (.region 0 [] [
 ⟨(some 10),.mov (.cst (.c (.bool false))),none,0⟩])
 .ret))))⟩
def f75 : AFunc:=⟨9,[.cell 4 none],false,
 (.seq (.region 1 [] [
 ⟨(some 4),.alloc [(.bool false)],none,0⟩])
 (.seq (.seq (.region 0 [] [
 ⟨(some 5),.mov (.tmp 0),none,0⟩,
 ⟨(some 6),.mov (.tmp 1),none,0⟩,
 ⟨(some 7),.call 81 false [(.tmp 5),(.tmp 6)],none,0⟩])
 (.block 0 (.range (.tmp 7) [8]
 .skip
 (.block 1 (.seq (.region 0 [] [
 ⟨none,.store none (.tmp 4) (.cst (.c (.bool true))),none,0⟩])
 .ret)))))
 (.seq (.region 0 [] [
 ⟨none,.store none (.tmp 4) (.cst (.c (.bool false))),none,0⟩])
 .ret)))⟩
def f76 : AFunc:=⟨8,[.tmp 2],false,
 (.seq (.region 0 [] [
 ⟨(some 2),.mov (.cst (.c .nils)),none,0⟩])
 (.seq (.seq (.region 0 [] [
 ⟨(some 3),.mov (.tmp 0),none,0⟩,
 ⟨(some 4),.isnil false (.tmp 3),none,0⟩])
 (.cond (.tmp 4)
 (.seq (.region 0 [] [
 ⟨(some 2),.mov (.cst (.c .nils)),none,0⟩])
 .ret)
 .skip))
 (.seq (.region 2 [] [
 ⟨(some 5),.bslice 1 0 [(.int .i64 0)] [],none,0⟩,
 ⟨(some 6),.mov (.tmp 0),none,1⟩,
 ⟨(some 7),.append 1 8 (.tmp 5) (.tmp 6),none,1⟩,
 ⟨(some 2),.mov (.tmp 7),none,2⟩])
 .ret)))⟩
def f77 : AFunc:=⟨11,[.tmp 4,.tmp 5],false,
 (.seq (.region 2 [] [
 ⟨(some 2),.box (.tmp 0),none,0⟩,
 ⟨(some 3),.box (.tmp 1),none,1⟩,
 ⟨(some 4),.mov (.cst (.c .nilp)),none,2⟩,
 ⟨(some 5),.mov (.cst (.c (.int .i64 0))),none,2⟩])
 (.seq (.region 0 [] [
 ⟨(some 6),.load (some 9) (.tmp 2),none,0⟩,
 ⟨(some 7),.mkfn 109 none [(.tmp 3)],none,0⟩,
 ⟨(some 8),.call 85 false [(.tmp 6),(.tmp 7)],none,0⟩,
 ⟨(some 9),.extract 0 (.tmp 8),none,0⟩,
 ⟨(some 10),.extract 1 (.tmp 8),none,0⟩,
 ⟨(some 4),.mov (.tmp 9),none,0⟩,
 ⟨(some 5),.mov (.tmp 10),none,0⟩])
 .ret))⟩
def f78 : AFunc:=⟨22,[.cell 4 (some 2)],false,
 (.seq (.region 2 [] [
 ⟨(some 3),.box (.tmp 1),none,0⟩,
 ⟨(some 4),.alloc [(.int .i64 0),(.int .i64 0)],none,1⟩])
 (.seq (.region 1 [] [
 ⟨(some 5),.alloc [(.bool false)],none,0⟩,
 ⟨none,.store none (.tmp 5) (.cst (.c (.bool true))),none,1⟩])
 (.seq (.seq (.region 0 [] [
 ⟨(some 8),.mov (.tmp 0),none,0⟩,
 ⟨(some 9),.call 81 false [(.tmp 8),(.cst (.c .nils))],none,0⟩])
 (.block 0 (.range (.tmp 9) [10]
 (.region 1 [] [
 ⟨(some 6),.alloc [.nils,.nils],none,0⟩,
 ⟨none,.store (some 2) (.tmp 6) (.tmp 10),none,1⟩])
 (.block 1 (.seq (.region 0 [] [
 ⟨(some 11),.load none (.tmp 3),none,0⟩,
 ⟨(some 12),.load (some 2) (.tmp 6),none,0⟩,
 ⟨(some 13),.callv (.tmp 11) [(.tmp 12)],none,0⟩,
 ⟨(some 7),.mov (.tmp 13),none,0⟩])
 (.seq (.seq (.region 0 [] [
 ⟨(some 14),.load none (.tmp 5),none,0⟩])
 (.cond (.tmp 14)
 (.region 0 [] [
 ⟨(some 15),.mov (.tmp 7),none,0⟩,
 ⟨(some 16),.mov (.tmp 7),none,0⟩,
 ⟨(some 17),.build [(.int .i64 0),(.int .i64 0)] [(0,1,(.tmp 15)),(1,1,(.tmp 16))],none,0⟩,
 ⟨none,.store (some 2) (.tmp 4) (.tmp 17),none,0⟩,
 ⟨none,.store none (.tmp 5) (.cst (.c (.bool false))),none,0⟩])
 .skip))
 (.region 0 [] [
 ⟨(some 18),.load (some 2) (.tmp 4),none,0⟩,
 ⟨(some 19),.mov (.tmp 7),none,0⟩,
 ⟨(some 20),.call 110 true [(.tmp 18),(.tmp 19)],none,0⟩,
 ⟨none,.store (some 2) (.tmp 4) (.tmp 20),none,0⟩])))))))
 (.seq (.region 0 [] [
 ⟨(some 21),.load (some 2) (.tmp 4),none,0⟩,
 ⟨none,.store (some 2) (.tmp 4) (.tmp 21),none,0⟩])
 .ret))))⟩
def f79 : AFunc:=⟨9,[.tmp 4],false,
 (.seq (.region 1 [] [
 ⟨(some 3),.box (.tmp 0),none,0⟩,
 ⟨(some 4),.mov (.cst (.c (.int .i64 0))),none,1⟩])
 (.seq (.region 0 [] [
 ⟨(some 5),.load none (.tmp 1),none,0⟩,
 ⟨(some 6),.load (some 2) (.tmp 3),none,0⟩,
 ⟨(some 7),.load none (.tmp 2),none,0⟩,
 ⟨(some 8),.call 80 false [(.tmp 5),(.tmp 6),(.tmp 7)],none,0⟩,
 ⟨(some 4),.mov (.tmp 8),none,0⟩])
 .ret))⟩
def f80 : AFunc:=⟨24,[.tmp 6],false,
 (.seq (.region 1 [] [
 ⟨(some 4),.box (.tmp 1),none,0⟩,
 ⟨(some 6),.mov (.cst (.c (.int .i64 0))),none,1⟩])
 (.seq (.seq (.region 0 [] [
 ⟨(some 9),.mov (.tmp 0),none,0⟩,
 ⟨(some 10),.load (some 2) (.tmp 4),none,0⟩,
 ⟨(some 11),.mov (.tmp 2),none,0⟩,
 ⟨(some 12),.call 52 false [(.tmp 9),(.tmp 10),(.tmp 11)],none,0⟩,
 ⟨(some 13),.len (.tmp 12),none,0⟩,
 ⟨(some 14),.mov (.cst (.c (.int .i64 0))),none,0⟩])
 (.block 0 (.loop ⟨[8,15,16,17,18,19,20,21,22],false,[]⟩
 (.seq (.region 0 [] [
 ⟨(some 15),.bin .lss (.tmp 14) (.tmp 13),none,0⟩])
 (.seq (.cond (.tmp 15)
 .skip
 (.exit 0))
 (.seq (.block 1 (.seq (.region 1 [] [
 ⟨(some 16),.iaddr 3 (.tmp 12) (.tmp 14),none,0⟩,
 ⟨(some 17),.load (some 3) (.tmp 16),none,0⟩,
 ⟨(some 8),.alloc [(.int .i64 0),(.int .i64 0),(.int .i64 0)],none,0⟩,
 ⟨none,.store (some 3) (.tmp 8) (.tmp 17),none,1⟩])
 (.region 0 [] [
 ⟨(some 18),.mov (.tmp 6),none,0⟩,
 ⟨(some 19),.faddr 2 (.tmp 8),none,0⟩,
 ⟨(some 20),.load none (.tmp 19),none,0⟩,
 ⟨(some 21),.bin .add (.tmp 18) (.tmp 20),none,0⟩,
 ⟨(some 6),.mov (.tmp 21),none,0⟩])))
 (.region 0 [] [
 ⟨(some 22),.bin .add (.tmp 14) (.cst (.c (.int .i64 1))),none,0⟩,
 ⟨(some 14),.mov (.tmp 22),none,0⟩])))))))
 (.seq (.region 0 [] [
 ⟨(some 23),.mov (.tmp 6),none,0⟩,
 ⟨(some 6),.mov (.tmp 23),none,0⟩])
 .ret)))⟩
def f81 : AFunc:=⟨6,[.tmp 4],false,
 (.seq (.region 2 [] [
 ⟨(some 2),.box (.tmp 0),none,0⟩,
 ⟨(some 3),.box (.tmp 1),none,1⟩,
 ⟨(some 4),.mov (.cst (.c .nilfn)),none,2⟩])
 (.seq (.region 0 [] [
 ⟨(some 5),.mkfn 111 none [(.tmp 2),(.tmp 3)],none,0⟩,
 ⟨(some 4),.mov (.tmp 5),none,0⟩])
 .ret))⟩
def f82 : AFunc:=⟨44,[],false,
 (.seq (.seq (.region 0 [] [
 ⟨(some 12),.load none (.tmp 2),none,0⟩,
 ⟨(some 13),.load none (.tmp 3),none,0⟩,
 ⟨(some 14),.mov (.tmp 0),none,0⟩,
 ⟨(some 15),.call 83 false [(.tmp 12),(.tmp 13),(.tmp 14)],none,0⟩,
 ⟨(some 10),.mov (.tmp 15),none,0⟩])
 (.seq (.region 0 [] [
 ⟨(some 16),.mov (.tmp 10),none,0⟩,
 ⟨(some 17),.load none (.tmp 4),none,0⟩,
 ⟨(some 18),.bin .gtr (.tmp 16) (.tmp 17),none,0⟩])
 (.cond (.tmp 18)
 (.region 1 [] [
 ⟨(some 19),.mov (.tmp 0),none,0⟩,
 ⟨(some 20),.clone 76 1 8 (.tmp 19),none,0⟩,
 ⟨(some 21),.mov (.tmp 10),none,1⟩,
 ⟨none,.store none (.tmp 5) (.tmp 20),none,1⟩,
 ⟨none,.store none (.tmp 4) (.tmp 21),none,1⟩])
 .skip)))
 (.seq (.seq (.region 0 [] [
 ⟨(some 22),.mov (.tmp 0),none,0⟩,
 ⟨(some 23),.len (.tmp 22),none,0⟩,
 ⟨(some 24),.faddr 3 (.tmp 6),none,0⟩,
 ⟨(some 25),.load none (.tmp 24),none,0⟩,
 ⟨(some 26),.len (.tmp 25),none,0⟩,
 ⟨(some 27),.bin .eql (.tmp 23) (.tmp 26),none,0⟩])
 (.cond (.tmp 27)
 .ret
 .skip))
 (.seq (.region 0 [] [
 ⟨(some 28),.mov (.tmp 1),none,0⟩,
 ⟨(some 11),.mov (.tmp 28),none,0⟩])
 (.block 0 (.loop ⟨[29,30,31,32,33,34,35,36,37,38,39,40,41,42,43],false,[]⟩
 (.seq (.seq (.region 0 [] [
 ⟨(some 29),.mov (.tmp 11),none,0⟩,
 ⟨(some 30),.faddr 0 (.tmp 6),none,0⟩,
 ⟨(some 31),.load none (.tmp 30),none,0⟩,
 ⟨(some 32),.bin .leq (.tmp 29) (.tmp 31),none,0⟩])
 (.cond (.tmp 32)
 .skip
 (.exit 0)))
 (.seq (.block 1 (.region 3 [(0,1),(0,2),(0,3),(1,3),(2,3),(0,4),(1,4),(2,4),(0,5),(0,6),(1,6),(2,6),(3,6),(4,6),(5,6),(0,7),(1,7),(2,7),(3,7),(4,7),(5,7)] [
 ⟨(some 35),.load none (.tmp 7),none,0⟩,
 ⟨(some 36),.mov (.tmp 0),none,0⟩,
 ⟨(some 37),.clone 76 1 8 (.tmp 36),none,0⟩,
 ⟨(some 38),.mov (.tmp 11),none,1⟩,
 ⟨(some 39),.bslice 1 1 [(.int .i64 0)] [(0,(.tmp 38))],none,1⟩,
 ⟨(some 40),.append 1 8 (.tmp 37) (.tmp 39),none,2⟩,
 ⟨(some 41),.mov (.tmp 11),none,3⟩,
 ⟨(some 42),.bin .add (.tmp 41) (.cst (.c (.int .i64 1))),none,3⟩,
 ⟨(some 43),.callv (.tmp 35) [(.tmp 40),(.tmp 42)],none,3⟩]))
 (.region 0 [] [
 ⟨(some 33),.mov (.tmp 11),none,0⟩,
 ⟨(some 34),.bin .add (.tmp 33) (.cst (.c (.int .i64 1))),none,0⟩,
 ⟨(some 11),.mov (.tmp 34),none,0⟩]))))))))⟩
def f83 : AFunc:=⟨31,[.tmp 6],false,
 (.seq (.region 0 [] [
 ⟨(some 6),.mov (.cst (.c (.int .i64 0))),none,0⟩])
 (.seq (.region 0 [] [
 ⟨(some 10),.mov (.tmp 0),none,0⟩,
 ⟨(some 11),.mov (.tmp 1),none,0⟩,
 ⟨(some 12),.iaddr 2 (.tmp 11) (.cst (.c (.int .i64 0))),none,0⟩,
 ⟨(some 13),.load (some 2) (.tmp 12),none,0⟩,
 ⟨(some 14),.mov (.tmp 2),none,0⟩,
 ⟨(some 15),.call 80 false [(.tmp 10),(.tmp 13),(.tmp 14)],none,0⟩,
 ⟨(some 7),.mov (.tmp 15),none,0⟩])
 (.seq (.seq (.region 0 [] [
 ⟨(some 16),.mov (.tmp 1),none,0⟩,
 ⟨(some 17),.len (.tmp 16),none,0⟩,
 ⟨(some 18),.mov (.cst (.c (.int .i64 0))),none,0⟩])
 (.block 0 (.loop ⟨[9,19,20,21,22,23,24,25,26,27,28,29],false,[]⟩
 (.seq (.region 0 [] [
 ⟨(some 19),.bin .lss (.tmp 18) (.tmp 17),none,0⟩])
 (.seq (.cond (.tmp 19)
 .skip
 (.exit 0))
 (.seq (.block 1 (.seq (.region 1 [] [
 ⟨(some 20),.iaddr 2 (.tmp 16) (.tmp 18),none,0⟩,
 ⟨(some 21),.load (some 2) (.tmp 20),none,0⟩,
 ⟨(some 9),.alloc [.nils,.nils],none,0⟩,
 ⟨none,.store (some 2) (.tmp 9) (.tmp 21),none,1⟩])
 (.region 1 [] [
 ⟨(some 22),.mov (.tmp 7),none,0⟩,
 ⟨(some 23),.mov (.tmp 0),none,0⟩,
 ⟨(some 24),.load (some 2) (.tmp 9),none,0⟩,
 ⟨(some 25),.mov (.tmp 2),none,0⟩,
 ⟨(some 26),.call 80 false [(.tmp 23),(.tmp 24),(.tmp 25)],none,0⟩,
 ⟨(some 27),.bslice 1 2 [(.int .i64 0)] [(0,(.tmp 22)),(1,(.tmp 26))],none,0⟩,
 ⟨(some 28),.call 67 true [(.tmp 27)],none,1⟩,
 ⟨(some 7),.mov (.tmp 28),none,1⟩])))
 (.region 0 [] [
 ⟨(some 29),.bin .add (.tmp 18) (.cst (.c (.int .i64 1))),none,0⟩,
 ⟨(some 18),.mov (.tmp 29),none,0⟩])))))))
 (.seq (.region 0 [] [
 ⟨(some 30),.mov (.tmp 7),none,0⟩,
 ⟨(some 6),.mov (.tmp 30),none,0⟩])
 .ret))))⟩
def f85 : AFunc:=⟨23,[.tmp 4,.tmp 5],false,
 (.seq (.region 1 [] [
 ⟨(some 2),.box (.tmp 0),none,0⟩,
 ⟨(some 4),.mov (.cst (.c .nilp)),none,1⟩,
 ⟨(some 5),.mov (.cst (.c (.int .i64 0))),none,1⟩])
 (.seq (.seq (.region 0 [] [
 ⟨(some 8),.load (some 9) (.tmp 2),none,0⟩,
 ⟨(some 9),.call 20 true [(.tmp 8)],none,0⟩,
 ⟨(some 6),.mov (.tmp 9),none,0⟩])
 (.seq (.region 0 [] [
 ⟨(some 10),.mov (.tmp 6),none,0⟩,
 ⟨(some 11),.bin .neq (.tmp 10) (.cst (.c (.int .i64 0))),none,0⟩])
 (.cond (.tmp 11)
 (.seq (.region 0 [] [
 ⟨(some 12),.mov (.tmp 6),none,0⟩,
 ⟨(some 4),.mov (.cst (.c .nilp)),none,0⟩,
 ⟨(some 5),.mov (.tmp 12),none,0⟩])
 .ret)
 .skip)))
 (.seq (.seq (.region 0 [] [
 ⟨(some 13),.mov (.tmp 1),none,0⟩,
 ⟨(some 14),.load (some 9) (.tmp 2),none,0⟩,
 ⟨(some 15),.callv (.tmp 13) [(.tmp 14)],none,0⟩,
 ⟨(some 16),.not (.tmp 15),none,0⟩])
 (.cond (.tmp 16)
 (.seq (.region 0 [] [
 ⟨(some 4),.mov (.cst (.c .nilp)),none,0⟩,
 ⟨(some 5),.mov (.cst (.c (.int .i64 2))),none,0⟩])
 .ret)
 .skip))
 (.seq (.region 0 [] [
 ⟨(some 17),.load (some 9) (.tmp 2),none,0⟩,
 ⟨(some 18),.call 51 false [(.tmp 17)],none,0⟩,
 ⟨(some 7),.mov (.tmp 18),none,0⟩])
 (.seq (.seq (.region 0 [] [
 ⟨(some 19),.mov (.tmp 7),none,0⟩,
 ⟨(some 20),.call 75 false [(.tmp 19),(.cst (.c .nils))],none,0⟩,
 ⟨(some 21),.not (.tmp 20),none,0⟩])
 (.cond (.tmp 21)
 (.seq (.region 0 [] [
 ⟨(some 4),.mov (.cst (.c .nilp)),none,0⟩,
 ⟨(some 5),.mov (.cst (.c (.int .i64 11))),none,0⟩])
 .ret)
 .skip))
 (.seq (.region 0 [] [
 ⟨(some 22),.mov (.tmp 7),none,0⟩,
 ⟨(some 4),.mov (.tmp 22),none,0⟩,
 ⟨(some 5),.mov (.cst (.c (.int .i64 0))),none,0⟩])
 .ret))))))⟩
def f86 : AFunc:=⟨7,[.tmp 3],false,
 (.seq (.region 1 [] [
 ⟨(some 2),.box (.tmp 0),none,0⟩,
 ⟨(some 3),.mov (.cst (.c (.bool false))),none,1⟩])
 (.seq (.region 0 [] [
 ⟨(some 4),.load (some 9) (.tmp 2),none,0⟩,
 ⟨(some 5),.load none (.tmp 1),none,0⟩,
 ⟨(some 6),.call 87 true [(.tmp 4),(.tmp 5)],none,0⟩,
 ⟨(some 3),.mov (.tmp 6),none,0⟩])
 .ret))⟩
def f87 : AFunc:=⟨9,[.tmp 4],false,
 (.seq (.region 1 [] [
 ⟨(some 2),.box (.tmp 0),none,0⟩,
 ⟨(some 4),.mov (.cst (.c (.bool false))),none,1⟩])
 (.seq (.region 0 [] [
 ⟨(some 5),.mov (.tmp 1),none,0⟩,
 ⟨(some 6),.faddr 0 (.tmp 2),none,0⟩,
 ⟨(some 7),.load none (.tmp 6),none,0⟩,
 ⟨(some 8),.call 96 true [(.tmp 5),(.cst (.c (.int .i64 0))),(.tmp 7)],none,0⟩,
 ⟨(some 4),.mov (.tmp 8),none,0⟩])
 .ret))⟩
def f88 : AFunc:=⟨15,[.tmp 4],false,
 (.seq (.region 1 [] [
 ⟨(some 3),.box (.tmp 0),none,0⟩,
 ⟨(some 4),.mov (.cst (.c (.int .i64 0))),none,1⟩])
 (.seq (.region 0 [(0,1),(0,2),(1,2),(0,3),(1,3),(0,4),(1,4),(0,5),(1,5),(0,6),(1,6),(0,8),(1,8),(2,8),(3,8),(4,8),(5,8),(6,8),(7,8)] [
 ⟨(some 5),.load none (.tmp 1),none,0⟩,
 ⟨(some 6),.load (some 2) (.tmp 3),none,0⟩,
 ⟨(some 7),.load none (.tmp 1),none,0⟩,
 ⟨(some 8),.nilchk (.tmp 7),none,0⟩,
 ⟨(some 9),.faddr 0 (.tmp 8),none,0⟩,
 ⟨(some 10),.faddr 4 (.tmp 9),none,0⟩,
 ⟨(some 11),.load none (.tmp 10),none,0⟩,
 ⟨(some 12),.call 54 true [(.tmp 5),(.tmp 6),(.tmp 11)],none,0⟩,
 ⟨(some 13),.load none (.tmp 2),none,0⟩,
 ⟨(some 14),.idx 10 1 none (.tmp 12) (.tmp 13),none,0⟩,
 ⟨(some 4),.mov (.tmp 14),none,0⟩])
 .ret))⟩
def f89 : AFunc:=⟨5,[.tmp 2],false,
 (.seq (.region 1 [] [
 ⟨(some 1),.box (.tmp 0),none,0⟩,
 ⟨(some 2),.mov (.cst (.c (.int .i64 0))),none,1⟩])
 (.seq (.region 0 [] [
 ⟨(some 3),.faddr 0 (.tmp 1),none,0⟩,
 ⟨(some 4),.load none (.tmp 3),none,0⟩,
 ⟨(some 2),.mov (.tmp 4),none,0⟩])
 .ret))⟩
def f90 : AFunc:=⟨12,[.cell 8 (some 2)],false,
 (.seq (.region 5 [] [
 ⟨(some 4),.box (.tmp 0),none,0⟩,
 ⟨(some 5),.box (.tmp 1),none,1⟩,
 ⟨(some 6),.box (.tmp 2),none,2⟩,
 ⟨(some 7),.box (.tmp 3),none,3⟩,
 ⟨(some 8),.alloc [(.int .i64 0),(.int .i64 0)],none,4⟩])
 (.seq (.region 0 [] [
 ⟨(some 9),.load none (.tmp 5),none,0⟩,
 ⟨(some 10),.mkfn 113 none [(.tmp 4),(.tmp 5),(.tmp 6),(.tmp 7)],none,0⟩,
 ⟨(some 11),.call 78 false [(.tmp 9),(.tmp 10)],none,0⟩,
 ⟨none,.store (some 2) (.tmp 8) (.tmp 11),none,0⟩])
 .ret))⟩
def f91 : AFunc:=⟨35,[.tmp 6],false,
 (.seq (.region 1 [] [
 ⟨(some 3),.box (.tmp 0),none,0⟩,
 ⟨(some 6),.mov (.cst (.c (.int .i64 0))),none,1⟩])
 (.seq (.region 0 [] [
 ⟨(some 7),.mov (.cst (.c (.int .i64 (-1)))),none,0⟩])
 (.seq (.seq (.region 0 [] [
 ⟨(some 8),.mov (.tmp 2),none,0⟩,
 ⟨(some 9),.bin .gtr (.tmp 8) (.cst (.c (.int .i64 0))),none,0⟩])
 (.cond (.tmp 9)
 (.region 0 [] [
 ⟨(some 10),.mov (.tmp 1),none,0⟩,
 ⟨(some 11),.mov (.tmp 2),none,0⟩,
 ⟨(some 12),.bin .sub (.tmp 11) (.cst (.c (.int .i64 1))),none,0⟩,
 ⟨(some 13),.iaddr 1 (.tmp 10) (.tmp 12),none,0⟩,
 ⟨(some 14),.load none (.tmp 13),none,0⟩,
 ⟨(some 7),.mov (.tmp 14),none,0⟩])
 .skip))
 (.seq (.region 0 [(0,2),(1,2),(0,5),(1,5),(2,5),(3,5),(4,5),(0,6),(1,6),(2,6),(3,6),(4,6),(0,7),(1,7),(2,7),(3,7),(4,7),(5,7),(6,7),(0,8),(1,8),(2,8),(3,8),(4,8),(5,8),(6,8),(7,8),(0,9),(1,9),(2,9),(3,9),(4,9),(5,9),(6,9),(0,10),(1,10),(2,10),(3,10),(4,10),(5,10),(6,10),(0,11),(1,11),(2,11),(3,11),(4,11),(5,11),(6,11),(7,11),(8,11),(9,11),(10,11),(0,12),(1,12),(2,12),(3,12),(4,12),(5,12),(6,12),(0,13),(1,13),(2,13),(3,13),(4,13),(5,13),(6,13),(7,13),(8,13),(9,13),(10,13),(11,13),(12,13),(0,14),(1,14),(2,14),(3,14),(4,14),(5,14),(6,14),(7,14),(8,14),(9,14),(10,14),(11,14),(12,14),(0,15),(1,15),(2,15),(3,15),(4,15),(5,15),(6,15),(0,16),(1,16),(2,16),(3,16),(4,16),(5,16),(6,16),(0,17),(1,17),(2,17),(3,17),(4,17)] [
 ⟨(some 15),.faddr 3 (.tmp 3),none,0⟩,
 ⟨(some 16),.load none (.tmp 15),none,0⟩,
 ⟨(some 17),.mov (.tmp 2),none,0⟩,
 ⟨(some 18),.iaddr 1 (.tmp 16) (.tmp 17),none,0⟩,
 ⟨(some 19),.load none (.tmp 18),none,0⟩,
 ⟨(some 20),.faddr 6 (.tmp 3),none,0⟩,
 ⟨(some 21),.load none (.tmp 20),none,0⟩,
 ⟨(some 22),.mov (.tmp 1),none,0⟩,
 ⟨(some 23),.mov (.tmp 2),none,0⟩,
 ⟨(some 24),.iaddr 1 (.tmp 22) (.tmp 23),none,0⟩,
 ⟨(some 25),.load none (.tmp 24),none,0⟩,
 ⟨(some 26),.mov (.tmp 7),none,0⟩,
 ⟨(some 27),.bin .sub (.tmp 25) (.tmp 26),none,0⟩,
 ⟨(some 28),.faddr 5 (.tmp 3),none,0⟩,
 ⟨(some 29),.load none (.tmp 28),none,0⟩,
 ⟨(some 30),.bin .sub (.tmp 27) (.tmp 29),none,0⟩,
 ⟨(some 31),.mm true (.cst (.c (.int .i64 0))) (.tmp 30),none,0⟩,
 ⟨(some 32),.bin .mul (.tmp 21) (.tmp 31),none,0⟩,
 ⟨(some 33),.bin .sub (.tmp 19) (.tmp 32),none,0⟩,
 ⟨(some 34),.mm true (.cst (.c (.int .i64 0))) (.tmp 33),none,0⟩,
 ⟨(some 6),.mov (.tmp 34),none,0⟩])
 .ret))))⟩
def f92 : AFunc:=⟨5,[.tmp 2],false,
 (.seq (.region 1 [] [
 ⟨(some 1),.box (.tmp 0),none,0⟩,
 ⟨(some 2),.mov (.cst (.c (.int .i64 0))),none,1⟩])
 (.seq (.region 0 [] [
 ⟨(some 3),.faddr 2 (.tmp 1),none,0⟩,
 ⟨(some 4),.load none (.tmp 3),none,0⟩,
 ⟨(some 2),.mov (.tmp 4),none,0⟩])
 .ret))⟩
def f93 : AFunc:=⟨24,[.tmp 6],false,
 (.seq (.region 1 [] [
 ⟨(some 3),.box (.tmp 0),none,0⟩,
 ⟨(some 6),.mov (.cst (.c (.bool false))),none,1⟩])
 (.seq (.region 0 [] [
 ⟨(some 7),.faddr 0 (.tmp 3),none,0⟩,
 ⟨(some 8),.load none (.tmp 7),none,0⟩,
 ⟨(some 9),.mov (.tmp 1),none,0⟩,
 ⟨(some 10),.bin .geq (.tmp 8) (.tmp 9),none,0⟩,
 ⟨(some 11),.mov (.tmp 10),none,0⟩,
 ⟨(some 12),.faddr 0 (.tmp 3),some (11,true),0⟩,
 ⟨(some 13),.load none (.tmp 12),some (11,true),0⟩,
 ⟨(some 14),.faddr 1 (.tmp 3),some (11,true),0⟩,
 ⟨(some 15),.load none (.tmp 14),some (11,true),0⟩,
 ⟨(some 16),.bin .leq (.tmp 13) (.tmp 15),some (11,true),0⟩,
 ⟨(some 17),.pick (.tmp 11) (.tmp 16) (.cst (.c (.bool false))),none,0⟩,
 ⟨(some 18),.mov (.tmp 17),none,0⟩,
 ⟨(some 19),.faddr 1 (.tmp 3),some (18,true),0⟩,
 ⟨(some 20),.load none (.tmp 19),some (18,true),0⟩,
 ⟨(some 21),.mov (.tmp 2),some (18,true),0⟩,
 ⟨(some 22),.bin .leq (.tmp 20) (.tmp 21),some (18,true),0⟩,
 ⟨(some 23),.pick (.tmp 18) (.tmp 22) (.cst (.c (.bool false))),none,0⟩,
 ⟨(some 6),.mov (.tmp 23),none,0⟩])
 .ret))⟩
def f94 : AFunc:=⟨36,[.tmp 2],false,
 (.seq (.region 0 [] [
 ⟨(some 2),.mov (.cst (.c .nils)),none,0⟩])
 (.seq (.region 0 [] [
 ⟨(some 3),.mov (.cst (.c (.int .i64 0))),none,0⟩])
 (.seq (.seq (.region 0 [] [
 ⟨(some 9),.mov (.tmp 0),none,0⟩,
 ⟨(some 10),.len (.tmp 9),none,0⟩,
 ⟨(some 11),.mov (.cst (.c (.int .i64 0))),none,0⟩])
 (.block 0 (.loop ⟨[5,12,13,14,15,16,17,18,19,20,21,22],false,[]⟩
 (.seq (.region 0 [] [
 ⟨(some 12),.bin .lss (.tmp 11) (.tmp 10),none,0⟩])
 (.seq (.cond (.tmp 12)
 .skip
 (.exit 0))
 (.seq (.block 1 (.seq (.region 0 [] [
 ⟨(some 13),.iaddr 1 (.tmp 9) (.tmp 11),none,0⟩,
 ⟨(some 14),.load none (.tmp 13),none,0⟩,
 ⟨(some 5),.mov (.tmp 14),none,0⟩])
 (.seq (.region 0 [] [
 ⟨(some 15),.mov (.tmp 3),none,0⟩,
 ⟨(some 16),.mov (.tmp 5),none,0⟩,
 ⟨(some 17),.len (.tmp 16),none,0⟩,
 ⟨(some 18),.bin .add (.tmp 15) (.tmp 17),none,0⟩,
 ⟨(some 3),.mov (.tmp 18),none,0⟩])
 (.seq (.region 0 [] [
 ⟨(some 19),.mov (.tmp 3),none,0⟩,
 ⟨(some 20),.bin .lss (.tmp 19) (.cst (.c (.int .i64 0))),none,0⟩])
 (.cond (.tmp 20)
 (.region 0 [] [
 ⟨(some 21),.pick (.cst (.c .any)) (.cst (.c .any)) (.cst (.c .any)),none,0⟩,
 ⟨none,.pick (.cst (.c .any)) (.cst (.c .any)) (.cst (.c .any)),none,0⟩])
 .skip)))))
 (.region 0 [] [
 ⟨(some 22),.bin .add (.tmp 11) (.cst (.c (.int .i64 1))),none,0⟩,
 ⟨(some 11),.mov (.tmp 22),none,0⟩])))))))
 (.seq (.region 1 [] [
 ⟨(some 23),.mov (.tmp 3),none,0⟩,
 ⟨(some 24),.grow 114 1 8 (.tmp 23),none,0⟩,
 ⟨(some 6),.mov (.tmp 24),none,1⟩])
 (.seq (.seq (.region 0 [] [
 ⟨(some 25),.mov (.tmp 0),none,0⟩,
 ⟨(some 26),.len (.tmp 25),none,0⟩,
 ⟨(some 27),.mov (.cst (.c (.int .i64 0))),none,0⟩])
 (.block 2 (.loop ⟨[8,28,29,30,31,32,33,34],true,[(6,none,1)]⟩
 (.seq (.region 0 [] [
 ⟨(some 28),.bin .lss (.tmp 27) (.tmp 26),none,0⟩])
 (.seq (.cond (.tmp 28)
 .skip
 (.exit 2))
 (.seq (.block 3 (.seq (.region 0 [] [
 ⟨(some 29),.iaddr 1 (.tmp 25) (.tmp 27),none,0⟩,
 ⟨(some 30),.load none (.tmp 29),none,0⟩,
 ⟨(some 8),.mov (.tmp 30),none,0⟩])
 (.region 1 [] [
 ⟨(some 31),.mov (.tmp 6),none,0⟩,
 ⟨(some 32),.mov (.tmp 8),none,0⟩,
 ⟨(some 33),.append 1 8 (.tmp 31) (.tmp 32),none,0⟩,
 ⟨(some 6),.mov (.tmp 33),none,1⟩])))
 (.region 0 [] [
 ⟨(some 34),.bin .add (.tmp 27) (.cst (.c (.int .i64 1))),none,0⟩,
 ⟨(some 27),.mov (.tmp 34),none,0⟩])))))))
 (.seq (.region 0 [] [
 ⟨(some 35),.mov (.tmp 6),none,0⟩,
 ⟨(some 2),.mov (.tmp 35),none,0⟩])
 .ret))))))⟩
def f95 : AFunc:=⟨14,[.tmp 4],false,
 (.seq (.region 0 [] [
 ⟨(some 4),.mov (.cst (.c (.bool false))),none,0⟩])
 (.seq (.region 0 [] [
 ⟨(some 6),.mov (.tmp 0),none,0⟩,
 ⟨(some 7),.load none (.tmp 1),none,0⟩,
 ⟨(some 8),.bin .add (.tmp 7) (.cst (.c (.int .i64 1))),none,0⟩,
 ⟨(some 9),.faddr 0 (.tmp 2),none,0⟩,
 ⟨(some 10),.load none (.tmp 9),none,0⟩,
 ⟨(some 11),.call 96 true [(.tmp 6),(.tmp 8),(.tmp 10)],none,0⟩,
 ⟨(some 5),.mov (.tmp 11),none,0⟩])
 (.seq (.region 0 [] [
 ⟨(some 12),.mov (.tmp 0),none,0⟩,
 ⟨none,.store none (.tmp 1) (.tmp 12),none,0⟩])
 (.seq (.region 0 [] [
 ⟨(some 13),.mov (.tmp 5),none,0⟩,
 ⟨(some 4),.mov (.tmp 13),none,0⟩])
 .ret))))⟩
def f96 : AFunc:=⟨15,[.tmp 6],false,
 (.seq (.region 0 [] [
 ⟨(some 6),.mov (.cst (.c (.bool false))),none,0⟩])
 (.seq (.region 0 [] [
 ⟨(some 7),.mov (.tmp 1),none,0⟩,
 ⟨(some 8),.mov (.tmp 0),none,0⟩,
 ⟨(some 9),.bin .leq (.tmp 7) (.tmp 8),none,0⟩,
 ⟨(some 10),.mov (.tmp 9),none,0⟩,
 ⟨(some 11),.mov (.tmp 0),some (10,true),0⟩,
 ⟨(some 12),.mov (.tmp 2),some (10,true),0⟩,
 ⟨(some 13),.bin .leq (.tmp 11) (.tmp 12),some (10,true),0⟩,
 ⟨(some 14),.pick (.tmp 10) (.tmp 13) (.cst (.c (.bool false))),none,0⟩,
 ⟨(some 6),.mov (.tmp 14),none,0⟩])
 .ret))⟩
def f97 : AFunc:=⟨39,[.tmp 4],false,
 (.seq (.region 1 [] [
 ⟨(some 3),.box (.tmp 1),none,0⟩,
 ⟨(some 4),.mov (.cst (.c (.int .i64 0))),none,1⟩])
 (.seq (.region 0 [(0,4),(1,4),(2,4),(3,4),(7,8),(8,9)] [
 ⟨(some 8),.mov (.tmp 0),none,0⟩,
 ⟨(some 9),.nilchk (.tmp 8),none,0⟩,
 ⟨(some 10),.faddr 9 (.tmp 9),none,0⟩,
 ⟨(some 11),.load none (.tmp 10),none,0⟩,
 ⟨(some 12),.load (some 2) (.tmp 3),none,0⟩,
 ⟨(some 13),.lookup true false [(some .i64),none] (.c (.int .i64 0)) true (.tmp 11) (.tmp 12),none,0⟩,
 ⟨(some 7),.mov (.tmp 13),none,0⟩,
 ⟨(some 14),.extract 0 (.tmp 7),none,0⟩,
 ⟨(some 15),.extract 1 (.tmp 7),none,0⟩,
 ⟨(some 5),.mov (.tmp 14),none,0⟩,
 ⟨(some 6),.mov (.tmp 15),none,0⟩])
 (.seq (.seq (.region 0 [] [
 ⟨(some 16),.mov (.tmp 6),none,0⟩,
 ⟨(some 17),.not (.tmp 16),none,0⟩])
 (.cond (.tmp 17)
 (.seq (.region 0 [] [
 ⟨(some 18),.faddr 0 (.tmp 3),none,0⟩,
 ⟨(some 19),.load none (.tmp 18),none,0⟩,
 ⟨(some 5),.mov (.tmp 19),none,0⟩])
 (.seq (.seq (.region 0 [] [
 ⟨(some 20),.faddr 1 (.tmp 3),none,0⟩,
 ⟨(some 21),.load none (.tmp 20),none,0⟩])
 (.cond (.tmp 21)
 (.region 0 [] [
 ⟨(some 22),.mov (.tmp 5),none,0⟩,
 ⟨(some 23),.mov (.tmp 5),none,0⟩,
 ⟨(some 24),.mov (.tmp 0),none,0⟩,
 ⟨(some 25),.nilchk (.tmp 24),none,0⟩,
 ⟨(some 26),.faddr 0 (.tmp 25),none,0⟩,
 ⟨(some 27),.faddr 7 (.tmp 26),none,0⟩,
 ⟨(some 28),.load none (.tmp 27),none,0⟩,
 ⟨(some 29),.bin .mul (.tmp 23) (.tmp 28),none,0⟩,
 ⟨(some 30),.bin .quo (.tmp 29) (.cst (.c (.int .i64 100))),none,0⟩,
 ⟨(some 31),.bin .sub (.tmp 22) (.tmp 30),none,0⟩,
 ⟨(some 5),.mov (.tmp 31),none,0⟩])
 .skip))
 (.region 0 [(0,4),(1,4),(2,4),(3,4),(0,5),(1,5),(2,5),(3,5),(4,5)] [
 ⟨(some 32),.mov (.tmp 0),none,0⟩,
 ⟨(some 33),.nilchk (.tmp 32),none,0⟩,
 ⟨(some 34),.faddr 9 (.tmp 33),none,0⟩,
 ⟨(some 35),.load none (.tmp 34),none,0⟩,
 ⟨(some 36),.load (some 2) (.tmp 3),none,0⟩,
 ⟨(some 37),.mov (.tmp 5),none,0⟩,
 ⟨none,.mapupd true false [(some .i64),none] (.tmp 35) (.tmp 36) (.tmp 37),none,0⟩])))
 .skip))
 (.seq (.region 0 [] [
 ⟨(some 38),.mov (.tmp 5),none,0⟩,
 ⟨(some 4),.mov (.tmp 38),none,0⟩])
 .ret))))⟩
def f98 : AFunc:=⟨9,[.tmp 4],false,
 (.seq (.region 0 [] [
 ⟨(some 4),.mov (.cst (.c (.bool false))),none,0⟩])
 (.seq (.region 0 [] [
 ⟨(some 5),.mov (.tmp 0),none,0⟩,
 ⟨(some 6),.mov (.tmp 1),none,0⟩,
 ⟨(some 7),.call 115 true [(.tmp 5),(.tmp 6)],none,0⟩,
 ⟨(some 8),.bin .geq (.tmp 7) (.cst (.c (.int .i64 0))),none,0⟩,
 ⟨(some 4),.mov (.tmp 8),none,0⟩])
 .ret))⟩
def f99 : AFunc:=⟨9,[.tmp 4],false,
 (.seq (.region 0 [] [
 ⟨(some 4),.mov (.cst (.c (.bool false))),none,0⟩])
 (.seq (.region 0 [] [
 ⟨(some 5),.mov (.tmp 0),none,0⟩,
 ⟨(some 6),.mov (.tmp 1),none,0⟩,
 ⟨(some 7),.call 116 false [(.tmp 5),(.tmp 6)],none,0⟩,
 ⟨(some 8),.bin .geq (.tmp 7) (.cst (.c (.int .i64 0))),none,0⟩,
 ⟨(some 4),.mov (.tmp 8),none,0⟩])
 .ret))⟩
def f100 : AFunc:=⟨8,[.tmp 3],true,
 (.seq (.region 1 [] [
 ⟨(some 2),.box (.tmp 0),none,0⟩,
 ⟨(some 3),.mov (.cst (.c (.bool false))),none,1⟩])
 (.seq (.region 0 [] [
 ⟨(some 4),.load none (.tmp 1),none,0⟩,
 ⟨(some 5),.load (some 3) (.tmp 2),none,0⟩,
 ⟨(some 6),.callv (.tmp 4) [(.tmp 5)],none,0⟩,
 ⟨(some 7),.not (.tmp 6),none,0⟩,
 ⟨(some 3),.mov (.tmp 7),none,0⟩])
 .ret))⟩
def f101 : AFunc:=⟨21,[.tmp 4],false,
 (.seq (.region 1 [] [
 ⟨(some 2),.box (.tmp 0),none,0⟩,
 ⟨(some 4),.mov (.cst (.c (.bool false))),none,1⟩])
 (.seq (.region 0 [] [
 ⟨(some 5),.faddr 0 (.tmp 2),none,0⟩,
 ⟨(some 6),.load none (.tmp 5),none,0⟩,
 ⟨(some 7),.bin .leq (.cst (.c (.int .i64 0))) (.tmp 6),none,0⟩,
 ⟨(some 8),.mov (.tmp 7),none,0⟩,
 ⟨(some 9),.faddr 0 (.tmp 2),some (8,true),0⟩,
 ⟨(some 10),.load none (.tmp 9),some (8,true),0⟩,
 ⟨(some 11),.faddr 1 (.tmp 2),some (8,true),0⟩,
 ⟨(some 12),.load none (.tmp 11),some (8,true),0⟩,
 ⟨(some 13),.bin .leq (.tmp 10) (.tmp 12),some (8,true),0⟩,
 ⟨(some 14),.pick (.tmp 8) (.tmp 13) (.cst (.c (.bool false))),none,0⟩,
 ⟨(some 15),.mov (.tmp 14),none,0⟩,
 ⟨(some 16),.faddr 1 (.tmp 2),some (15,true),0⟩,
 ⟨(some 17),.load none (.tmp 16),some (15,true),0⟩,
 ⟨(some 18),.mov (.tmp 1),some (15,true),0⟩,
 ⟨(some 19),.bin .leq (.tmp 17) (.tmp 18),some (15,true),0⟩,
 ⟨(some 20),.pick (.tmp 15) (.tmp 19) (.cst (.c (.bool false))),none,0⟩,
 ⟨(some 4),.mov (.tmp 20),none,0⟩])
 .ret))⟩
def f102 : AFunc:=⟨10,[.tmp 3],false,
 (.seq (.region 0 [] [
 ⟨(some 3),.mov (.cst (.c (.bool false))),none,0⟩])
 (.seq (.region 0 [] [
 ⟨(some 5),.mov (.tmp 0),none,0⟩,
 ⟨(some 6),.load none (.tmp 1),none,0⟩,
 ⟨(some 7),.call 96 true [(.tmp 5),(.cst (.c (.int .i64 0))),(.tmp 6)],none,0⟩,
 ⟨(some 4),.mov (.tmp 7),none,0⟩])
 (.seq (.region 0 [] [
 ⟨(some 8),.mov (.tmp 0),none,0⟩,
 ⟨none,.store none (.tmp 1) (.tmp 8),none,0⟩])
 (.seq (.region 0 [] [
 ⟨(some 9),.mov (.tmp 4),none,0⟩,
 ⟨(some 3),.mov (.tmp 9),none,0⟩])
 .ret))))⟩
def f103 : AFunc:=⟨9,[.tmp 4],false,
 (.seq (.region 0 [] [
 ⟨(some 4),.mov (.cst (.c (.bool false))),none,0⟩])
 (.seq (.region 0 [] [
 ⟨(some 5),.mov (.tmp 0),none,0⟩,
 ⟨(some 6),.mov (.tmp 1),none,0⟩,
 ⟨(some 7),.call 117 false [(.tmp 5),(.tmp 6)],none,0⟩,
 ⟨(some 8),.bin .geq (.tmp 7) (.cst (.c (.int .i64 0))),none,0⟩,
 ⟨(some 4),.mov (.tmp 8),none,0⟩])
 .ret))⟩
def f104 : AFunc:=⟨8,[.tmp 3],true,
 (.seq (.region 1 [] [
 ⟨(some 2),.box (.tmp 0),none,0⟩,
 ⟨(some 3),.mov (.cst (.c (.bool false))),none,1⟩])
 (.seq (.region 0 [] [
 ⟨(some 4),.load none (.tmp 1),none,0⟩,
 ⟨(some 5),.load (some 2) (.tmp 2),none,0⟩,
 ⟨(some 6),.callv (.tmp 4) [(.tmp 5)],none,0⟩,
 ⟨(some 7),.not (.tmp 6),none,0⟩,
 ⟨(some 3),.mov (.tmp 7),none,0⟩])
 .ret))⟩
def f105 : AFunc:=⟨9,[.tmp 4],false,
 (.seq (.region 0 [] [
 ⟨(some 4),.mov (.cst (.c (.bool false))),none,0⟩])
 (.seq (.region 0 [] [
 ⟨(some 5),.mov (.tmp 0),none,0⟩,
 ⟨(some 6),.mov (.tmp 1),none,0⟩,
 ⟨(some 7),.call 118 false [(.tmp 5),(.tmp 6)],none,0⟩,
 ⟨(some 8),.bin .geq (.tmp 7) (.cst (.c (.int .i64 0))),none,0⟩,
 ⟨(some 4),.mov (.tmp 8),none,0⟩])
 .ret))⟩
def f106 : AFunc:=⟨8,[.tmp 3],false,
 (.seq (.region 0 [] [
 ⟨(some 3),.mov (.cst (.c (.bool false))),none,0⟩])
 (.seq (.region 0 [] [
 ⟨(some 4),.load none (.tmp 1),none,0⟩,
 ⟨(some 5),.mov (.tmp 0),none,0⟩,
 ⟨(some 6),.callv (.tmp 4) [(.tmp 5)],none,0⟩,
 ⟨(some 7),.not (.tmp 6),none,0⟩,
 ⟨(some 3),.mov (.tmp 7),none,0⟩])
 .ret))⟩
def f107 : AFunc:=⟨8,[.tmp 2],false,
 (.seq (.region 0 [] [
 ⟨(some 2),.mov (.cst (.c .nils)),none,0⟩])
 (.seq (.seq (.region 0 [] [
 ⟨(some 3),.mov (.tmp 0),none,0⟩,
 ⟨(some 4),.isnil false (.tmp 3),none,0⟩])
 (.cond (.tmp 4)
 (.seq (.region 0 [] [
 ⟨(some 2),.mov (.cst (.c .nils)),none,0⟩])
 .ret)
 .skip))
 (.seq (.region 2 [] [
 ⟨(some 5),.bslice 2 0 [(.int .i64 0),(.int .i64 0)] [],none,0⟩,
 ⟨(some 6),.mov (.tmp 0),none,1⟩,
 ⟨(some 7),.append 2 16 (.tmp 5) (.tmp 6),none,1⟩,
 ⟨(some 2),.mov (.tmp 7),none,2⟩])
 .ret)))⟩
def f108 : AFunc:=⟨25,[.tmp 2],false,
 (.seq (.region 0 [] [
 ⟨(some 2),.mov (.cst (.c (.int .i64 0))),none,0⟩])
 (.seq (.seq (.region 0 [] [
 ⟨(some 5),.mov (.tmp 0),none,0⟩,
 ⟨(some 6),.len (.tmp 5),none,0⟩,
 ⟨(some 7),.bin .lss (.tmp 6) (.cst (.c (.int .i64 1))),none,0⟩])
 (.cond (.tmp 7)
 (.region 0 [] [
 ⟨(some 8),.pick (.cst (.c .any)) (.cst (.c .any)) (.cst (.c .any)),none,0⟩,
 ⟨none,.pick (.cst (.c .any)) (.cst (.c .any)) (.cst (.c .any)),none,0⟩])
 .skip))
 (.seq (.region 0 [] [
 ⟨(some 9),.mov (.tmp 0),none,0⟩,
 ⟨(some 10),.iaddr 1 (.tmp 9) (.cst (.c (.int .i64 0))),none,0⟩,
 ⟨(some 11),.load none (.tmp 10),none,0⟩,
 ⟨(some 3),.mov (.tmp 11),none,0⟩])
 (.seq (.seq (.region 0 [] [
 ⟨(some 4),.mov (.cst (.c (.int .i64 1))),none,0⟩])
 (.block 0 (.loop ⟨[12,13,14,15,16,17,18,19,20,21,22,23],false,[]⟩
 (.seq (.seq (.region 0 [] [
 ⟨(some 12),.mov (.tmp 4),none,0⟩,
 ⟨(some 13),.mov (.tmp 0),none,0⟩,
 ⟨(some 14),.len (.tmp 13),none,0⟩,
 ⟨(some 15),.bin .lss (.tmp 12) (.tmp 14),none,0⟩])
 (.cond (.tmp 15)
 .skip
 (.exit 0)))
 (.seq (.block 1 (.region 0 [] [
 ⟨(some 18),.mov (.tmp 3),none,0⟩,
 ⟨(some 19),.mov (.tmp 0),none,0⟩,
 ⟨(some 20),.mov (.tmp 4),none,0⟩,
 ⟨(some 21),.iaddr 1 (.tmp 19) (.tmp 20),none,0⟩,
 ⟨(some 22),.load none (.tmp 21),none,0⟩,
 ⟨(some 23),.mm false (.tmp 18) (.tmp 22),none,0⟩,
 ⟨(some 3),.mov (.tmp 23),none,0⟩]))
 (.region 0 [] [
 ⟨(some 16),.mov (.tmp 4),none,0⟩,
 ⟨(some 17),.bin .add (.tmp 16) (.cst (.c (.int .i64 1))),none,0⟩,
 ⟨(some 4),.mov (.tmp 17),none,0⟩]))))))
 (.seq (.region 0 [] [
 ⟨(some 24),.mov (.tmp 3),none,0⟩,
 ⟨(some 2),.mov (.tmp 24),none,0⟩])
 .ret)))))⟩
def f109 : AFunc:=⟨7,[.tmp 3],false,
 (.seq (.region 1 [] [
 ⟨(some 2),.box (.tmp 0),none,0⟩,
 ⟨(some 3),.mov (.cst (.c (.bool false))),none,1⟩])
 (.seq (.region 0 [] [
 ⟨(some 4),.load (some 9) (.tmp 2),none,0⟩,
 ⟨(some 5),.load none (.tmp 1),none,0⟩,
 ⟨(some 6),.call 50 true [(.tmp 4),(.tmp 5)],none,0⟩,
 ⟨(some 3),.mov (.tmp 6),none,0⟩])
 .ret))⟩
def f110 : AFunc:=⟨15,[.cell 4 (some 2)],false,
 (.seq (.region 2 [] [
 ⟨(some 2),.box (.tmp 0),none,0⟩,
 ⟨(some 4),.alloc [(.int .i64 0),(.int .i64 0)],none,1⟩])
 (.seq (.region 1 [(0,2),(1,2),(0,5),(1,5),(2,5),(3,5),(4,5),(0,6),(1,6),(2,6),(3,6),(4,6),(0,7),(1,7),(2,7),(3,7),(4,7),(5,7),(6,7),(0,8),(1,8),(2,8),(3,8),(4,8)] [
 ⟨(some 5),.faddr 0 (.tmp 2),none,0⟩,
 ⟨(some 6),.load none (.tmp 5),none,0⟩,
 ⟨(some 7),.mov (.tmp 1),none,0⟩,
 ⟨(some 8),.bslice 1 2 [(.int .i64 0)] [(0,(.tmp 6)),(1,(.tmp 7))],none,0⟩,
 ⟨(some 9),.call 67 true [(.tmp 8)],none,1⟩,
 ⟨(some 10),.faddr 1 (.tmp 2),none,1⟩,
 ⟨(some 11),.load none (.tmp 10),none,1⟩,
 ⟨(some 12),.mov (.tmp 1),none,1⟩,
 ⟨(some 13),.mm true (.tmp 11) (.tmp 12),none,1⟩,
 ⟨(some 14),.build [(.int .i64 0),(.int .i64 0)] [(0,1,(.tmp 9)),(1,1,(.tmp 13))],none,1⟩,
 ⟨none,.store (some 2) (.tmp 4) (.tmp 14),none,1⟩])
 .ret))⟩
def f111 : AFunc:=⟨83,[],false,
 (.seq (.region 1 [] [
 ⟨(some 3),.box (.tmp 0),none,0⟩])
 (.seq (.region 1 [] [
 ⟨(some 4),.alloc [(.int .i64 0),(.int .i64 0),(.int .i64 0),(.int .i64 0),(.int .i64 0),(.int .i64 0),(.int .i64 0),(.int .i64 0),(.int .i64 0),(.int .i64 0)],none,0⟩])
 (.seq (.region 1 [] [
 ⟨(some 5),.alloc [(.bool false)],none,0⟩,
 ⟨none,.store none (.tmp 5) (.cst (.c (.bool false))),none,1⟩])
 (.seq (.region 1 [] [
 ⟨(some 6),.alloc [(.bool false)],none,0⟩,
 ⟨none,.store none (.tmp 6) (.cst (.c (.bool true))),none,1⟩])
 (.seq (.region 0 [] [
 ⟨(some 12),.load none (.tmp 1),none,0⟩,
 ⟨(some 13),.nilchk (.tmp 12),none,0⟩,
 ⟨(some 14),.faddr 0 (.tmp 13),none,0⟩,
 ⟨(some 15),.load (some 9) (.tmp 14),none,0⟩,
 ⟨(some 16),.call 66 true [(.tmp 15)],none,0⟩,
 ⟨(some 17),.call 112 false [(.tmp 16)],none,0⟩])
 (.block 0 (.range (.tmp 17) [18]
 (.region 0 [] [
 ⟨(some 7),.mov (.tmp 18),none,0⟩])
 (.block 1 (.seq (.region 1 [(0,1),(0,2),(0,3),(0,4),(0,5),(0,7),(1,7),(2,7),(3,7),(4,7),(5,7),(6,7),(0,8),(1,8),(2,8),(3,8),(4,8),(5,8),(6,8),(7,8),(0,9),(1,9),(2,9),(3,9),(4,9),(5,9),(6,9),(7,9),(0,10),(1,10),(2,10),(3,10),(4,10),(5,10),(6,10),(7,10),(0,11),(1,11),(2,11),(3,11),(4,11),(5,11),(6,11),(7,11),(0,12),(6,12),(7,12),(0,13),(6,13),(0,15),(1,15),(2,15),(3,15),(4,15),(5,15),(6,15),(7,15),(8,15),(9,15),(10,15),(11,15),(12,15),(13,15),(14,15)] [
 ⟨(some 19),.mov (.tmp 7),none,0⟩,
 ⟨(some 20),.load none (.tmp 1),none,0⟩,
 ⟨(some 21),.nilchk (.tmp 20),none,0⟩,
 ⟨(some 22),.faddr 0 (.tmp 21),none,0⟩,
 ⟨(some 23),.load (some 9) (.tmp 22),none,0⟩,
 ⟨(some 24),.call 60 true [(.tmp 23)],none,0⟩,
 ⟨(some 25),.slice 1 (.tmp 19) none (some (.tmp 24)),none,0⟩,
 ⟨(some 26),.mov (.tmp 7),none,0⟩,
 ⟨(some 27),.load none (.tmp 1),none,0⟩,
 ⟨(some 28),.nilchk (.tmp 27),none,0⟩,
 ⟨(some 29),.faddr 0 (.tmp 28),none,0⟩,
 ⟨(some 30),.load (some 9) (.tmp 29),none,0⟩,
 ⟨(some 31),.call 60 true [(.tmp 30)],none,0⟩,
 ⟨(some 32),.slice 1 (.tmp 26) (some (.tmp 31)) none,none,0⟩,
 ⟨(some 33),.build [.nils,.nils] [(0,1,(.tmp 25)),(1,1,(.tmp 32))],none,0⟩,
 ⟨(some 8),.alloc [.nils,.nils],none,0⟩,
 ⟨none,.store (some 2) (.tmp 8) (.tmp 33),none,1⟩])
 (.seq (.seq (.region 1 [(0,1),(0,2),(1,2),(0,3),(1,3),(0,4),(1,4),(0,5),(1,5),(0,6),(1,6),(0,8),(1,8),(2,8),(3,8),(4,8),(5,8),(6,8),(7,8)] [
 ⟨(some 34),.load none (.tmp 1),none,0⟩,
 ⟨(some 35),.load (some 2) (.tmp 8),none,0⟩,
 ⟨(some 36),.load none (.tmp 1),none,0⟩,
 ⟨(some 37),.nilchk (.tmp 36),none,0⟩,
 ⟨(some 38),.faddr 0 (.tmp 37),none,0⟩,
 ⟨(some 39),.faddr 4 (.tmp 38),none,0⟩,
 ⟨(some 40),.load none (.tmp 39),none,0⟩,
 ⟨(some 41),.call 54 true [(.tmp 34),(.tmp 35),(.tmp 40)],none,0⟩,
 ⟨(some 9),.alloc [(.int .i64 0),(.int .i64 0),(.int .i64 0),(.int .i64 0),(.int .i64 0),(.int .i64 0),(.int .i64 0),(.int .i64 0),(.int .i64 0),(.int .i64 0)],none,0⟩,
 ⟨none,.store (some 10) (.tmp 9) (.tmp 41),none,1⟩])
 (.seq (.region 0 [] [
 ⟨(some 42),.load none (.tmp 6),none,0⟩,
 ⟨(some 43),.mov (.tmp 42),none,0⟩,
 ⟨(some 44),.load (some 10) (.tmp 9),some (43,false),0⟩,
 ⟨(some 45),.load (some 10) (.tmp 4),some (43,false),0⟩,
 ⟨(some 46),.eqA true [(some .i64),(some .i64),(some .i64),(some .i64),(some .i64),(some .i64),(some .i64),(some .i64),(some .i64),(some .i64)] (.tmp 44) (.tmp 45),some (43,false),0⟩,
 ⟨(some 47),.pick (.tmp 43) (.cst (.c (.bool true))) (.tmp 46),none,0⟩])
 (.cond (.tmp 47)
 (.seq (.region 0 [(0,1)] [
 ⟨(some 48),.load (some 10) (.tmp 9),none,0⟩,
 ⟨none,.store none (.tmp 6) (.cst (.c (.bool false))),none,0⟩,
 ⟨none,.store (some 10) (.tmp 4) (.tmp 48),none,0⟩,
 ⟨none,.store none (.tmp 5) (.cst (.c (.bool true))),none,0⟩])
 (.seq (.region 0 [] [
 ⟨(some 49),.load none (.tmp 1),none,0⟩,
 ⟨(some 50),.nilchk (.tmp 49),none,0⟩,
 ⟨(some 51),.faddr 0 (.tmp 50),none,0⟩,
 ⟨(some 52),.faddr 8 (.tmp 51),none,0⟩,
 ⟨(some 53),.load none (.tmp 52),none,0⟩,
 ⟨(some 54),.len (.tmp 53),none,0⟩,
 ⟨(some 55),.mov (.cst (.c (.int .i64 0))),none,0⟩])
 (.block 2 (.loop ⟨[10,11,56,57,58,59,60,61,62,63,64,65,66,67,68,69,70,71,72,73,74,75],false,[]⟩
 (.seq (.region 0 [] [
 ⟨(some 56),.bin .lss (.tmp 55) (.tmp 54),none,0⟩])
 (.seq (.cond (.tmp 56)
 .skip
 (.exit 2))
 (.seq (.block 3 (.seq (.region 1 [] [
 ⟨(some 57),.mov (.tmp 55),none,0⟩,
 ⟨(some 58),.iaddr 3 (.tmp 53) (.tmp 55),none,0⟩,
 ⟨(some 59),.load (some 3) (.tmp 58),none,0⟩,
 ⟨(some 11),.alloc [(.int .i64 0),(.int .i64 0),(.int .i64 0)],none,0⟩,
 ⟨(some 10),.mov (.tmp 57),none,1⟩,
 ⟨none,.store (some 3) (.tmp 11) (.tmp 59),none,1⟩])
 (.region 0 [(2,3),(6,8),(7,8),(6,9),(7,9),(6,10),(7,10),(6,11),(7,11)] [
 ⟨(some 60),.load none (.tmp 5),none,0⟩,
 ⟨(some 61),.mov (.tmp 60),none,0⟩,
 ⟨(some 62),.load none (.tmp 2),some (61,true),0⟩,
 ⟨(some 63),.mov (.tmp 10),some (61,true),0⟩,
 ⟨(some 64),.call 98 true [(.tmp 62),(.tmp 63)],some (61,true),0⟩,
 ⟨(some 65),.mov (.tmp 64),some (61,true),0⟩,
 ⟨(some 66),.faddr 1 (.tmp 11),some (65,false),0⟩,
 ⟨(some 67),.load (some 2) (.tmp 66),some (65,false),0⟩,
 ⟨(some 68),.faddr 0 (.tmp 11),some (65,false),0⟩,
 ⟨(some 69),.load none (.tmp 68),some (65,false),0⟩,
 ⟨(some 70),.iaddrA 10 1 (.tmp 9) (.tmp 69),some (65,false),0⟩,
 ⟨(some 71),.load none (.tmp 70),some (65,false),0⟩,
 ⟨(some 72),.call 57 true [(.tmp 67),(.tmp 71)],some (65,false),0⟩,
 ⟨(some 73),.pick (.tmp 65) (.cst (.c (.bool true))) (.tmp 72),some (61,true),0⟩,
 ⟨(some 74),.pick (.tmp 61) (.tmp 73) (.cst (.c (.bool false))),none,0⟩,
 ⟨none,.store none (.tmp 5) (.tmp 74),none,0⟩])))
 (.region 0 [] [
 ⟨(some 75),.bin .add (.tmp 55) (.cst (.c (.int .i64 1))),none,0⟩,
 ⟨(some 55),.mov (.tmp 75),none,0⟩]))))))))
 .skip)))
 (.seq (.region 0 [] [
 ⟨(some 76),.load none (.tmp 5),none,0⟩,
 ⟨(some 77),.mov (.tmp 76),none,0⟩,
 ⟨(some 78),.load none (.tmp 3),some (77,true),0⟩,
 ⟨(some 79),.load (some 2) (.tmp 8),some (77,true),0⟩,
 ⟨(some 80),.callv (.tmp 78) [(.tmp 79)],some (77,true),0⟩,
 ⟨(some 81),.not (.tmp 80),some (77,true),0⟩,
 ⟨(some 82),.pick (.tmp 77) (.tmp 81) (.cst (.c (.bool false))),none,0⟩])
 (.cond (.tmp 82)
 .ret
 .skip))))))))))))⟩
def f112 : AFunc:=⟨4,[.tmp 2],false,
 (.seq (.region 1 [] [
 ⟨(some 1),.box (.tmp 0),none,0⟩,
 ⟨(some 2),.mov (.cst (.c .nilfn)),none,1⟩])
 (.seq (.region 0 [] [
 ⟨(some 3),.mkfn 119 none [(.tmp 1)],none,0⟩,
 ⟨(some 2),.mov (.tmp 3),none,0⟩])
 .ret))⟩
def f113 : AFunc:=⟨17,[.tmp 6],false,
 (.seq (.region 1 [] [
 ⟨(some 5),.box (.tmp 0),none,0⟩,
 ⟨(some 6),.mov (.cst (.c (.int .i64 0))),none,1⟩])
 (.seq (.region 0 [(0,2),(1,2),(0,3),(1,3),(2,3),(0,4),(1,4),(2,4),(3,4),(0,5),(1,5),(0,6),(1,6),(2,6),(3,6),(4,6),(5,6),(0,7),(1,7),(0,8),(1,8)] [
 ⟨(some 7),.faddr 0 (.tmp 1),none,0⟩,
 ⟨(some 8),.load none (.tmp 7),none,0⟩,
 ⟨(some 9),.load none (.tmp 2),none,0⟩,
 ⟨(some 10),.load (some 2) (.tmp 5),none,0⟩,
 ⟨(some 11),.load none (.tmp 3),none,0⟩,
 ⟨(some 12),.call 52 false [(.tmp 9),(.tmp 10),(.tmp 11)],none,0⟩,
 ⟨(some 13),.load none (.tmp 4),none,0⟩,
 ⟨(some 14),.iaddr 3 (.tmp 12) (.tmp 13),none,0⟩,
 ⟨(some 15),.load (some 3) (.tmp 14),none,0⟩,
 ⟨(some 16),.callv (.tmp 8) [(.tmp 15)],none,0⟩,
 ⟨(some 6),.mov (.tmp 16),none,0⟩])
 .ret))⟩
def f115 : AFunc:=⟨19,[.tmp 4],false,
 (.seq (.region 0 [] [
 ⟨(some 4),.mov (.cst (.c (.int .i64 0))),none,0⟩])
 (.seq (.seq (.region 0 [] [
 ⟨(some 6),.mov (.tmp 0),none,0⟩,
 ⟨(some 7),.len (.tmp 6),none,0⟩,
 ⟨(some 8),.mov (.cst (.c (.int .i64 0))),none,0⟩])
 (.block 0 (.loop ⟨[4,5,9,10,11,12,13,14,15,16,17,18],false,[]⟩
 (.seq (.region 0 [] [
 ⟨(some 9),.bin .lss (.tmp 8) (.tmp 7),none,0⟩])
 (.seq (.cond (.tmp 9)
 .skip
 (.exit 0))
 (.seq (.block 1 (.seq (.region 0 [] [
 ⟨(some 10),.mov (.tmp 8),none,0⟩,
 ⟨(some 5),.mov (.tmp 10),none,0⟩])
 (.seq (.region 0 [] [
 ⟨(some 11),.mov (.tmp 1),none,0⟩,
 ⟨(some 12),.mov (.tmp 0),none,0⟩,
 ⟨(some 13),.mov (.tmp 5),none,0⟩,
 ⟨(some 14),.iaddr 1 (.tmp 12) (.tmp 13),none,0⟩,
 ⟨(some 15),.load none (.tmp 14),none,0⟩,
 ⟨(some 16),.bin .eql (.tmp 11) (.tmp 15),none,0⟩])
 (.cond (.tmp 16)
 (.seq (.region 0 [] [
 ⟨(some 17),.mov (.tmp 5),none,0⟩,
 ⟨(some 4),.mov (.tmp 17),none,0⟩])
 .ret)
 .skip))))
 (.region 0 [] [
 ⟨(some 18),.bin .add (.tmp 8) (.cst (.c (.int .i64 1))),none,0⟩,
 ⟨(some 8),.mov (.tmp 18),none,0⟩])))))))
 (.seq (.region 0 [] [
 ⟨(some 4),.mov (.cst (.c (.int .i64 (-1)))),none,0⟩])
 .ret)))⟩
def f116 : AFunc:=⟨19,[.tmp 4],false,
 (.seq (.region 0 [] [
 ⟨(some 4),.mov (.cst (.c (.int .i64 0))),none,0⟩])
 (.seq (.seq (.region 0 [] [
 ⟨(some 6),.mov (.tmp 0),none,0⟩,
 ⟨(some 7),.len (.tmp 6),none,0⟩,
 ⟨(some 8),.mov (.cst (.c (.int .i64 0))),none,0⟩])
 (.block 0 (.loop ⟨[4,5,9,10,11,12,13,14,15,16,17,18],false,[]⟩
 (.seq (.region 0 [] [
 ⟨(some 9),.bin .lss (.tmp 8) (.tmp 7),none,0⟩])
 (.seq (.cond (.tmp 9)
 .skip
 (.exit 0))
 (.seq (.block 1 (.seq (.region 0 [] [
 ⟨(some 10),.mov (.tmp 8),none,0⟩,
 ⟨(some 5),.mov (.tmp 10),none,0⟩])
 (.seq (.region 0 [] [
 ⟨(some 11),.mov (.tmp 1),none,0⟩,
 ⟨(some 12),.mov (.tmp 0),none,0⟩,
 ⟨(some 13),.mov (.tmp 5),none,0⟩,
 ⟨(some 14),.iaddr 3 (.tmp 12) (.tmp 13),none,0⟩,
 ⟨(some 15),.load (some 3) (.tmp 14),none,0⟩,
 ⟨(some 16),.callv (.tmp 11) [(.tmp 15)],none,0⟩])
 (.cond (.tmp 16)
 (.seq (.region 0 [] [
 ⟨(some 17),.mov (.tmp 5),none,0⟩,
 ⟨(some 4),.mov (.tmp 17),none,0⟩])
 .ret)
 .skip))))
 (.region 0 [] [
 ⟨(some 18),.bin .add (.tmp 8) (.cst (.c (.int .i64 1))),none,0⟩,
 ⟨(some 8),.mov (.tmp 18),none,0⟩])))))))
 (.seq (.region 0 [] [
 ⟨(some 4),.mov (.cst (.c (.int .i64 (-1)))),none,0⟩])
 .ret)))⟩
def f117 : AFunc:=⟨19,[.tmp 4],false,
 (.seq (.region 0 [] [
 ⟨(some 4),.mov (.cst (.c (.int .i64 0))),none,0⟩])
 (.seq (.seq (.region 0 [] [
 ⟨(some 6),.mov (.tmp 0),none,0⟩,
 ⟨(some 7),.len (.tmp 6),none,0⟩,
 ⟨(some 8),.mov (.cst (.c (.int .i64 0))),none,0⟩])
 (.block 0 (.loop ⟨[4,5,9,10,11,12,13,14,15,16,17,18],false,[]⟩
 (.seq (.region 0 [] [
 ⟨(some 9),.bin .lss (.tmp 8) (.tmp 7),none,0⟩])
 (.seq (.cond (.tmp 9)
 .skip
 (.exit 0))
 (.seq (.block 1 (.seq (.region 0 [] [
 ⟨(some 10),.mov (.tmp 8),none,0⟩,
 ⟨(some 5),.mov (.tmp 10),none,0⟩])
 (.seq (.region 0 [] [
 ⟨(some 11),.mov (.tmp 1),none,0⟩,
 ⟨(some 12),.mov (.tmp 0),none,0⟩,
 ⟨(some 13),.mov (.tmp 5),none,0⟩,
 ⟨(some 14),.iaddr 2 (.tmp 12) (.tmp 13),none,0⟩,
 ⟨(some 15),.load (some 2) (.tmp 14),none,0⟩,
 ⟨(some 16),.callv (.tmp 11) [(.tmp 15)],none,0⟩])
 (.cond (.tmp 16)
 (.seq (.region 0 [] [
 ⟨(some 17),.mov (.tmp 5),none,0⟩,
 ⟨(some 4),.mov (.tmp 17),none,0⟩])
 .ret)
 .skip))))
 (.region 0 [] [
 ⟨(some 18),.bin .add (.tmp 8) (.cst (.c (.int .i64 1))),none,0⟩,
 ⟨(some 8),.mov (.tmp 18),none,0⟩])))))))
 (.seq (.region 0 [] [
 ⟨(some 4),.mov (.cst (.c (.int .i64 (-1)))),none,0⟩])
 .ret)))⟩
def f118 : AFunc:=⟨19,[.tmp 4],false,
 (.seq (.region 0 [] [
 ⟨(some 4),.mov (.cst (.c (.int .i64 0))),none,0⟩])
 (.seq (.seq (.region 0 [] [
 ⟨(some 6),.mov (.tmp 0),none,0⟩,
 ⟨(some 7),.len (.tmp 6),none,0⟩,
 ⟨(some 8),.mov (.cst (.c (.int .i64 0))),none,0⟩])
 (.block 0 (.loop ⟨[4,5,9,10,11,12,13,14,15,16,17,18],false,[]⟩
 (.seq (.region 0 [] [
 ⟨(some 9),.bin .lss (.tmp 8) (.tmp 7),none,0⟩])
 (.seq (.cond (.tmp 9)
 .skip
 (.exit 0))
 (.seq (.block 1 (.seq (.region 0 [] [
 ⟨(some 10),.mov (.tmp 8),none,0⟩,
 ⟨(some 5),.mov (.tmp 10),none,0⟩])
 (.seq (.region 0 [] [
 ⟨(some 11),.mov (.tmp 1),none,0⟩,
 ⟨(some 12),.mov (.tmp 0),none,0⟩,
 ⟨(some 13),.mov (.tmp 5),none,0⟩,
 ⟨(some 14),.iaddr 1 (.tmp 12) (.tmp 13),none,0⟩,
 ⟨(some 15),.load none (.tmp 14),none,0⟩,
 ⟨(some 16),.callv (.tmp 11) [(.tmp 15)],none,0⟩])
 (.cond (.tmp 16)
 (.seq (.region 0 [] [
 ⟨(some 17),.mov (.tmp 5),none,0⟩,
 ⟨(some 4),.mov (.tmp 17),none,0⟩])
 .ret)
 .skip))))
 (.region 0 [] [
 ⟨(some 18),.bin .add (.tmp 8) (.cst (.c (.int .i64 1))),none,0⟩,
 ⟨(some 8),.mov (.tmp 18),none,0⟩])))))))
 (.seq (.region 0 [] [
 ⟨(some 4),.mov (.cst (.c (.int .i64 (-1)))),none,0⟩])
 .ret)))⟩
def f119 : AFunc:=⟨11,[],false,
 (.seq (.region 1 [] [
 ⟨(some 2),.box (.tmp 0),none,0⟩])
 (.seq (.region 2 [] [
 ⟨(some 5),.load none (.tmp 1),none,0⟩,
 ⟨(some 6),.len (.tmp 5),none,0⟩,
 ⟨(some 7),.mkslice 1 8 [(.int .i64 0)] (.tmp 6),none,0⟩,
 ⟨(some 3),.alloc [.nils],none,1⟩,
 ⟨none,.store none (.tmp 3) (.tmp 7),none,2⟩])
 (.seq (.region 1 [] [
 ⟨(some 4),.alloc [.nilfn],none,0⟩])
 (.seq (.region 0 [] [
 ⟨(some 8),.mkfn 120 none [(.tmp 1),(.tmp 2),(.tmp 3),(.tmp 4)],none,0⟩,
 ⟨none,.store none (.tmp 4) (.tmp 8),none,0⟩])
 (.region 0 [] [
 ⟨(some 9),.load none (.tmp 4),none,0⟩,
 ⟨(some 10),.callv (.tmp 9) [(.cst (.c (.int .i64 0)))],none,0⟩])))))⟩
def f120 : AFunc:=⟨39,[.tmp 6],false,
 (.seq (.region 0 [] [
 ⟨(some 6),.mov (.cst (.c (.bool false))),none,0⟩])
 (.seq (.seq (.region 0 [] [
 ⟨(some 8),.mov (.tmp 0),none,0⟩,
 ⟨(some 9),.load none (.tmp 1),none,0⟩,
 ⟨(some 10),.len (.tmp 9),none,0⟩,
 ⟨(some 11),.bin .eql (.tmp 8) (.tmp 10),none,0⟩])
 (.cond (.tmp 11)
 (.seq (.region 0 [] [
 ⟨(some 12),.load none (.tmp 2),none,0⟩,
 ⟨(some 13),.load none (.tmp 3),none,0⟩,
 ⟨(some 14),.callv (.tmp 12) [(.tmp 13)],none,0⟩,
 ⟨(some 6),.mov (.tmp 14),none,0⟩])
 .ret)
 .skip))
 (.seq (.seq (.region 0 [] [
 ⟨(some 15),.load none (.tmp 1),none,0⟩,
 ⟨(some 16),.mov (.tmp 0),none,0⟩,
 ⟨(some 17),.iaddr 2 (.tmp 15) (.tmp 16),none,0⟩,
 ⟨(some 18),.load (some 2) (.tmp 17),none,0⟩,
 ⟨(some 19),.call 68 true [(.tmp 18)],none,0⟩,
 ⟨(some 20),.mov (.cst (.c (.int .i64 0))),none,0⟩])
 (.block 0 (.loop ⟨[6,7,21,22,23,24,25,26,27,28,29,30,31,32,33,34,35,36,37,38],false,[]⟩
 (.seq (.region 0 [] [
 ⟨(some 21),.bin .lss (.tmp 20) (.tmp 19),none,0⟩])
 (.seq (.cond (.tmp 21)
 .skip
 (.exit 0))
 (.seq (.block 1 (.seq (.region 0 [] [
 ⟨(some 22),.mov (.tmp 20),none,0⟩,
 ⟨(some 7),.mov (.tmp 22),none,0⟩])
 (.seq (.region 0 [(0,1),(0,2),(1,2),(0,3),(1,3),(2,3),(0,4),(1,4),(0,5),(1,5),(0,6),(1,6),(0,7),(1,7),(2,7),(3,7),(4,7),(5,7),(6,7),(0,8),(1,8)] [
 ⟨(some 23),.load none (.tmp 3),none,0⟩,
 ⟨(some 24),.mov (.tmp 0),none,0⟩,
 ⟨(some 25),.load none (.tmp 1),none,0⟩,
 ⟨(some 26),.mov (.tmp 0),none,0⟩,
 ⟨(some 27),.iaddr 2 (.tmp 25) (.tmp 26),none,0⟩,
 ⟨(some 28),.faddr 0 (.tmp 27),none,0⟩,
 ⟨(some 29),.load none (.tmp 28),none,0⟩,
 ⟨(some 30),.mov (.tmp 7),none,0⟩,
 ⟨(some 31),.bin .add (.tmp 29) (.tmp 30),none,0⟩,
 ⟨(some 32),.iaddr 1 (.tmp 23) (.tmp 24),none,0⟩,
 ⟨none,.store none (.tmp 32) (.tmp 31),none,0⟩])
 (.seq (.region 0 [] [
 ⟨(some 33),.load none (.tmp 4),none,0⟩,
 ⟨(some 34),.mov (.tmp 0),none,0⟩,
 ⟨(some 35),.bin .add (.tmp 34) (.cst (.c (.int .i64 1))),none,0⟩,
 ⟨(some 36),.callv (.tmp 33) [(.tmp 35)],none,0⟩,
 ⟨(some 37),.not (.tmp 36),none,0⟩])
 (.cond (.tmp 37)
 (.seq (.region 0 [] [
 ⟨(some 6),.mov (.cst (.c (.bool false))),none,0⟩])
 .ret)
 .skip)))))
 (.region 0 [] [
 ⟨(some 38),.bin .add (.tmp 20) (.cst (.c (.int .i64 1))),none,0⟩,
 ⟨(some 20),.mov (.tmp 38),none,0⟩])))))))
 (.seq (.region 0 [] [
 ⟨(some 6),.mov (.cst (.c (.bool true))),none,0⟩])
 .ret))))⟩
def tabL : List (Option AFunc):=[none,none,none,none,none,some f5,none,none,none,none,none,none,some f12,some f13,some f14,some f15,some f16,some f17,some f18,none,some f20,none,none,some f23,none,none,some f26,some f27,some f28,some f29,some f30,some f31,some f32,none,some f34,some f35,none,none,none,some f39,some f40,some f41,some f42,some f43,none,some f45,some f46,some f47,some f48,some f49,some f50,some f51,some f52,some f53,some f54,some f55,some f56,some f57,some f58,some f59,some f60,some f61,some f62,some f63,some f64,some f65,some f66,some f67,some f68,none,none,none,some f72,some f73,some f74,some f75,some f76,some f77,some f78,some f79,some f80,some f81,some f82,some f83,none,some f85,some f86,some f87,some f88,some f89,some f90,some f91,some f92,some f93,some f94,some f95,some f96,some f97,some f98,some f99,some f100,some f101,some f102,some f103,some f104,some f105,some f106,some f107,some f108,some f109,some f110,some f111,some f112,some f113,none,some f115,some f116,some f117,some f118,some f119,some f120,none,none,none,none,none,none,none,none,none,none,none,none,none,none,none,none,none]
def tab (k:Nat):Option AFunc:=(nth tabL k).join
def annL : List (Nat × Nat × Ann):=[(3,0,⟨[6,102,103,104,105,106,107,108,109,110,111,112,113,114,115,116,117,118],false,[]⟩),(4,0,⟨[6,58,59,60,61,62,63,64,65,66,67,68,69,70,71,72,73,74,75,76,77,78,79,80,81,82,83,84,85,86,87,88,89,90,91,92,93,94,95,96,97,98,99,100,101,102,103,104,105,106,107,108,109,110,111,112,113,114,115,116,117,118,119,120,121,122,123,124,125,126,127,128],false,[]⟩),(4,2,⟨[129,130,131,132,133,134,135,136,137,138,139,140,141,142,143,144,145],false,[]⟩),(4,4,⟨[170,171,172,173,174,175,176,177,178,179,180,181,182],false,[]⟩),(5,0,⟨[10,132,133,134,135,136,137,138,139,140,141,142,143,144,145,146,147,148,149,150,151,152,153,154,155,156,157,158,159,160,161,162,163,164,165,166,167,168,169,170,171,172,173,174],false,[]⟩),(9,0,⟨[4,26,27,28,29,30,31,32,33,34,35,36,37,38,39,40,41,42,43,44,45,46,47,48,49,50,51,52,53,54,55,56,57,58,59,60,61,62,63,64,65,66,67,68,69,70],false,[]⟩),(10,0,⟨[50,51,52,53,54,55,56,57,58,59,60,61,62,63,64,65,66,67,68,69,70,71,72,73,74,75],false,[]⟩),(15,0,⟨[24,25,26,27,28,29,30,31,32,33,34,35,36,37,38,39,40,41],true,[(3,(some 1),2)]⟩),(15,2,⟨[42,43,44,45,46,47,48,49,50,51,52,53,54,55,56,57,58,59,60,61,62,63,64,65,66,67],true,[(3,(some 8),3)]⟩),(20,1,⟨[6,80,81,82,83,84,85,86,87,88,89],true,[]⟩),(21,0,⟨[4,10,11,12,13,14,15,16,17,18,19,20,21,22,23,24,25],false,[]⟩),(22,0,⟨[4,22,23,24,25,26,27,28,29,30,31,32,33,34,35,36,37,38,39,40,41,42,43,44,45,46,47,48,49,50,51,52,53,54,55,56,57,58,59,60,61,62,63,64,65,66,67,68,69,70,71,72,73,74,75,76,77],false,[]⟩),(23,0,⟨[4,6,7,8,9,10,11,12,13,14,15,16,17,18,19,20,21,22,23,24,25,26,27,28,29,30,31,32,33,34,35],false,[]⟩),(27,0,⟨[7,8,9,10,11,12,13,14,15,16,17,18,19,20,21,22,23,24,25,26,27,28,29,30,31,32,33,34,35,36,37,38,39,40,41,42,43,44,45,46,47,48,49,50,51,52,53],true,[(5,(some 0),1),(5,(some 1),1)]⟩),(28,0,⟨[5,6,7,8,9,10,11,12,13,14,15,16,17,18,19,20,21,22,23,24,25,26,27],false,[]⟩),(30,0,⟨[8,22,23,24,25,26,27],false,[]⟩),(34,0,⟨[2,3,6,18,19,20,21,22,23,24,25,26,27,28,29,30,31,32,33],false,[]⟩),(36,0,⟨[9,10,11,12,13,14,15,16,17,18,19,20,21,22,23,24,25,26,27,28,29,30,31],true,[(5,(some 8),3)]⟩),(39,0,⟨[5,6,7,8,9,10,11,12,13,14,15,16,17,18,19,20,21],true,[(3,none,1)]⟩),(45,0,⟨[9,22,23,24,25,26,27,28,29,30,31,32,33,34,35,36,37,38,39,40,41,42,43,44,45],false,[(8,none,5)]⟩),(46,0,⟨[2,73,74,75,76,77,78,79,80,81,82,83,84,85,86,87,88,89,90,91,92,93,94],false,[]⟩),(46,2,⟨[2,95,96,97,98,99,100,101,102,103,104,105,106,107,108,109,110,111,112,113,114,115,116,117,118,119,120,121,122,123,124,125,126],false,[]⟩),(46,4,⟨[2,127,128,129,130,131,132,133,134,135,136,137,138,139,140,141,142,143,144,145,146,147,148,149,150,151,152,153],false,[]⟩),(48,0,⟨[4,11,12,13,14,15,16,17,18,19,20,21,22,23,24,25],false,[]⟩),(49,0,⟨[4,6,7,32,33,34,35,36,37,38,39,40,41,42,43],true,[]⟩),(52,0,⟨[8,9,10,11,19,20,21,22,23,24,25,26,27,28,29,30,31,32,33,34,35,36,37,38,39,40,41,42,43,44,45,46,47,48,49,50,51],false,[(6,none,3)]⟩),(54,0,⟨[8,9,14,15,16,17,18,19,20,21,22,23,24,25,26,27],false,[]⟩),(66,0,⟨[5,6,14,15,16,17,18,19,20,21,22,23,24,25,26,27],true,[(3,none,2)]⟩),(70,0,⟨[11,12,13,14,15,16,17,18,19,20,21,22,23,24,25,26,27],false,[]⟩),(70,2,⟨[29,30,31,32,33,34,35,36,37,38,39,40],false,[]⟩),(74,0,⟨[10,19,20,21,22,23,24,25,26,27,28,29,30,31,32,33,34,35,36,37,38],false,[]⟩),(80,0,⟨[8,15,16,17,18,19,20,21,22],false,[]⟩),(82,0,⟨[29,30,31,32,33,34,35,36,37,38,39,40,41,42,43],false,[]⟩),(83,0,⟨[9,19,20,21,22,23,24,25,26,27,28,29],false,[]⟩),(84,0,⟨[4,6,7,8,9,10,11,12,13,14,15,16,17,18,19,20,21,22,23,24,25,26,27,28,29,30,31,32,33,34,35],false,[]⟩),(94,0,⟨[5,12,13,14,15,16,17,18,19,20,21,22],false,[]⟩),(94,2,⟨[8,28,29,30,31,32,33,34],true,[(6,none,1)]⟩),(108,0,⟨[12,13,14,15,16,17,18,19,20,21,22,23],false,[]⟩),(111,2,⟨[10,11,56,57,58,59,60,61,62,63,64,65,66,67,68,69,70,71,72,73,74,75],false,[]⟩),(115,0,⟨[4,5,9,10,11,12,13,14,15,16,17,18],false,[]⟩),(116,0,⟨[4,5,9,10,11,12,13,14,15,16,17,18],false,[]⟩),(117,0,⟨[4,5,9,10,11,12,13,14,15,16,17,18],false,[]⟩),(118,0,⟨[4,5,9,10,11,12,13,14,15,16,17,18],false,[]⟩),(120,0,⟨[6,7,21,22,23,24,25,26,27,28,29,30,31,32,33,34,35,36,37,38],false,[]⟩)]
def dropL : List Nat:=[58,63,100,104]
def cloneL : List (Nat × Nat):=[(76,3),(107,66)]
def growL : List (Nat × Nat):=[(114,3)]
def pureL : List Nat:=[0,1,2,3,4,5,6,7,8,9,10,11,12,13,14,15,16,17,18,19,20,21,22,23,24,25,26,27,28,29,30,31,32,33,34,35,36,37,38,39,40,41,42,43,44,45,46,47,48,49,50,53,54,57,58,59,60,61,63,65,66,67,68,69,70,71,72,73,84,87,89,91,92,93,94,96,98,101,108,110,115,122]
def pinL : List (Nat × Nat × Nat × Bool):=[(18,0,51,true),(5,0,17,false),(10,0,27,false),(11,0,40,false),(11,0,41,false)]
end Am.Cr
