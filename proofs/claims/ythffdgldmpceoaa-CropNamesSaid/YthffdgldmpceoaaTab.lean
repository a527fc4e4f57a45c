/-
  A part of the proof: the texts CrTab of this seat, joined.
-/
import Derived.Test.YthffdgldmpceoaaTabA
namespace Am.Cr
open Go Am
set_option maxRecDepth 100000
def f37 : AFunc:=⟨5,[.tmp 2],false,
 (.seq (.region 1 [] [
 ⟨(some 1),.box (.tmp 0),none,0⟩,
 ⟨(some 2),.mov (.cst (.c (.int .i64 0))),none,1⟩])
 (.seq (.region 0 [] [
 ⟨(some 3),.faddr 0 (.tmp 1),none,0⟩,
 ⟨(some 4),.load none (.tmp 3),none,0⟩,
 ⟨(some 2),.mov (.tmp 4),none,0⟩])
 .ret))⟩
def f38 : AFunc:=⟨12,[.cell 8 (some 2)],false,
 (.seq (.region 5 [] [
 ⟨(some 4),.box (.tmp 0),none,0⟩,
 ⟨(some 5),.box (.tmp 1),none,1⟩,
 ⟨(some 6),.box (.tmp 2),none,2⟩,
 ⟨(some 7),.box (.tmp 3),none,3⟩,
 ⟨(some 8),.alloc [(.int .i64 0),(.int .i64 0)],none,4⟩])
 (.seq (.region 0 [] [
 ⟨(some 9),.load none (.tmp 5),none,0⟩,
 ⟨(some 10),.mkfn 66 none [(.tmp 4),(.tmp 5),(.tmp 6),(.tmp 7)],none,0⟩,
 ⟨(some 11),.call 23 false [(.tmp 9),(.tmp 10)],none,0⟩,
 ⟨none,.store (some 2) (.tmp 8) (.tmp 11),none,0⟩])
 .ret))⟩
def f39 : AFunc:=⟨35,[.tmp 6],false,
 (.seq (.region 1 [] [
 ⟨(some 3),.box (.tmp 0),none,0⟩,
 ⟨(some 6),.mov (.cst (.c (.int .i64 0))),none,1⟩])
 (.seq (.region 0 [] [
 ⟨(some 7),.mov (.cst (.c (.int .i64 (-1)))),none,0⟩])
 (.seq (.seq (.region 0 [] [
 ⟨(some 8),.mov (.tmp 2),none,0⟩,
 ⟨(some 9),.bin .gtr (.tmp 8) (.cst (.c (.int .i64 0))),none,0⟩])
 (.cond (.tmp 9)
 (.region 0 [] [
 ⟨(some 10),.mov (.tmp 1),none,0⟩,
 ⟨(some 11),.mov (.tmp 2),none,0⟩,
 ⟨(some 12),.bin .sub (.tmp 11) (.cst (.c (.int .i64 1))),none,0⟩,
 ⟨(some 13),.iaddr 1 (.tmp 10) (.tmp 12),none,0⟩,
 ⟨(some 14),.load none (.tmp 13),none,0⟩,
 ⟨(some 7),.mov (.tmp 14),none,0⟩])
 .skip))
 (.seq (.region 0 [(0,2),(1,2),(0,5),(1,5),(2,5),(3,5),(4,5),(0,6),(1,6),(2,6),(3,6),(4,6),(0,7),(1,7),(2,7),(3,7),(4,7),(5,7),(6,7),(0,8),(1,8),(2,8),(3,8),(4,8),(5,8),(6,8),(7,8),(0,9),(1,9),(2,9),(3,9),(4,9),(5,9),(6,9),(0,10),(1,10),(2,10),(3,10),(4,10),(5,10),(6,10),(0,11),(1,11),(2,11),(3,11),(4,11),(5,11),(6,11),(7,11),(8,11),(9,11),(10,11),(0,12),(1,12),(2,12),(3,12),(4,12),(5,12),(6,12),(0,13),(1,13),(2,13),(3,13),(4,13),(5,13),(6,13),(7,13),(8,13),(9,13),(10,13),(11,13),(12,13),(0,14),(1,14),(2,14),(3,14),(4,14),(5,14),(6,14),(7,14),(8,14),(9,14),(10,14),(11,14),(12,14),(0,15),(1,15),(2,15),(3,15),(4,15),(5,15),(6,15),(0,16),(1,16),(2,16),(3,16),(4,16),(5,16),(6,16),(0,17),(1,17),(2,17),(3,17),(4,17)] [
 ⟨(some 15),.faddr 3 (.tmp 3),none,0⟩,
 ⟨(some 16),.load none (.tmp 15),none,0⟩,
 ⟨(some 17),.mov (.tmp 2),none,0⟩,
 ⟨(some 18),.iaddr 1 (.tmp 16) (.tmp 17),none,0⟩,
 ⟨(some 19),.load none (.tmp 18),none,0⟩,
 ⟨(some 20),.faddr 6 (.tmp 3),none,0⟩,
 ⟨(some 21),.load none (.tmp 20),none,0⟩,
 ⟨(some 22),.mov (.tmp 1),none,0⟩,
 ⟨(some 23),.mov (.tmp 2),none,0⟩,
 ⟨(some 24),.iaddr 1 (.tmp 22) (.tmp 23),none,0⟩,
 ⟨(some 25),.load none (.tmp 24),none,0⟩,
 ⟨(some 26),.mov (.tmp 7),none,0⟩,
 ⟨(some 27),.bin .sub (.tmp 25) (.tmp 26),none,0⟩,
 ⟨(some 28),.faddr 5 (.tmp 3),none,0⟩,
 ⟨(some 29),.load none (.tmp 28),none,0⟩,
 ⟨(some 30),.bin .sub (.tmp 27) (.tmp 29),none,0⟩,
 ⟨(some 31),.mm true (.cst (.c (.int .i64 0))) (.tmp 30),none,0⟩,
 ⟨(some 32),.bin .mul (.tmp 21) (.tmp 31),none,0⟩,
 ⟨(some 33),.bin .sub (.tmp 19) (.tmp 32),none,0⟩,
 ⟨(some 34),.mm true (.cst (.c (.int .i64 0))) (.tmp 33),none,0⟩,
 ⟨(some 6),.mov (.tmp 34),none,0⟩])
 .ret))))⟩
def f40 : AFunc:=⟨5,[.tmp 2],false,
 (.seq (.region 1 [] [
 ⟨(some 1),.box (.tmp 0),none,0⟩,
 ⟨(some 2),.mov (.cst (.c (.int .i64 0))),none,1⟩])
 (.seq (.region 0 [] [
 ⟨(some 3),.faddr 2 (.tmp 1),none,0⟩,
 ⟨(some 4),.load none (.tmp 3),none,0⟩,
 ⟨(some 2),.mov (.tmp 4),none,0⟩])
 .ret))⟩
def f41 : AFunc:=⟨6,[.tmp 4],false,
 (.seq (.region 2 [] [
 ⟨(some 2),.box (.tmp 0),none,0⟩,
 ⟨(some 3),.box (.tmp 1),none,1⟩,
 ⟨(some 4),.mov (.cst (.c .nilfn)),none,2⟩])
 (.seq (.region 0 [] [
 ⟨(some 5),.mkfn 67 none [(.tmp 2),(.tmp 3)],none,0⟩,
 ⟨(some 4),.mov (.tmp 5),none,0⟩])
 .ret))⟩
def f42 : AFunc:=⟨44,[],false,
 (.seq (.seq (.region 0 [] [
 ⟨(some 12),.load none (.tmp 2),none,0⟩,
 ⟨(some 13),.load none (.tmp 3),none,0⟩,
 ⟨(some 14),.mov (.tmp 0),none,0⟩,
 ⟨(some 15),.call 43 false [(.tmp 12),(.tmp 13),(.tmp 14)],none,0⟩,
 ⟨(some 10),.mov (.tmp 15),none,0⟩])
 (.seq (.region 0 [] [
 ⟨(some 16),.mov (.tmp 10),none,0⟩,
 ⟨(some 17),.load none (.tmp 4),none,0⟩,
 ⟨(some 18),.bin .gtr (.tmp 16) (.tmp 17),none,0⟩])
 (.cond (.tmp 18)
 (.region 1 [] [
 ⟨(some 19),.mov (.tmp 0),none,0⟩,
 ⟨(some 20),.clone 33 1 8 (.tmp 19),none,0⟩,
 ⟨(some 21),.mov (.tmp 10),none,1⟩,
 ⟨none,.store none (.tmp 5) (.tmp 20),none,1⟩,
 ⟨none,.store none (.tmp 4) (.tmp 21),none,1⟩])
 .skip)))
 (.seq (.seq (.region 0 [] [
 ⟨(some 22),.mov (.tmp 0),none,0⟩,
 ⟨(some 23),.len (.tmp 22),none,0⟩,
 ⟨(some 24),.faddr 3 (.tmp 6),none,0⟩,
 ⟨(some 25),.load none (.tmp 24),none,0⟩,
 ⟨(some 26),.len (.tmp 25),none,0⟩,
 ⟨(some 27),.bin .eql (.tmp 23) (.tmp 26),none,0⟩])
 (.cond (.tmp 27)
 .ret
 .skip))
 (.seq (.region 0 [] [
 ⟨(some 28),.mov (.tmp 1),none,0⟩,
 ⟨(some 11),.mov (.tmp 28),none,0⟩])
 (.block 0 (.loop ⟨[29,30,31,32,33,34,35,36,37,38,39,40,41,42,43],false,[]⟩
 (.seq (.seq (.region 0 [] [
 ⟨(some 29),.mov (.tmp 11),none,0⟩,
 ⟨(some 30),.faddr 0 (.tmp 6),none,0⟩,
 ⟨(some 31),.load none (.tmp 30),none,0⟩,
 ⟨(some 32),.bin .leq (.tmp 29) (.tmp 31),none,0⟩])
 (.cond (.tmp 32)
 .skip
 (.exit 0)))
 (.seq (.block 1 (.region 3 [(0,1),(0,2),(0,3),(1,3),(2,3),(0,4),(1,4),(2,4),(0,5),(0,6),(1,6),(2,6),(3,6),(4,6),(5,6),(0,7),(1,7),(2,7),(3,7),(4,7),(5,7)] [
 ⟨(some 35),.load none (.tmp 7),none,0⟩,
 ⟨(some 36),.mov (.tmp 0),none,0⟩,
 ⟨(some 37),.clone 33 1 8 (.tmp 36),none,0⟩,
 ⟨(some 38),.mov (.tmp 11),none,1⟩,
 ⟨(some 39),.bslice 1 1 [(.int .i64 0)] [(0,(.tmp 38))],none,1⟩,
 ⟨(some 40),.append 1 8 (.tmp 37) (.tmp 39),none,2⟩,
 ⟨(some 41),.mov (.tmp 11),none,3⟩,
 ⟨(some 42),.bin .add (.tmp 41) (.cst (.c (.int .i64 1))),none,3⟩,
 ⟨(some 43),.callv (.tmp 35) [(.tmp 40),(.tmp 42)],none,3⟩]))
 (.region 0 [] [
 ⟨(some 33),.mov (.tmp 11),none,0⟩,
 ⟨(some 34),.bin .add (.tmp 33) (.cst (.c (.int .i64 1))),none,0⟩,
 ⟨(some 11),.mov (.tmp 34),none,0⟩]))))))))⟩
def f43 : AFunc:=⟨31,[.tmp 6],false,
 (.seq (.region 0 [] [
 ⟨(some 6),.mov (.cst (.c (.int .i64 0))),none,0⟩])
 (.seq (.region 0 [] [
 ⟨(some 10),.mov (.tmp 0),none,0⟩,
 ⟨(some 11),.mov (.tmp 1),none,0⟩,
 ⟨(some 12),.iaddr 2 (.tmp 11) (.cst (.c (.int .i64 0))),none,0⟩,
 ⟨(some 13),.load (some 2) (.tmp 12),none,0⟩,
 ⟨(some 14),.mov (.tmp 2),none,0⟩,
 ⟨(some 15),.call 25 false [(.tmp 10),(.tmp 13),(.tmp 14)],none,0⟩,
 ⟨(some 7),.mov (.tmp 15),none,0⟩])
 (.seq (.seq (.region 0 [] [
 ⟨(some 16),.mov (.tmp 1),none,0⟩,
 ⟨(some 17),.len (.tmp 16),none,0⟩,
 ⟨(some 18),.mov (.cst (.c (.int .i64 0))),none,0⟩])
 (.block 0 (.loop ⟨[9,19,20,21,22,23,24,25,26,27,28,29],false,[]⟩
 (.seq (.region 0 [] [
 ⟨(some 19),.bin .lss (.tmp 18) (.tmp 17),none,0⟩])
 (.seq (.cond (.tmp 19)
 .skip
 (.exit 0))
 (.seq (.block 1 (.seq (.region 1 [] [
 ⟨(some 20),.iaddr 2 (.tmp 16) (.tmp 18),none,0⟩,
 ⟨(some 21),.load (some 2) (.tmp 20),none,0⟩,
 ⟨(some 9),.alloc [.nils,.nils],none,0⟩,
 ⟨none,.store (some 2) (.tmp 9) (.tmp 21),none,1⟩])
 (.region 1 [] [
 ⟨(some 22),.mov (.tmp 7),none,0⟩,
 ⟨(some 23),.mov (.tmp 0),none,0⟩,
 ⟨(some 24),.load (some 2) (.tmp 9),none,0⟩,
 ⟨(some 25),.mov (.tmp 2),none,0⟩,
 ⟨(some 26),.call 25 false [(.tmp 23),(.tmp 24),(.tmp 25)],none,0⟩,
 ⟨(some 27),.bslice 1 2 [(.int .i64 0)] [(0,(.tmp 22)),(1,(.tmp 26))],none,0⟩,
 ⟨(some 28),.call 53 true [(.tmp 27)],none,1⟩,
 ⟨(some 7),.mov (.tmp 28),none,1⟩])))
 (.region 0 [] [
 ⟨(some 29),.bin .add (.tmp 18) (.cst (.c (.int .i64 1))),none,0⟩,
 ⟨(some 18),.mov (.tmp 29),none,0⟩])))))))
 (.seq (.region 0 [] [
 ⟨(some 30),.mov (.tmp 7),none,0⟩,
 ⟨(some 6),.mov (.tmp 30),none,0⟩])
 .ret))))⟩
def f44 : AFunc:=⟨14,[.tmp 4],true,
 (.seq (.region 2 [] [
 ⟨(some 2),.box (.tmp 0),none,0⟩,
 ⟨(some 3),.box (.tmp 1),none,1⟩,
 ⟨(some 4),.mov (.cst (.c (.bool false))),none,2⟩])
 (.seq (.region 0 [] [
 ⟨(some 5),.load (some 9) (.tmp 2),none,0⟩,
 ⟨(some 6),.faddr 0 (.tmp 3),none,0⟩,
 ⟨(some 7),.load none (.tmp 6),none,0⟩,
 ⟨(some 8),.call 28 true [(.tmp 5),(.tmp 7)],none,0⟩,
 ⟨(some 9),.mov (.tmp 8),none,0⟩,
 ⟨(some 10),.faddr 1 (.tmp 3),some (9,true),0⟩,
 ⟨(some 11),.load (some 2) (.tmp 10),some (9,true),0⟩,
 ⟨(some 12),.call 69 true [(.tmp 11),(.cst (.c (.int .i64 1000)))],some (9,true),0⟩,
 ⟨(some 13),.pick (.tmp 9) (.tmp 12) (.cst (.c (.bool false))),none,0⟩,
 ⟨(some 4),.mov (.tmp 13),none,0⟩])
 .ret))⟩
def f45 : AFunc:=⟨21,[.tmp 2],false,
 (.seq (.region 1 [] [
 ⟨(some 1),.box (.tmp 0),none,0⟩,
 ⟨(some 2),.mov (.cst (.c (.bool false))),none,1⟩])
 (.seq (.region 0 [] [
 ⟨(some 3),.faddr 0 (.tmp 1),none,0⟩,
 ⟨(some 4),.load none (.tmp 3),none,0⟩,
 ⟨(some 5),.bin .geq (.tmp 4) (.cst (.c (.int .i64 0))),none,0⟩,
 ⟨(some 6),.mov (.tmp 5),none,0⟩,
 ⟨(some 7),.faddr 5 (.tmp 1),some (6,true),0⟩,
 ⟨(some 8),.load none (.tmp 7),some (6,true),0⟩,
 ⟨(some 9),.call 59 true [(.tmp 8),(.cst (.c (.int .i64 1))),(.cst (.c (.int .i64 10)))],some (6,true),0⟩,
 ⟨(some 10),.pick (.tmp 6) (.tmp 9) (.cst (.c (.bool false))),none,0⟩,
 ⟨(some 11),.mov (.tmp 10),none,0⟩,
 ⟨(some 12),.faddr 6 (.tmp 1),some (11,true),0⟩,
 ⟨(some 13),.load none (.tmp 12),some (11,true),0⟩,
 ⟨(some 14),.call 59 true [(.tmp 13),(.cst (.c (.int .i64 0))),(.cst (.c (.int .i64 50)))],some (11,true),0⟩,
 ⟨(some 15),.pick (.tmp 11) (.tmp 14) (.cst (.c (.bool false))),none,0⟩,
 ⟨(some 16),.mov (.tmp 15),none,0⟩,
 ⟨(some 17),.faddr 7 (.tmp 1),some (16,true),0⟩,
 ⟨(some 18),.load none (.tmp 17),some (16,true),0⟩,
 ⟨(some 19),.call 59 true [(.tmp 18),(.cst (.c (.int .i64 0))),(.cst (.c (.int .i64 100)))],some (16,true),0⟩,
 ⟨(some 20),.pick (.tmp 16) (.tmp 19) (.cst (.c (.bool false))),none,0⟩,
 ⟨(some 2),.mov (.tmp 20),none,0⟩])
 .ret))⟩
def f46 : AFunc:=⟨6,[.tmp 2],false,
 (.seq (.region 1 [] [
 ⟨(some 1),.box (.tmp 0),none,0⟩,
 ⟨(some 2),.mov (.cst (.c (.int .i64 0))),none,1⟩])
 (.seq (.region 0 [] [
 ⟨(some 3),.faddr 0 (.tmp 1),none,0⟩,
 ⟨(some 4),.load none (.tmp 3),none,0⟩,
 ⟨(some 5),.bin .add (.tmp 4) (.cst (.c (.int .i64 1))),none,0⟩,
 ⟨(some 2),.mov (.tmp 5),none,0⟩])
 .ret))⟩
def f47 : AFunc:=⟨14,[.tmp 2],false,
 (.seq (.region 1 [] [
 ⟨(some 1),.box (.tmp 0),none,0⟩,
 ⟨(some 2),.mov (.cst (.c (.bool false))),none,1⟩])
 (.seq (.region 1 [] [
 ⟨(some 3),.alloc [(.int .i64 0)],none,0⟩,
 ⟨none,.store none (.tmp 3) (.cst (.c (.int .i64 200))),none,1⟩])
 (.seq (.region 0 [] [
 ⟨(some 4),.faddr 3 (.tmp 1),none,0⟩,
 ⟨(some 5),.load none (.tmp 4),none,0⟩,
 ⟨(some 6),.len (.tmp 5),none,0⟩,
 ⟨(some 7),.bin .gtr (.tmp 6) (.cst (.c (.int .i64 0))),none,0⟩,
 ⟨(some 8),.mov (.tmp 7),none,0⟩,
 ⟨(some 9),.faddr 3 (.tmp 1),some (8,true),0⟩,
 ⟨(some 10),.load none (.tmp 9),some (8,true),0⟩,
 ⟨(some 11),.mkfn 70 none [(.tmp 3)],some (8,true),0⟩,
 ⟨(some 12),.call 50 false [(.tmp 10),(.tmp 11)],some (8,true),0⟩,
 ⟨(some 13),.pick (.tmp 8) (.tmp 12) (.cst (.c (.bool false))),none,0⟩,
 ⟨(some 2),.mov (.tmp 13),none,0⟩])
 .ret)))⟩
def f48 : AFunc:=⟨9,[.tmp 4],false,
 (.seq (.region 1 [] [
 ⟨(some 3),.box (.tmp 1),none,0⟩,
 ⟨(some 4),.mov (.cst (.c (.bool false))),none,1⟩])
 (.seq (.region 0 [] [
 ⟨(some 5),.mov (.tmp 0),none,0⟩,
 ⟨(some 6),.mkfn 72 none [(.tmp 3)],none,0⟩,
 ⟨(some 7),.call 71 false [(.tmp 5),(.tmp 6)],none,0⟩,
 ⟨(some 8),.not (.tmp 7),none,0⟩,
 ⟨(some 4),.mov (.tmp 8),none,0⟩])
 .ret))⟩
def f49 : AFunc:=⟨5,[.tmp 2],true,
 (.seq (.region 1 [] [
 ⟨(some 1),.box (.tmp 0),none,0⟩,
 ⟨(some 2),.mov (.cst (.c (.bool false))),none,1⟩])
 (.seq (.region 0 [] [
 ⟨(some 3),.load (some 2) (.tmp 1),none,0⟩,
 ⟨(some 4),.call 69 true [(.tmp 3),(.cst (.c (.int .i64 50)))],none,0⟩,
 ⟨(some 2),.mov (.tmp 4),none,0⟩])
 .ret))⟩
def f50 : AFunc:=⟨9,[.tmp 4],false,
 (.seq (.region 1 [] [
 ⟨(some 3),.box (.tmp 1),none,0⟩,
 ⟨(some 4),.mov (.cst (.c (.bool false))),none,1⟩])
 (.seq (.region 0 [] [
 ⟨(some 5),.mov (.tmp 0),none,0⟩,
 ⟨(some 6),.mkfn 74 none [(.tmp 3)],none,0⟩,
 ⟨(some 7),.call 73 false [(.tmp 5),(.tmp 6)],none,0⟩,
 ⟨(some 8),.not (.tmp 7),none,0⟩,
 ⟨(some 4),.mov (.tmp 8),none,0⟩])
 .ret))⟩
def f51 : AFunc:=⟨5,[.tmp 2],false,
 (.seq (.region 0 [] [
 ⟨(some 2),.mov (.cst (.c (.bool false))),none,0⟩])
 (.seq (.region 0 [] [
 ⟨(some 3),.mov (.tmp 0),none,0⟩,
 ⟨(some 4),.call 59 true [(.tmp 3),(.cst (.c (.int .i64 0))),(.cst (.c (.int .i64 2)))],none,0⟩,
 ⟨(some 2),.mov (.tmp 4),none,0⟩])
 .ret))⟩
def f52 : AFunc:=⟨29,[.tmp 2],false,
 (.seq (.region 1 [] [
 ⟨(some 1),.box (.tmp 0),none,0⟩,
 ⟨(some 2),.mov (.cst (.c .nils)),none,1⟩])
 (.seq (.region 1 [] [
 ⟨(some 7),.faddr 1 (.tmp 1),none,0⟩,
 ⟨(some 8),.load none (.tmp 7),none,0⟩,
 ⟨(some 9),.clone 75 2 16 (.tmp 8),none,0⟩,
 ⟨(some 3),.mov (.tmp 9),none,1⟩])
 (.seq (.seq (.region 0 [] [
 ⟨(some 10),.faddr 2 (.tmp 1),none,0⟩,
 ⟨(some 11),.load none (.tmp 10),none,0⟩,
 ⟨(some 12),.len (.tmp 11),none,0⟩,
 ⟨(some 13),.mov (.cst (.c (.int .i64 0))),none,0⟩])
 (.block 0 (.loop ⟨[5,6,14,15,16,17,18,19,20,21,22,23,24,25,26,27],true,[(3,none,2)]⟩
 (.seq (.region 0 [] [
 ⟨(some 14),.bin .lss (.tmp 13) (.tmp 12),none,0⟩])
 (.seq (.cond (.tmp 14)
 .skip
 (.exit 0))
 (.seq (.block 1 (.seq (.region 0 [] [
 ⟨(some 15),.iaddr 1 (.tmp 11) (.tmp 13),none,0⟩,
 ⟨(some 16),.load none (.tmp 15),none,0⟩,
 ⟨(some 5),.mov (.tmp 16),none,0⟩])
 (.seq (.region 1 [] [
 ⟨(some 17),.mov (.tmp 5),none,0⟩,
 ⟨(some 18),.mov (.tmp 5),none,0⟩,
 ⟨(some 19),.build [(.int .i64 0),(.int .i64 0)] [(0,1,(.tmp 17)),(1,1,(.tmp 18))],none,0⟩,
 ⟨(some 6),.alloc [(.int .i64 0),(.int .i64 0)],none,0⟩,
 ⟨none,.store (some 2) (.tmp 6) (.tmp 19),none,1⟩])
 (.seq (.seq (.region 0 [] [
 ⟨(some 20),.mov (.tmp 5),none,0⟩,
 ⟨(some 21),.bin .eql (.tmp 20) (.cst (.c (.int .i64 2))),none,0⟩])
 (.cond (.tmp 21)
 (.region 0 [] [
 ⟨(some 22),.build [(.int .i64 0),(.int .i64 0)] [(0,1,(.cst (.c (.int .i64 0)))),(1,1,(.cst (.c (.int .i64 1))))],none,0⟩,
 ⟨none,.store (some 2) (.tmp 6) (.tmp 22),none,0⟩])
 .skip))
 (.region 2 [] [
 ⟨(some 23),.mov (.tmp 3),none,0⟩,
 ⟨(some 24),.load (some 2) (.tmp 6),none,0⟩,
 ⟨(some 25),.bslice 2 1 [(.int .i64 0),(.int .i64 0)] [(0,(.tmp 24))],none,0⟩,
 ⟨(some 26),.append 2 16 (.tmp 23) (.tmp 25),none,1⟩,
 ⟨(some 3),.mov (.tmp 26),none,2⟩])))))
 (.region 0 [] [
 ⟨(some 27),.bin .add (.tmp 13) (.cst (.c (.int .i64 1))),none,0⟩,
 ⟨(some 13),.mov (.tmp 27),none,0⟩])))))))
 (.seq (.region 0 [] [
 ⟨(some 28),.mov (.tmp 3),none,0⟩,
 ⟨(some 2),.mov (.tmp 28),none,0⟩])
 .ret))))⟩
def f53 : AFunc:=⟨5,[.tmp 2],false,
 (.seq (.region 0 [] [
 ⟨(some 2),.mov (.cst (.c (.int .i64 0))),none,0⟩])
 (.seq (.region 0 [] [
 ⟨(some 3),.mov (.tmp 0),none,0⟩,
 ⟨(some 4),.call 76 true [(.tmp 3)],none,0⟩,
 ⟨(some 2),.mov (.tmp 4),none,0⟩])
 .ret))⟩
def f54 : AFunc:=⟨9,[.tmp 2],false,
 (.seq (.region 1 [] [
 ⟨(some 1),.box (.tmp 0),none,0⟩,
 ⟨(some 2),.mov (.cst (.c (.int .i64 0))),none,1⟩])
 (.seq (.region 0 [] [
 ⟨(some 3),.faddr 1 (.tmp 1),none,0⟩,
 ⟨(some 4),.load none (.tmp 3),none,0⟩,
 ⟨(some 5),.faddr 0 (.tmp 1),none,0⟩,
 ⟨(some 6),.load none (.tmp 5),none,0⟩,
 ⟨(some 7),.bin .sub (.tmp 4) (.tmp 6),none,0⟩,
 ⟨(some 8),.bin .add (.tmp 7) (.cst (.c (.int .i64 1))),none,0⟩,
 ⟨(some 2),.mov (.tmp 8),none,0⟩])
 .ret))⟩
def f55 : AFunc:=⟨46,[.cell 4 (some 2),.tmp 5],false,
 (.seq (.region 3 [] [
 ⟨(some 2),.box (.tmp 0),none,0⟩,
 ⟨(some 3),.box (.tmp 1),none,1⟩,
 ⟨(some 4),.alloc [.nils,.nils],none,2⟩,
 ⟨(some 5),.mov (.cst (.c (.int .i64 0))),none,3⟩])
 (.seq (.region 1 [] [
 ⟨(some 14),.load (some 9) (.tmp 2),none,0⟩,
 ⟨(some 15),.load none (.tmp 3),none,0⟩,
 ⟨(some 16),.call 22 false [(.tmp 14),(.tmp 15)],none,0⟩,
 ⟨(some 13),.mov (.tmp 16),none,0⟩,
 ⟨(some 17),.extract 0 (.tmp 13),none,0⟩,
 ⟨(some 18),.extract 1 (.tmp 13),none,0⟩,
 ⟨(some 6),.alloc [.nilp],none,0⟩,
 ⟨none,.store none (.tmp 6) (.tmp 17),none,1⟩,
 ⟨(some 7),.mov (.tmp 18),none,1⟩])
 (.seq (.seq (.region 0 [] [
 ⟨(some 19),.mov (.tmp 7),none,0⟩,
 ⟨(some 20),.bin .neq (.tmp 19) (.cst (.c (.int .i64 0))),none,0⟩])
 (.cond (.tmp 20)
 (.seq (.region 0 [] [
 ⟨(some 21),.build [.nils,.nils] [],none,0⟩,
 ⟨(some 22),.mov (.tmp 7),none,0⟩,
 ⟨none,.store (some 2) (.tmp 4) (.tmp 21),none,0⟩,
 ⟨(some 5),.mov (.tmp 22),none,0⟩])
 .ret)
 .skip))
 (.seq (.region 1 [] [
 ⟨(some 8),.alloc [.nils,.nils],none,0⟩])
 (.seq (.region 2 [] [
 ⟨(some 9),.alloc [(.int .i64 0)],none,0⟩,
 ⟨(some 10),.alloc [(.bool false)],none,1⟩,
 ⟨none,.store none (.tmp 9) (.cst (.c (.int .i64 0))),none,2⟩,
 ⟨none,.store none (.tmp 10) (.cst (.c (.bool false))),none,2⟩])
 (.seq (.seq (.region 0 [] [
 ⟨(some 23),.load none (.tmp 6),none,0⟩,
 ⟨(some 24),.call 41 false [(.tmp 23),(.cst (.c .nils))],none,0⟩])
 (.block 0 (.range (.tmp 24) [25]
 (.region 1 [] [
 ⟨(some 11),.alloc [.nils,.nils],none,0⟩,
 ⟨none,.store (some 2) (.tmp 11) (.tmp 25),none,1⟩])
 (.block 1 (.seq (.region 0 [] [
 ⟨(some 26),.load none (.tmp 6),none,0⟩,
 ⟨(some 27),.load (some 2) (.tmp 11),none,0⟩,
 ⟨(some 28),.load none (.tmp 3),none,0⟩,
 ⟨(some 29),.call 25 false [(.tmp 26),(.tmp 27),(.tmp 28)],none,0⟩,
 ⟨(some 12),.mov (.tmp 29),none,0⟩])
 (.seq (.region 0 [] [
 ⟨(some 30),.load none (.tmp 10),none,0⟩,
 ⟨(some 31),.not (.tmp 30),none,0⟩,
 ⟨(some 32),.mov (.tmp 31),none,0⟩,
 ⟨(some 33),.mov (.tmp 12),some (32,false),0⟩,
 ⟨(some 34),.load none (.tmp 9),some (32,false),0⟩,
 ⟨(some 35),.bin .lss (.tmp 33) (.tmp 34),some (32,false),0⟩,
 ⟨(some 36),.pick (.tmp 32) (.cst (.c (.bool true))) (.tmp 35),none,0⟩])
 (.cond (.tmp 36)
 (.seq (.region 0 [] [
 ⟨(some 37),.mov (.tmp 12),none,0⟩,
 ⟨none,.store none (.tmp 9) (.tmp 37),none,0⟩,
 ⟨none,.store none (.tmp 10) (.cst (.c (.bool true))),none,0⟩])
 (.region 2 [(0,3),(1,3),(2,3),(0,4),(1,4),(2,4)] [
 ⟨(some 38),.faddr 0 (.tmp 11),none,0⟩,
 ⟨(some 39),.load none (.tmp 38),none,0⟩,
 ⟨(some 40),.clone 33 1 8 (.tmp 39),none,0⟩,
 ⟨(some 41),.faddr 1 (.tmp 11),none,1⟩,
 ⟨(some 42),.load none (.tmp 41),none,1⟩,
 ⟨(some 43),.clone 33 1 8 (.tmp 42),none,1⟩,
 ⟨(some 44),.build [.nils,.nils] [(0,1,(.tmp 40)),(1,1,(.tmp 43))],none,2⟩,
 ⟨none,.store (some 2) (.tmp 8) (.tmp 44),none,2⟩]))
 .skip)))))))
 (.seq (.region 0 [] [
 ⟨(some 45),.load (some 2) (.tmp 8),none,0⟩,
 ⟨none,.store (some 2) (.tmp 4) (.tmp 45),none,0⟩,
 ⟨(some 5),.mov (.cst (.c (.int .i64 0))),none,0⟩])
 .ret)))))))⟩
def f56 : AFunc:=⟨26,[.tmp 4],false,
 (.seq (.region 0 [] [
 ⟨(some 4),.mov (.cst (.c (.bool false))),none,0⟩])
 (.seq (.seq (.region 0 [] [
 ⟨(some 6),.mov (.tmp 0),none,0⟩,
 ⟨(some 7),.len (.tmp 6),none,0⟩,
 ⟨(some 8),.mov (.tmp 1),none,0⟩,
 ⟨(some 9),.len (.tmp 8),none,0⟩,
 ⟨(some 10),.bin .neq (.tmp 7) (.tmp 9),none,0⟩])
 (.cond (.tmp 10)
 (.seq (.region 0 [] [
 ⟨(some 4),.mov (.cst (.c (.bool false))),none,0⟩])
 .ret)
 .skip))
 (.seq (.seq (.region 0 [] [
 ⟨(some 5),.mov (.cst (.c (.int .i64 0))),none,0⟩])
 (.block 0 (.loop ⟨[4,11,12,13,14,15,16,17,18,19,20,21,22,23,24,25],false,[]⟩
 (.seq (.seq (.region 0 [] [
 ⟨(some 11),.mov (.tmp 5),none,0⟩,
 ⟨(some 12),.mov (.tmp 0),none,0⟩,
 ⟨(some 13),.len (.tmp 12),none,0⟩,
 ⟨(some 14),.bin .lss (.tmp 11) (.tmp 13),none,0⟩])
 (.cond (.tmp 14)
 .skip
 (.exit 0)))
 (.seq (.block 1 (.seq (.region 0 [(0,1),(0,4),(1,4),(2,4),(3,4),(0,5),(1,5),(2,5),(3,5),(4,5),(0,6),(1,6),(2,6),(3,6),(0,7),(1,7),(2,7),(3,7)] [
 ⟨(some 17),.mov (.tmp 0),none,0⟩,
 ⟨(some 18),.mov (.tmp 5),none,0⟩,
 ⟨(some 19),.iaddr 1 (.tmp 17) (.tmp 18),none,0⟩,
 ⟨(some 20),.load none (.tmp 19),none,0⟩,
 ⟨(some 21),.mov (.tmp 1),none,0⟩,
 ⟨(some 22),.mov (.tmp 5),none,0⟩,
 ⟨(some 23),.iaddr 1 (.tmp 21) (.tmp 22),none,0⟩,
 ⟨(some 24),.load none (.tmp 23),none,0⟩,
 ⟨(some 25),.bin .neq (.tmp 20) (.tmp 24),none,0⟩])
 (.cond (.tmp 25)
 (.seq (.region 0 [] [
 ⟨(some 4),.mov (.cst (.c (.bool false))),none,0⟩])
 .ret)
 .skip)))
 (.region 0 [] [
 ⟨(some 15),.mov (.tmp 5),none,0⟩,
 ⟨(some 16),.bin .add (.tmp 15) (.cst (.c (.int .i64 1))),none,0⟩,
 ⟨(some 5),.mov (.tmp 16),none,0⟩]))))))
 (.seq (.region 0 [] [
 ⟨(some 4),.mov (.cst (.c (.bool true))),none,0⟩])
 .ret))))⟩
def f57 : AFunc:=⟨36,[.tmp 2],false,
 (.seq (.region 0 [] [
 ⟨(some 2),.mov (.cst (.c .nils)),none,0⟩])
 (.seq (.region 0 [] [
 ⟨(some 3),.mov (.cst (.c (.int .i64 0))),none,0⟩])
 (.seq (.seq (.region 0 [] [
 ⟨(some 9),.mov (.tmp 0),none,0⟩,
 ⟨(some 10),.len (.tmp 9),none,0⟩,
 ⟨(some 11),.mov (.cst (.c (.int .i64 0))),none,0⟩])
 (.block 0 (.loop ⟨[5,12,13,14,15,16,17,18,19,20,21,22],false,[]⟩
 (.seq (.region 0 [] [
 ⟨(some 12),.bin .lss (.tmp 11) (.tmp 10),none,0⟩])
 (.seq (.cond (.tmp 12)
 .skip
 (.exit 0))
 (.seq (.block 1 (.seq (.region 0 [] [
 ⟨(some 13),.iaddr 1 (.tmp 9) (.tmp 11),none,0⟩,
 ⟨(some 14),.load none (.tmp 13),none,0⟩,
 ⟨(some 5),.mov (.tmp 14),none,0⟩])
 (.seq (.region 0 [] [
 ⟨(some 15),.mov (.tmp 3),none,0⟩,
 ⟨(some 16),.mov (.tmp 5),none,0⟩,
 ⟨(some 17),.len (.tmp 16),none,0⟩,
 ⟨(some 18),.bin .add (.tmp 15) (.tmp 17),none,0⟩,
 ⟨(some 3),.mov (.tmp 18),none,0⟩])
 (.seq (.region 0 [] [
 ⟨(some 19),.mov (.tmp 3),none,0⟩,
 ⟨(some 20),.bin .lss (.tmp 19) (.cst (.c (.int .i64 0))),none,0⟩])
 (.cond (.tmp 20)
 (.region 0 [] [
 ⟨(some 21),.pick (.cst (.c .any)) (.cst (.c .any)) (.cst (.c .any)),none,0⟩,
 ⟨none,.pick (.cst (.c .any)) (.cst (.c .any)) (.cst (.c .any)),none,0⟩])
 .skip)))))
 (.region 0 [] [
 ⟨(some 22),.bin .add (.tmp 11) (.cst (.c (.int .i64 1))),none,0⟩,
 ⟨(some 11),.mov (.tmp 22),none,0⟩])))))))
 (.seq (.region 1 [] [
 ⟨(some 23),.mov (.tmp 3),none,0⟩,
 ⟨(some 24),.grow 77 1 8 (.tmp 23),none,0⟩,
 ⟨(some 6),.mov (.tmp 24),none,1⟩])
 (.seq (.seq (.region 0 [] [
 ⟨(some 25),.mov (.tmp 0),none,0⟩,
 ⟨(some 26),.len (.tmp 25),none,0⟩,
 ⟨(some 27),.mov (.cst (.c (.int .i64 0))),none,0⟩])
 (.block 2 (.loop ⟨[8,28,29,30,31,32,33,34],true,[(6,none,1)]⟩
 (.seq (.region 0 [] [
 ⟨(some 28),.bin .lss (.tmp 27) (.tmp 26),none,0⟩])
 (.seq (.cond (.tmp 28)
 .skip
 (.exit 2))
 (.seq (.block 3 (.seq (.region 0 [] [
 ⟨(some 29),.iaddr 1 (.tmp 25) (.tmp 27),none,0⟩,
 ⟨(some 30),.load none (.tmp 29),none,0⟩,
 ⟨(some 8),.mov (.tmp 30),none,0⟩])
 (.region 1 [] [
 ⟨(some 31),.mov (.tmp 6),none,0⟩,
 ⟨(some 32),.mov (.tmp 8),none,0⟩,
 ⟨(some 33),.append 1 8 (.tmp 31) (.tmp 32),none,0⟩,
 ⟨(some 6),.mov (.tmp 33),none,1⟩])))
 (.region 0 [] [
 ⟨(some 34),.bin .add (.tmp 27) (.cst (.c (.int .i64 1))),none,0⟩,
 ⟨(some 27),.mov (.tmp 34),none,0⟩])))))))
 (.seq (.region 0 [] [
 ⟨(some 35),.mov (.tmp 6),none,0⟩,
 ⟨(some 2),.mov (.tmp 35),none,0⟩])
 .ret))))))⟩
def f58 : AFunc:=⟨14,[.tmp 4],false,
 (.seq (.region 0 [] [
 ⟨(some 4),.mov (.cst (.c (.bool false))),none,0⟩])
 (.seq (.region 0 [] [
 ⟨(some 6),.mov (.tmp 0),none,0⟩,
 ⟨(some 7),.load none (.tmp 1),none,0⟩,
 ⟨(some 8),.bin .add (.tmp 7) (.cst (.c (.int .i64 1))),none,0⟩,
 ⟨(some 9),.faddr 0 (.tmp 2),none,0⟩,
 ⟨(some 10),.load none (.tmp 9),none,0⟩,
 ⟨(some 11),.call 59 true [(.tmp 6),(.tmp 8),(.tmp 10)],none,0⟩,
 ⟨(some 5),.mov (.tmp 11),none,0⟩])
 (.seq (.region 0 [] [
 ⟨(some 12),.mov (.tmp 0),none,0⟩,
 ⟨none,.store none (.tmp 1) (.tmp 12),none,0⟩])
 (.seq (.region 0 [] [
 ⟨(some 13),.mov (.tmp 5),none,0⟩,
 ⟨(some 4),.mov (.tmp 13),none,0⟩])
 .ret))))⟩
def f59 : AFunc:=⟨15,[.tmp 6],false,
 (.seq (.region 0 [] [
 ⟨(some 6),.mov (.cst (.c (.bool false))),none,0⟩])
 (.seq (.region 0 [] [
 ⟨(some 7),.mov (.tmp 1),none,0⟩,
 ⟨(some 8),.mov (.tmp 0),none,0⟩,
 ⟨(some 9),.bin .leq (.tmp 7) (.tmp 8),none,0⟩,
 ⟨(some 10),.mov (.tmp 9),none,0⟩,
 ⟨(some 11),.mov (.tmp 0),some (10,true),0⟩,
 ⟨(some 12),.mov (.tmp 2),some (10,true),0⟩,
 ⟨(some 13),.bin .leq (.tmp 11) (.tmp 12),some (10,true),0⟩,
 ⟨(some 14),.pick (.tmp 10) (.tmp 13) (.cst (.c (.bool false))),none,0⟩,
 ⟨(some 6),.mov (.tmp 14),none,0⟩])
 .ret))⟩
def f60 : AFunc:=⟨39,[.tmp 4],false,
 (.seq (.region 1 [] [
 ⟨(some 3),.box (.tmp 1),none,0⟩,
 ⟨(some 4),.mov (.cst (.c (.int .i64 0))),none,1⟩])
 (.seq (.region 0 [(0,4),(1,4),(2,4),(3,4),(7,8),(8,9)] [
 ⟨(some 8),.mov (.tmp 0),none,0⟩,
 ⟨(some 9),.nilchk (.tmp 8),none,0⟩,
 ⟨(some 10),.faddr 9 (.tmp 9),none,0⟩,
 ⟨(some 11),.load none (.tmp 10),none,0⟩,
 ⟨(some 12),.load (some 2) (.tmp 3),none,0⟩,
 ⟨(some 13),.lookup true false [(some .i64),none] (.c (.int .i64 0)) true (.tmp 11) (.tmp 12),none,0⟩,
 ⟨(some 7),.mov (.tmp 13),none,0⟩,
 ⟨(some 14),.extract 0 (.tmp 7),none,0⟩,
 ⟨(some 15),.extract 1 (.tmp 7),none,0⟩,
 ⟨(some 5),.mov (.tmp 14),none,0⟩,
 ⟨(some 6),.mov (.tmp 15),none,0⟩])
 (.seq (.seq (.region 0 [] [
 ⟨(some 16),.mov (.tmp 6),none,0⟩,
 ⟨(some 17),.not (.tmp 16),none,0⟩])
 (.cond (.tmp 17)
 (.seq (.region 0 [] [
 ⟨(some 18),.faddr 0 (.tmp 3),none,0⟩,
 ⟨(some 19),.load none (.tmp 18),none,0⟩,
 ⟨(some 5),.mov (.tmp 19),none,0⟩])
 (.seq (.seq (.region 0 [] [
 ⟨(some 20),.faddr 1 (.tmp 3),none,0⟩,
 ⟨(some 21),.load none (.tmp 20),none,0⟩])
 (.cond (.tmp 21)
 (.region 0 [] [
 ⟨(some 22),.mov (.tmp 5),none,0⟩,
 ⟨(some 23),.mov (.tmp 5),none,0⟩,
 ⟨(some 24),.mov (.tmp 0),none,0⟩,
 ⟨(some 25),.nilchk (.tmp 24),none,0⟩,
 ⟨(some 26),.faddr 0 (.tmp 25),none,0⟩,
 ⟨(some 27),.faddr 7 (.tmp 26),none,0⟩,
 ⟨(some 28),.load none (.tmp 27),none,0⟩,
 ⟨(some 29),.bin .mul (.tmp 23) (.tmp 28),none,0⟩,
 ⟨(some 30),.bin .quo (.tmp 29) (.cst (.c (.int .i64 100))),none,0⟩,
 ⟨(some 31),.bin .sub (.tmp 22) (.tmp 30),none,0⟩,
 ⟨(some 5),.mov (.tmp 31),none,0⟩])
 .skip))
 (.region 0 [(0,4),(1,4),(2,4),(3,4),(0,5),(1,5),(2,5),(3,5),(4,5)] [
 ⟨(some 32),.mov (.tmp 0),none,0⟩,
 ⟨(some 33),.nilchk (.tmp 32),none,0⟩,
 ⟨(some 34),.faddr 9 (.tmp 33),none,0⟩,
 ⟨(some 35),.load none (.tmp 34),none,0⟩,
 ⟨(some 36),.load (some 2) (.tmp 3),none,0⟩,
 ⟨(some 37),.mov (.tmp 5),none,0⟩,
 ⟨none,.mapupd true false [(some .i64),none] (.tmp 35) (.tmp 36) (.tmp 37),none,0⟩])))
 .skip))
 (.seq (.region 0 [] [
 ⟨(some 38),.mov (.tmp 5),none,0⟩,
 ⟨(some 4),.mov (.tmp 38),none,0⟩])
 .ret))))⟩
def f61 : AFunc:=⟨7,[.tmp 3],false,
 (.seq (.region 1 [] [
 ⟨(some 2),.box (.tmp 0),none,0⟩,
 ⟨(some 3),.mov (.cst (.c (.bool false))),none,1⟩])
 (.seq (.region 0 [] [
 ⟨(some 4),.load (some 9) (.tmp 2),none,0⟩,
 ⟨(some 5),.load none (.tmp 1),none,0⟩,
 ⟨(some 6),.call 19 true [(.tmp 4),(.tmp 5)],none,0⟩,
 ⟨(some 3),.mov (.tmp 6),none,0⟩])
 .ret))⟩
def f62 : AFunc:=⟨15,[.cell 4 (some 2)],false,
 (.seq (.region 2 [] [
 ⟨(some 2),.box (.tmp 0),none,0⟩,
 ⟨(some 4),.alloc [(.int .i64 0),(.int .i64 0)],none,1⟩])
 (.seq (.region 1 [(0,2),(1,2),(0,5),(1,5),(2,5),(3,5),(4,5),(0,6),(1,6),(2,6),(3,6),(4,6),(0,7),(1,7),(2,7),(3,7),(4,7),(5,7),(6,7),(0,8),(1,8),(2,8),(3,8),(4,8)] [
 ⟨(some 5),.faddr 0 (.tmp 2),none,0⟩,
 ⟨(some 6),.load none (.tmp 5),none,0⟩,
 ⟨(some 7),.mov (.tmp 1),none,0⟩,
 ⟨(some 8),.bslice 1 2 [(.int .i64 0)] [(0,(.tmp 6)),(1,(.tmp 7))],none,0⟩,
 ⟨(some 9),.call 53 true [(.tmp 8)],none,1⟩,
 ⟨(some 10),.faddr 1 (.tmp 2),none,1⟩,
 ⟨(some 11),.load none (.tmp 10),none,1⟩,
 ⟨(some 12),.mov (.tmp 1),none,1⟩,
 ⟨(some 13),.mm true (.tmp 11) (.tmp 12),none,1⟩,
 ⟨(some 14),.build [(.int .i64 0),(.int .i64 0)] [(0,1,(.tmp 9)),(1,1,(.tmp 13))],none,1⟩,
 ⟨none,.store (some 2) (.tmp 4) (.tmp 14),none,1⟩])
 .ret))⟩
def f63 : AFunc:=⟨9,[.tmp 4],false,
 (.seq (.region 0 [] [
 ⟨(some 4),.mov (.cst (.c (.bool false))),none,0⟩])
 (.seq (.region 0 [] [
 ⟨(some 5),.mov (.tmp 0),none,0⟩,
 ⟨(some 6),.mov (.tmp 1),none,0⟩,
 ⟨(some 7),.call 78 true [(.tmp 5),(.tmp 6)],none,0⟩,
 ⟨(some 8),.bin .geq (.tmp 7) (.cst (.c (.int .i64 0))),none,0⟩,
 ⟨(some 4),.mov (.tmp 8),none,0⟩])
 .ret))⟩
def f64 : AFunc:=⟨9,[.tmp 4],false,
 (.seq (.region 0 [] [
 ⟨(some 4),.mov (.cst (.c (.bool false))),none,0⟩])
 (.seq (.region 0 [] [
 ⟨(some 5),.mov (.tmp 0),none,0⟩,
 ⟨(some 6),.mov (.tmp 1),none,0⟩,
 ⟨(some 7),.call 79 false [(.tmp 5),(.tmp 6)],none,0⟩,
 ⟨(some 8),.bin .geq (.tmp 7) (.cst (.c (.int .i64 0))),none,0⟩,
 ⟨(some 4),.mov (.tmp 8),none,0⟩])
 .ret))⟩
def f65 : AFunc:=⟨8,[.tmp 3],true,
 (.seq (.region 1 [] [
 ⟨(some 2),.box (.tmp 0),none,0⟩,
 ⟨(some 3),.mov (.cst (.c (.bool false))),none,1⟩])
 (.seq (.region 0 [] [
 ⟨(some 4),.load none (.tmp 1),none,0⟩,
 ⟨(some 5),.load (some 3) (.tmp 2),none,0⟩,
 ⟨(some 6),.callv (.tmp 4) [(.tmp 5)],none,0⟩,
 ⟨(some 7),.not (.tmp 6),none,0⟩,
 ⟨(some 3),.mov (.tmp 7),none,0⟩])
 .ret))⟩
def f66 : AFunc:=⟨17,[.tmp 6],false,
 (.seq (.region 1 [] [
 ⟨(some 5),.box (.tmp 0),none,0⟩,
 ⟨(some 6),.mov (.cst (.c (.int .i64 0))),none,1⟩])
 (.seq (.region 0 [(0,2),(1,2),(0,3),(1,3),(2,3),(0,4),(1,4),(2,4),(3,4),(0,5),(1,5),(0,6),(1,6),(2,6),(3,6),(4,6),(5,6),(0,7),(1,7),(0,8),(1,8)] [
 ⟨(some 7),.faddr 0 (.tmp 1),none,0⟩,
 ⟨(some 8),.load none (.tmp 7),none,0⟩,
 ⟨(some 9),.load none (.tmp 2),none,0⟩,
 ⟨(some 10),.load (some 2) (.tmp 5),none,0⟩,
 ⟨(some 11),.load none (.tmp 3),none,0⟩,
 ⟨(some 12),.call 21 false [(.tmp 9),(.tmp 10),(.tmp 11)],none,0⟩,
 ⟨(some 13),.load none (.tmp 4),none,0⟩,
 ⟨(some 14),.iaddr 3 (.tmp 12) (.tmp 13),none,0⟩,
 ⟨(some 15),.load (some 3) (.tmp 14),none,0⟩,
 ⟨(some 16),.callv (.tmp 8) [(.tmp 15)],none,0⟩,
 ⟨(some 6),.mov (.tmp 16),none,0⟩])
 .ret))⟩
def f67 : AFunc:=⟨83,[],false,
 (.seq (.region 1 [] [
 ⟨(some 3),.box (.tmp 0),none,0⟩])
 (.seq (.region 1 [] [
 ⟨(some 4),.alloc [(.int .i64 0),(.int .i64 0),(.int .i64 0),(.int .i64 0),(.int .i64 0),(.int .i64 0),(.int .i64 0),(.int .i64 0),(.int .i64 0),(.int .i64 0)],none,0⟩])
 (.seq (.region 1 [] [
 ⟨(some 5),.alloc [(.bool false)],none,0⟩,
 ⟨none,.store none (.tmp 5) (.cst (.c (.bool false))),none,1⟩])
 (.seq (.region 1 [] [
 ⟨(some 6),.alloc [(.bool false)],none,0⟩,
 ⟨none,.store none (.tmp 6) (.cst (.c (.bool true))),none,1⟩])
 (.seq (.region 0 [] [
 ⟨(some 12),.load none (.tmp 1),none,0⟩,
 ⟨(some 13),.nilchk (.tmp 12),none,0⟩,
 ⟨(some 14),.faddr 0 (.tmp 13),none,0⟩,
 ⟨(some 15),.load (some 9) (.tmp 14),none,0⟩,
 ⟨(some 16),.call 52 true [(.tmp 15)],none,0⟩,
 ⟨(some 17),.call 68 false [(.tmp 16)],none,0⟩])
 (.block 0 (.range (.tmp 17) [18]
 (.region 0 [] [
 ⟨(some 7),.mov (.tmp 18),none,0⟩])
 (.block 1 (.seq (.region 1 [(0,1),(0,2),(0,3),(0,4),(0,5),(0,7),(1,7),(2,7),(3,7),(4,7),(5,7),(6,7),(0,8),(1,8),(2,8),(3,8),(4,8),(5,8),(6,8),(7,8),(0,9),(1,9),(2,9),(3,9),(4,9),(5,9),(6,9),(7,9),(0,10),(1,10),(2,10),(3,10),(4,10),(5,10),(6,10),(7,10),(0,11),(1,11),(2,11),(3,11),(4,11),(5,11),(6,11),(7,11),(0,12),(6,12),(7,12),(0,13),(6,13),(0,15),(1,15),(2,15),(3,15),(4,15),(5,15),(6,15),(7,15),(8,15),(9,15),(10,15),(11,15),(12,15),(13,15),(14,15)] [
 ⟨(some 19),.mov (.tmp 7),none,0⟩,
 ⟨(some 20),.load none (.tmp 1),none,0⟩,
 ⟨(some 21),.nilchk (.tmp 20),none,0⟩,
 ⟨(some 22),.faddr 0 (.tmp 21),none,0⟩,
 ⟨(some 23),.load (some 9) (.tmp 22),none,0⟩,
 ⟨(some 24),.call 46 true [(.tmp 23)],none,0⟩,
 ⟨(some 25),.slice 1 (.tmp 19) none (some (.tmp 24)),none,0⟩,
 ⟨(some 26),.mov (.tmp 7),none,0⟩,
 ⟨(some 27),.load none (.tmp 1),none,0⟩,
 ⟨(some 28),.nilchk (.tmp 27),none,0⟩,
 ⟨(some 29),.faddr 0 (.tmp 28),none,0⟩,
 ⟨(some 30),.load (some 9) (.tmp 29),none,0⟩,
 ⟨(some 31),.call 46 true [(.tmp 30)],none,0⟩,
 ⟨(some 32),.slice 1 (.tmp 26) (some (.tmp 31)) none,none,0⟩,
 ⟨(some 33),.build [.nils,.nils] [(0,1,(.tmp 25)),(1,1,(.tmp 32))],none,0⟩,
 ⟨(some 8),.alloc [.nils,.nils],none,0⟩,
 ⟨none,.store (some 2) (.tmp 8) (.tmp 33),none,1⟩])
 (.seq (.seq (.region 1 [(0,1),(0,2),(1,2),(0,3),(1,3),(0,4),(1,4),(0,5),(1,5),(0,6),(1,6),(0,8),(1,8),(2,8),(3,8),(4,8),(5,8),(6,8),(7,8)] [
 ⟨(some 34),.load none (.tmp 1),none,0⟩,
 ⟨(some 35),.load (some 2) (.tmp 8),none,0⟩,
 ⟨(some 36),.load none (.tmp 1),none,0⟩,
 ⟨(some 37),.nilchk (.tmp 36),none,0⟩,
 ⟨(some 38),.faddr 0 (.tmp 37),none,0⟩,
 ⟨(some 39),.faddr 4 (.tmp 38),none,0⟩,
 ⟨(some 40),.load none (.tmp 39),none,0⟩,
 ⟨(some 41),.call 30 true [(.tmp 34),(.tmp 35),(.tmp 40)],none,0⟩,
 ⟨(some 9),.alloc [(.int .i64 0),(.int .i64 0),(.int .i64 0),(.int .i64 0),(.int .i64 0),(.int .i64 0),(.int .i64 0),(.int .i64 0),(.int .i64 0),(.int .i64 0)],none,0⟩,
 ⟨none,.store (some 10) (.tmp 9) (.tmp 41),none,1⟩])
 (.seq (.region 0 [] [
 ⟨(some 42),.load none (.tmp 6),none,0⟩,
 ⟨(some 43),.mov (.tmp 42),none,0⟩,
 ⟨(some 44),.load (some 10) (.tmp 9),some (43,false),0⟩,
 ⟨(some 45),.load (some 10) (.tmp 4),some (43,false),0⟩,
 ⟨(some 46),.eqA true [(some .i64),(some .i64),(some .i64),(some .i64),(some .i64),(some .i64),(some .i64),(some .i64),(some .i64),(some .i64)] (.tmp 44) (.tmp 45),some (43,false),0⟩,
 ⟨(some 47),.pick (.tmp 43) (.cst (.c (.bool true))) (.tmp 46),none,0⟩])
 (.cond (.tmp 47)
 (.seq (.region 0 [(0,1)] [
 ⟨(some 48),.load (some 10) (.tmp 9),none,0⟩,
 ⟨none,.store none (.tmp 6) (.cst (.c (.bool false))),none,0⟩,
 ⟨none,.store (some 10) (.tmp 4) (.tmp 48),none,0⟩,
 ⟨none,.store none (.tmp 5) (.cst (.c (.bool true))),none,0⟩])
 (.seq (.region 0 [] [
 ⟨(some 49),.load none (.tmp 1),none,0⟩,
 ⟨(some 50),.nilchk (.tmp 49),none,0⟩,
 ⟨(some 51),.faddr 0 (.tmp 50),none,0⟩,
 ⟨(some 52),.faddr 8 (.tmp 51),none,0⟩,
 ⟨(some 53),.load none (.tmp 52),none,0⟩,
 ⟨(some 54),.len (.tmp 53),none,0⟩,
 ⟨(some 55),.mov (.cst (.c (.int .i64 0))),none,0⟩])
 (.block 2 (.loop ⟨[10,11,56,57,58,59,60,61,62,63,64,65,66,67,68,69,70,71,72,73,74,75],false,[]⟩
 (.seq (.region 0 [] [
 ⟨(some 56),.bin .lss (.tmp 55) (.tmp 54),none,0⟩])
 (.seq (.cond (.tmp 56)
 .skip
 (.exit 2))
 (.seq (.block 3 (.seq (.region 1 [] [
 ⟨(some 57),.mov (.tmp 55),none,0⟩,
 ⟨(some 58),.iaddr 3 (.tmp 53) (.tmp 55),none,0⟩,
 ⟨(some 59),.load (some 3) (.tmp 58),none,0⟩,
 ⟨(some 11),.alloc [(.int .i64 0),(.int .i64 0),(.int .i64 0)],none,0⟩,
 ⟨(some 10),.mov (.tmp 57),none,1⟩,
 ⟨none,.store (some 3) (.tmp 11) (.tmp 59),none,1⟩])
 (.region 0 [(2,3),(6,8),(7,8),(6,9),(7,9),(6,10),(7,10),(6,11),(7,11)] [
 ⟨(some 60),.load none (.tmp 5),none,0⟩,
 ⟨(some 61),.mov (.tmp 60),none,0⟩,
 ⟨(some 62),.load none (.tmp 2),some (61,true),0⟩,
 ⟨(some 63),.mov (.tmp 10),some (61,true),0⟩,
 ⟨(some 64),.call 63 true [(.tmp 62),(.tmp 63)],some (61,true),0⟩,
 ⟨(some 65),.mov (.tmp 64),some (61,true),0⟩,
 ⟨(some 66),.faddr 1 (.tmp 11),some (65,false),0⟩,
 ⟨(some 67),.load (some 2) (.tmp 66),some (65,false),0⟩,
 ⟨(some 68),.faddr 0 (.tmp 11),some (65,false),0⟩,
 ⟨(some 69),.load none (.tmp 68),some (65,false),0⟩,
 ⟨(some 70),.iaddrA 10 1 (.tmp 9) (.tmp 69),some (65,false),0⟩,
 ⟨(some 71),.load none (.tmp 70),some (65,false),0⟩,
 ⟨(some 72),.call 36 true [(.tmp 67),(.tmp 71)],some (65,false),0⟩,
 ⟨(some 73),.pick (.tmp 65) (.cst (.c (.bool true))) (.tmp 72),some (61,true),0⟩,
 ⟨(some 74),.pick (.tmp 61) (.tmp 73) (.cst (.c (.bool false))),none,0⟩,
 ⟨none,.store none (.tmp 5) (.tmp 74),none,0⟩])))
 (.region 0 [] [
 ⟨(some 75),.bin .add (.tmp 55) (.cst (.c (.int .i64 1))),none,0⟩,
 ⟨(some 55),.mov (.tmp 75),none,0⟩]))))))))
 .skip)))
 (.seq (.region 0 [] [
 ⟨(some 76),.load none (.tmp 5),none,0⟩,
 ⟨(some 77),.mov (.tmp 76),none,0⟩,
 ⟨(some 78),.load none (.tmp 3),some (77,true),0⟩,
 ⟨(some 79),.load (some 2) (.tmp 8),some (77,true),0⟩,
 ⟨(some 80),.callv (.tmp 78) [(.tmp 79)],some (77,true),0⟩,
 ⟨(some 81),.not (.tmp 80),some (77,true),0⟩,
 ⟨(some 82),.pick (.tmp 77) (.tmp 81) (.cst (.c (.bool false))),none,0⟩])
 (.cond (.tmp 82)
 .ret
 .skip))))))))))))⟩
def f68 : AFunc:=⟨4,[.tmp 2],false,
 (.seq (.region 1 [] [
 ⟨(some 1),.box (.tmp 0),none,0⟩,
 ⟨(some 2),.mov (.cst (.c .nilfn)),none,1⟩])
 (.seq (.region 0 [] [
 ⟨(some 3),.mkfn 80 none [(.tmp 1)],none,0⟩,
 ⟨(some 2),.mov (.tmp 3),none,0⟩])
 .ret))⟩
def f69 : AFunc:=⟨21,[.tmp 4],false,
 (.seq (.region 1 [] [
 ⟨(some 2),.box (.tmp 0),none,0⟩,
 ⟨(some 4),.mov (.cst (.c (.bool false))),none,1⟩])
 (.seq (.region 0 [] [
 ⟨(some 5),.faddr 0 (.tmp 2),none,0⟩,
 ⟨(some 6),.load none (.tmp 5),none,0⟩,
 ⟨(some 7),.bin .leq (.cst (.c (.int .i64 0))) (.tmp 6),none,0⟩,
 ⟨(some 8),.mov (.tmp 7),none,0⟩,
 ⟨(some 9),.faddr 0 (.tmp 2),some (8,true),0⟩,
 ⟨(some 10),.load none (.tmp 9),some (8,true),0⟩,
 ⟨(some 11),.faddr 1 (.tmp 2),some (8,true),0⟩,
 ⟨(some 12),.load none (.tmp 11),some (8,true),0⟩,
 ⟨(some 13),.bin .leq (.tmp 10) (.tmp 12),some (8,true),0⟩,
 ⟨(some 14),.pick (.tmp 8) (.tmp 13) (.cst (.c (.bool false))),none,0⟩,
 ⟨(some 15),.mov (.tmp 14),none,0⟩,
 ⟨(some 16),.faddr 1 (.tmp 2),some (15,true),0⟩,
 ⟨(some 17),.load none (.tmp 16),some (15,true),0⟩,
 ⟨(some 18),.mov (.tmp 1),some (15,true),0⟩,
 ⟨(some 19),.bin .leq (.tmp 17) (.tmp 18),some (15,true),0⟩,
 ⟨(some 20),.pick (.tmp 15) (.tmp 19) (.cst (.c (.bool false))),none,0⟩,
 ⟨(some 4),.mov (.tmp 20),none,0⟩])
 .ret))⟩
def f70 : AFunc:=⟨10,[.tmp 3],false,
 (.seq (.region 0 [] [
 ⟨(some 3),.mov (.cst (.c (.bool false))),none,0⟩])
 (.seq (.region 0 [] [
 ⟨(some 5),.mov (.tmp 0),none,0⟩,
 ⟨(some 6),.load none (.tmp 1),none,0⟩,
 ⟨(some 7),.call 59 true [(.tmp 5),(.cst (.c (.int .i64 0))),(.tmp 6)],none,0⟩,
 ⟨(some 4),.mov (.tmp 7),none,0⟩])
 (.seq (.region 0 [] [
 ⟨(some 8),.mov (.tmp 0),none,0⟩,
 ⟨none,.store none (.tmp 1) (.tmp 8),none,0⟩])
 (.seq (.region 0 [] [
 ⟨(some 9),.mov (.tmp 4),none,0⟩,
 ⟨(some 3),.mov (.tmp 9),none,0⟩])
 .ret))))⟩
def f71 : AFunc:=⟨9,[.tmp 4],false,
 (.seq (.region 0 [] [
 ⟨(some 4),.mov (.cst (.c (.bool false))),none,0⟩])
 (.seq (.region 0 [] [
 ⟨(some 5),.mov (.tmp 0),none,0⟩,
 ⟨(some 6),.mov (.tmp 1),none,0⟩,
 ⟨(some 7),.call 82 false [(.tmp 5),(.tmp 6)],none,0⟩,
 ⟨(some 8),.bin .geq (.tmp 7) (.cst (.c (.int .i64 0))),none,0⟩,
 ⟨(some 4),.mov (.tmp 8),none,0⟩])
 .ret))⟩
def f72 : AFunc:=⟨8,[.tmp 3],true,
 (.seq (.region 1 [] [
 ⟨(some 2),.box (.tmp 0),none,0⟩,
 ⟨(some 3),.mov (.cst (.c (.bool false))),none,1⟩])
 (.seq (.region 0 [] [
 ⟨(some 4),.load none (.tmp 1),none,0⟩,
 ⟨(some 5),.load (some 2) (.tmp 2),none,0⟩,
 ⟨(some 6),.callv (.tmp 4) [(.tmp 5)],none,0⟩,
 ⟨(some 7),.not (.tmp 6),none,0⟩,
 ⟨(some 3),.mov (.tmp 7),none,0⟩])
 .ret))⟩
def f73 : AFunc:=⟨9,[.tmp 4],false,
 (.seq (.region 0 [] [
 ⟨(some 4),.mov (.cst (.c (.bool false))),none,0⟩])
 (.seq (.region 0 [] [
 ⟨(some 5),.mov (.tmp 0),none,0⟩,
 ⟨(some 6),.mov (.tmp 1),none,0⟩,
 ⟨(some 7),.call 83 false [(.tmp 5),(.tmp 6)],none,0⟩,
 ⟨(some 8),.bin .geq (.tmp 7) (.cst (.c (.int .i64 0))),none,0⟩,
 ⟨(some 4),.mov (.tmp 8),none,0⟩])
 .ret))⟩
def f74 : AFunc:=⟨8,[.tmp 3],false,
 (.seq (.region 0 [] [
 ⟨(some 3),.mov (.cst (.c (.bool false))),none,0⟩])
 (.seq (.region 0 [] [
 ⟨(some 4),.load none (.tmp 1),none,0⟩,
 ⟨(some 5),.mov (.tmp 0),none,0⟩,
 ⟨(some 6),.callv (.tmp 4) [(.tmp 5)],none,0⟩,
 ⟨(some 7),.not (.tmp 6),none,0⟩,
 ⟨(some 3),.mov (.tmp 7),none,0⟩])
 .ret))⟩
def f75 : AFunc:=⟨8,[.tmp 2],false,
 (.seq (.region 0 [] [
 ⟨(some 2),.mov (.cst (.c .nils)),none,0⟩])
 (.seq (.seq (.region 0 [] [
 ⟨(some 3),.mov (.tmp 0),none,0⟩,
 ⟨(some 4),.isnil false (.tmp 3),none,0⟩])
 (.cond (.tmp 4)
 (.seq (.region 0 [] [
 ⟨(some 2),.mov (.cst (.c .nils)),none,0⟩])
 .ret)
 .skip))
 (.seq (.region 2 [] [
 ⟨(some 5),.bslice 2 0 [(.int .i64 0),(.int .i64 0)] [],none,0⟩,
 ⟨(some 6),.mov (.tmp 0),none,1⟩,
 ⟨(some 7),.append 2 16 (.tmp 5) (.tmp 6),none,1⟩,
 ⟨(some 2),.mov (.tmp 7),none,2⟩])
 .ret)))⟩
def f76 : AFunc:=⟨25,[.tmp 2],false,
 (.seq (.region 0 [] [
 ⟨(some 2),.mov (.cst (.c (.int .i64 0))),none,0⟩])
 (.seq (.seq (.region 0 [] [
 ⟨(some 5),.mov (.tmp 0),none,0⟩,
 ⟨(some 6),.len (.tmp 5),none,0⟩,
 ⟨(some 7),.bin .lss (.tmp 6) (.cst (.c (.int .i64 1))),none,0⟩])
 (.cond (.tmp 7)
 (.region 0 [] [
 ⟨(some 8),.pick (.cst (.c .any)) (.cst (.c .any)) (.cst (.c .any)),none,0⟩,
 ⟨none,.pick (.cst (.c .any)) (.cst (.c .any)) (.cst (.c .any)),none,0⟩])
 .skip))
 (.seq (.region 0 [] [
 ⟨(some 9),.mov (.tmp 0),none,0⟩,
 ⟨(some 10),.iaddr 1 (.tmp 9) (.cst (.c (.int .i64 0))),none,0⟩,
 ⟨(some 11),.load none (.tmp 10),none,0⟩,
 ⟨(some 3),.mov (.tmp 11),none,0⟩])
 (.seq (.seq (.region 0 [] [
 ⟨(some 4),.mov (.cst (.c (.int .i64 1))),none,0⟩])
 (.block 0 (.loop ⟨[12,13,14,15,16,17,18,19,20,21,22,23],false,[]⟩
 (.seq (.seq (.region 0 [] [
 ⟨(some 12),.mov (.tmp 4),none,0⟩,
 ⟨(some 13),.mov (.tmp 0),none,0⟩,
 ⟨(some 14),.len (.tmp 13),none,0⟩,
 ⟨(some 15),.bin .lss (.tmp 12) (.tmp 14),none,0⟩])
 (.cond (.tmp 15)
 .skip
 (.exit 0)))
 (.seq (.block 1 (.region 0 [] [
 ⟨(some 18),.mov (.tmp 3),none,0⟩,
 ⟨(some 19),.mov (.tmp 0),none,0⟩,
 ⟨(some 20),.mov (.tmp 4),none,0⟩,
 ⟨(some 21),.iaddr 1 (.tmp 19) (.tmp 20),none,0⟩,
 ⟨(some 22),.load none (.tmp 21),none,0⟩,
 ⟨(some 23),.mm false (.tmp 18) (.tmp 22),none,0⟩,
 ⟨(some 3),.mov (.tmp 23),none,0⟩]))
 (.region 0 [] [
 ⟨(some 16),.mov (.tmp 4),none,0⟩,
 ⟨(some 17),.bin .add (.tmp 16) (.cst (.c (.int .i64 1))),none,0⟩,
 ⟨(some 4),.mov (.tmp 17),none,0⟩]))))))
 (.seq (.region 0 [] [
 ⟨(some 24),.mov (.tmp 3),none,0⟩,
 ⟨(some 2),.mov (.tmp 24),none,0⟩])
 .ret)))))⟩
def f78 : AFunc:=⟨19,[.tmp 4],false,
 (.seq (.region 0 [] [
 ⟨(some 4),.mov (.cst (.c (.int .i64 0))),none,0⟩])
 (.seq (.seq (.region 0 [] [
 ⟨(some 6),.mov (.tmp 0),none,0⟩,
 ⟨(some 7),.len (.tmp 6),none,0⟩,
 ⟨(some 8),.mov (.cst (.c (.int .i64 0))),none,0⟩])
 (.block 0 (.loop ⟨[4,5,9,10,11,12,13,14,15,16,17,18],false,[]⟩
 (.seq (.region 0 [] [
 ⟨(some 9),.bin .lss (.tmp 8) (.tmp 7),none,0⟩])
 (.seq (.cond (.tmp 9)
 .skip
 (.exit 0))
 (.seq (.block 1 (.seq (.region 0 [] [
 ⟨(some 10),.mov (.tmp 8),none,0⟩,
 ⟨(some 5),.mov (.tmp 10),none,0⟩])
 (.seq (.region 0 [] [
 ⟨(some 11),.mov (.tmp 1),none,0⟩,
 ⟨(some 12),.mov (.tmp 0),none,0⟩,
 ⟨(some 13),.mov (.tmp 5),none,0⟩,
 ⟨(some 14),.iaddr 1 (.tmp 12) (.tmp 13),none,0⟩,
 ⟨(some 15),.load none (.tmp 14),none,0⟩,
 ⟨(some 16),.bin .eql (.tmp 11) (.tmp 15),none,0⟩])
 (.cond (.tmp 16)
 (.seq (.region 0 [] [
 ⟨(some 17),.mov (.tmp 5),none,0⟩,
 ⟨(some 4),.mov (.tmp 17),none,0⟩])
 .ret)
 .skip))))
 (.region 0 [] [
 ⟨(some 18),.bin .add (.tmp 8) (.cst (.c (.int .i64 1))),none,0⟩,
 ⟨(some 8),.mov (.tmp 18),none,0⟩])))))))
 (.seq (.region 0 [] [
 ⟨(some 4),.mov (.cst (.c (.int .i64 (-1)))),none,0⟩])
 .ret)))⟩
def f79 : AFunc:=⟨19,[.tmp 4],false,
 (.seq (.region 0 [] [
 ⟨(some 4),.mov (.cst (.c (.int .i64 0))),none,0⟩])
 (.seq (.seq (.region 0 [] [
 ⟨(some 6),.mov (.tmp 0),none,0⟩,
 ⟨(some 7),.len (.tmp 6),none,0⟩,
 ⟨(some 8),.mov (.cst (.c (.int .i64 0))),none,0⟩])
 (.block 0 (.loop ⟨[4,5,9,10,11,12,13,14,15,16,17,18],false,[]⟩
 (.seq (.region 0 [] [
 ⟨(some 9),.bin .lss (.tmp 8) (.tmp 7),none,0⟩])
 (.seq (.cond (.tmp 9)
 .skip
 (.exit 0))
 (.seq (.block 1 (.seq (.region 0 [] [
 ⟨(some 10),.mov (.tmp 8),none,0⟩,
 ⟨(some 5),.mov (.tmp 10),none,0⟩])
 (.seq (.region 0 [] [
 ⟨(some 11),.mov (.tmp 1),none,0⟩,
 ⟨(some 12),.mov (.tmp 0),none,0⟩,
 ⟨(some 13),.mov (.tmp 5),none,0⟩,
 ⟨(some 14),.iaddr 3 (.tmp 12) (.tmp 13),none,0⟩,
 ⟨(some 15),.load (some 3) (.tmp 14),none,0⟩,
 ⟨(some 16),.callv (.tmp 11) [(.tmp 15)],none,0⟩])
 (.cond (.tmp 16)
 (.seq (.region 0 [] [
 ⟨(some 17),.mov (.tmp 5),none,0⟩,
 ⟨(some 4),.mov (.tmp 17),none,0⟩])
 .ret)
 .skip))))
 (.region 0 [] [
 ⟨(some 18),.bin .add (.tmp 8) (.cst (.c (.int .i64 1))),none,0⟩,
 ⟨(some 8),.mov (.tmp 18),none,0⟩])))))))
 (.seq (.region 0 [] [
 ⟨(some 4),.mov (.cst (.c (.int .i64 (-1)))),none,0⟩])
 .ret)))⟩
def f80 : AFunc:=⟨11,[],false,
 (.seq (.region 1 [] [
 ⟨(some 2),.box (.tmp 0),none,0⟩])
 (.seq (.region 2 [] [
 ⟨(some 5),.load none (.tmp 1),none,0⟩,
 ⟨(some 6),.len (.tmp 5),none,0⟩,
 ⟨(some 7),.mkslice 1 8 [(.int .i64 0)] (.tmp 6),none,0⟩,
 ⟨(some 3),.alloc [.nils],none,1⟩,
 ⟨none,.store none (.tmp 3) (.tmp 7),none,2⟩])
 (.seq (.region 1 [] [
 ⟨(some 4),.alloc [.nilfn],none,0⟩])
 (.seq (.region 0 [] [
 ⟨(some 8),.mkfn 81 none [(.tmp 1),(.tmp 2),(.tmp 3),(.tmp 4)],none,0⟩,
 ⟨none,.store none (.tmp 4) (.tmp 8),none,0⟩])
 (.region 0 [] [
 ⟨(some 9),.load none (.tmp 4),none,0⟩,
 ⟨(some 10),.callv (.tmp 9) [(.cst (.c (.int .i64 0)))],none,0⟩])))))⟩
def f81 : AFunc:=⟨39,[.tmp 6],false,
 (.seq (.region 0 [] [
 ⟨(some 6),.mov (.cst (.c (.bool false))),none,0⟩])
 (.seq (.seq (.region 0 [] [
 ⟨(some 8),.mov (.tmp 0),none,0⟩,
 ⟨(some 9),.load none (.tmp 1),none,0⟩,
 ⟨(some 10),.len (.tmp 9),none,0⟩,
 ⟨(some 11),.bin .eql (.tmp 8) (.tmp 10),none,0⟩])
 (.cond (.tmp 11)
 (.seq (.region 0 [] [
 ⟨(some 12),.load none (.tmp 2),none,0⟩,
 ⟨(some 13),.load none (.tmp 3),none,0⟩,
 ⟨(some 14),.callv (.tmp 12) [(.tmp 13)],none,0⟩,
 ⟨(some 6),.mov (.tmp 14),none,0⟩])
 .ret)
 .skip))
 (.seq (.seq (.region 0 [] [
 ⟨(some 15),.load none (.tmp 1),none,0⟩,
 ⟨(some 16),.mov (.tmp 0),none,0⟩,
 ⟨(some 17),.iaddr 2 (.tmp 15) (.tmp 16),none,0⟩,
 ⟨(some 18),.load (some 2) (.tmp 17),none,0⟩,
 ⟨(some 19),.call 54 true [(.tmp 18)],none,0⟩,
 ⟨(some 20),.mov (.cst (.c (.int .i64 0))),none,0⟩])
 (.block 0 (.loop ⟨[6,7,21,22,23,24,25,26,27,28,29,30,31,32,33,34,35,36,37,38],false,[]⟩
 (.seq (.region 0 [] [
 ⟨(some 21),.bin .lss (.tmp 20) (.tmp 19),none,0⟩])
 (.seq (.cond (.tmp 21)
 .skip
 (.exit 0))
 (.seq (.block 1 (.seq (.region 0 [] [
 ⟨(some 22),.mov (.tmp 20),none,0⟩,
 ⟨(some 7),.mov (.tmp 22),none,0⟩])
 (.seq (.region 0 [(0,1),(0,2),(1,2),(0,3),(1,3),(2,3),(0,4),(1,4),(0,5),(1,5),(0,6),(1,6),(0,7),(1,7),(2,7),(3,7),(4,7),(5,7),(6,7),(0,8),(1,8)] [
 ⟨(some 23),.load none (.tmp 3),none,0⟩,
 ⟨(some 24),.mov (.tmp 0),none,0⟩,
 ⟨(some 25),.load none (.tmp 1),none,0⟩,
 ⟨(some 26),.mov (.tmp 0),none,0⟩,
 ⟨(some 27),.iaddr 2 (.tmp 25) (.tmp 26),none,0⟩,
 ⟨(some 28),.faddr 0 (.tmp 27),none,0⟩,
 ⟨(some 29),.load none (.tmp 28),none,0⟩,
 ⟨(some 30),.mov (.tmp 7),none,0⟩,
 ⟨(some 31),.bin .add (.tmp 29) (.tmp 30),none,0⟩,
 ⟨(some 32),.iaddr 1 (.tmp 23) (.tmp 24),none,0⟩,
 ⟨none,.store none (.tmp 32) (.tmp 31),none,0⟩])
 (.seq (.region 0 [] [
 ⟨(some 33),.load none (.tmp 4),none,0⟩,
 ⟨(some 34),.mov (.tmp 0),none,0⟩,
 ⟨(some 35),.bin .add (.tmp 34) (.cst (.c (.int .i64 1))),none,0⟩,
 ⟨(some 36),.callv (.tmp 33) [(.tmp 35)],none,0⟩,
 ⟨(some 37),.not (.tmp 36),none,0⟩])
 (.cond (.tmp 37)
 (.seq (.region 0 [] [
 ⟨(some 6),.mov (.cst (.c (.bool false))),none,0⟩])
 .ret)
 .skip)))))
 (.region 0 [] [
 ⟨(some 38),.bin .add (.tmp 20) (.cst (.c (.int .i64 1))),none,0⟩,
 ⟨(some 20),.mov (.tmp 38),none,0⟩])))))))
 (.seq (.region 0 [] [
 ⟨(some 6),.mov (.cst (.c (.bool true))),none,0⟩])
 .ret))))⟩
def f82 : AFunc:=⟨19,[.tmp 4],false,
 (.seq (.region 0 [] [
 ⟨(some 4),.mov (.cst (.c (.int .i64 0))),none,0⟩])
 (.seq (.seq (.region 0 [] [
 ⟨(some 6),.mov (.tmp 0),none,0⟩,
 ⟨(some 7),.len (.tmp 6),none,0⟩,
 ⟨(some 8),.mov (.cst (.c (.int .i64 0))),none,0⟩])
 (.block 0 (.loop ⟨[4,5,9,10,11,12,13,14,15,16,17,18],false,[]⟩
 (.seq (.region 0 [] [
 ⟨(some 9),.bin .lss (.tmp 8) (.tmp 7),none,0⟩])
 (.seq (.cond (.tmp 9)
 .skip
 (.exit 0))
 (.seq (.block 1 (.seq (.region 0 [] [
 ⟨(some 10),.mov (.tmp 8),none,0⟩,
 ⟨(some 5),.mov (.tmp 10),none,0⟩])
 (.seq (.region 0 [] [
 ⟨(some 11),.mov (.tmp 1),none,0⟩,
 ⟨(some 12),.mov (.tmp 0),none,0⟩,
 ⟨(some 13),.mov (.tmp 5),none,0⟩,
 ⟨(some 14),.iaddr 2 (.tmp 12) (.tmp 13),none,0⟩,
 ⟨(some 15),.load (some 2) (.tmp 14),none,0⟩,
 ⟨(some 16),.callv (.tmp 11) [(.tmp 15)],none,0⟩])
 (.cond (.tmp 16)
 (.seq (.region 0 [] [
 ⟨(some 17),.mov (.tmp 5),none,0⟩,
 ⟨(some 4),.mov (.tmp 17),none,0⟩])
 .ret)
 .skip))))
 (.region 0 [] [
 ⟨(some 18),.bin .add (.tmp 8) (.cst (.c (.int .i64 1))),none,0⟩,
 ⟨(some 8),.mov (.tmp 18),none,0⟩])))))))
 (.seq (.region 0 [] [
 ⟨(some 4),.mov (.cst (.c (.int .i64 (-1)))),none,0⟩])
 .ret)))⟩
def f83 : AFunc:=⟨19,[.tmp 4],false,
 (.seq (.region 0 [] [
 ⟨(some 4),.mov (.cst (.c (.int .i64 0))),none,0⟩])
 (.seq (.seq (.region 0 [] [
 ⟨(some 6),.mov (.tmp 0),none,0⟩,
 ⟨(some 7),.len (.tmp 6),none,0⟩,
 ⟨(some 8),.mov (.cst (.c (.int .i64 0))),none,0⟩])
 (.block 0 (.loop ⟨[4,5,9,10,11,12,13,14,15,16,17,18],false,[]⟩
 (.seq (.region 0 [] [
 ⟨(some 9),.bin .lss (.tmp 8) (.tmp 7),none,0⟩])
 (.seq (.cond (.tmp 9)
 .skip
 (.exit 0))
 (.seq (.block 1 (.seq (.region 0 [] [
 ⟨(some 10),.mov (.tmp 8),none,0⟩,
 ⟨(some 5),.mov (.tmp 10),none,0⟩])
 (.seq (.region 0 [] [
 ⟨(some 11),.mov (.tmp 1),none,0⟩,
 ⟨(some 12),.mov (.tmp 0),none,0⟩,
 ⟨(some 13),.mov (.tmp 5),none,0⟩,
 ⟨(some 14),.iaddr 1 (.tmp 12) (.tmp 13),none,0⟩,
 ⟨(some 15),.load none (.tmp 14),none,0⟩,
 ⟨(some 16),.callv (.tmp 11) [(.tmp 15)],none,0⟩])
 (.cond (.tmp 16)
 (.seq (.region 0 [] [
 ⟨(some 17),.mov (.tmp 5),none,0⟩,
 ⟨(some 4),.mov (.tmp 17),none,0⟩])
 .ret)
 .skip))))
 (.region 0 [] [
 ⟨(some 18),.bin .add (.tmp 8) (.cst (.c (.int .i64 1))),none,0⟩,
 ⟨(some 8),.mov (.tmp 18),none,0⟩])))))))
 (.seq (.region 0 [] [
 ⟨(some 4),.mov (.cst (.c (.int .i64 (-1)))),none,0⟩])
 .ret)))⟩
def tabL : List (Option AFunc):=[none,none,none,some f3,some f4,some f5,some f6,some f7,some f8,some f9,some f10,some f11,some f12,some f13,some f14,some f15,some f16,some f17,some f18,some f19,some f20,some f21,some f22,some f23,some f24,some f25,some f26,some f27,some f28,some f29,some f30,some f31,some f32,some f33,some f34,some f35,some f36,some f37,some f38,some f39,some f40,some f41,some f42,some f43,some f44,some f45,some f46,some f47,some f48,some f49,some f50,some f51,some f52,some f53,some f54,some f55,some f56,some f57,some f58,some f59,some f60,some f61,some f62,some f63,some f64,some f65,some f66,some f67,some f68,some f69,some f70,some f71,some f72,some f73,some f74,some f75,some f76,none,some f78,some f79,some f80,some f81,some f82,some f83,none,none,none,none,none,none,none,none,none,none,none,none,none,none,none,none,none]
def frzL : List (Nat × Nat × Nat):=[(3,36,1),(3,159,14)]
def tab (k:Nat):Option AFunc:=(nth tabL k).join
def annL : List (Nat × Nat × Ann):=[(9,0,⟨[8,22,23,24,25,26,27],false,[]⟩),(13,0,⟨[9,22,23,24,25,26,27,28,29,30,31,32,33,34,35,36,37,38,39,40,41,42,43,44,45],false,[(8,none,5)]⟩),(15,0,⟨[2,3,6,18,19,20,21,22,23,24,25,26,27,28,29,30,31,32,33],false,[]⟩),(16,1,⟨[6,80,81,82,83,84,85,86,87,88,89],true,[]⟩),(18,0,⟨[4,6,7,32,33,34,35,36,37,38,39,40,41,42,43],true,[]⟩),(21,0,⟨[8,9,10,11,19,20,21,22,23,24,25,26,27,28,29,30,31,32,33,34,35,36,37,38,39,40,41,42,43,44,45,46,47,48,49,50,51],false,[(6,none,3)]⟩),(25,0,⟨[8,15,16,17,18,19,20,21,22],false,[]⟩),(30,0,⟨[8,9,14,15,16,17,18,19,20,21,22,23,24,25,26,27],false,[]⟩),(31,0,⟨[10,19,20,21,22,23,24,25,26,27,28,29,30,31,32,33,34,35,36,37,38],false,[]⟩),(42,0,⟨[29,30,31,32,33,34,35,36,37,38,39,40,41,42,43],false,[]⟩),(43,0,⟨[9,19,20,21,22,23,24,25,26,27,28,29],false,[]⟩),(52,0,⟨[5,6,14,15,16,17,18,19,20,21,22,23,24,25,26,27],true,[(3,none,2)]⟩),(56,0,⟨[4,11,12,13,14,15,16,17,18,19,20,21,22,23,24,25],false,[]⟩),(57,0,⟨[5,12,13,14,15,16,17,18,19,20,21,22],false,[]⟩),(57,2,⟨[8,28,29,30,31,32,33,34],true,[(6,none,1)]⟩),(67,2,⟨[10,11,56,57,58,59,60,61,62,63,64,65,66,67,68,69,70,71,72,73,74,75],false,[]⟩),(76,0,⟨[12,13,14,15,16,17,18,19,20,21,22,23],false,[]⟩),(78,0,⟨[4,5,9,10,11,12,13,14,15,16,17,18],false,[]⟩),(79,0,⟨[4,5,9,10,11,12,13,14,15,16,17,18],false,[]⟩),(81,0,⟨[6,7,21,22,23,24,25,26,27,28,29,30,31,32,33,34,35,36,37,38],false,[]⟩),(82,0,⟨[4,5,9,10,11,12,13,14,15,16,17,18],false,[]⟩),(83,0,⟨[4,5,9,10,11,12,13,14,15,16,17,18],false,[]⟩)]
def dropL : List Nat:=[44,49,65,72]
def cloneL : List (Nat × Nat):=[(33,3),(75,36)]
def growL : List (Nat × Nat):=[(77,3)]
def pureL : List Nat:=[0,1,2,3,4,5,6,7,8,9,10,11,12,13,14,15,16,17,18,19,28,30,36,37,39,40,44,45,46,47,49,51,52,53,54,55,56,57,59,62,63,69,76,78,85]
def pinL : List (Nat × Nat × Nat × Bool):=[(11,0,20,true),(99999,0,99999,false),(99999,0,99999,false),(3,28,4,false),(3,147,4,false),(3,198,6,false),(3,199,6,false),(3,200,6,false),(3,203,6,false),(3,205,6,false)]
end Am.Cr
