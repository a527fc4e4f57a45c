/-
  A part of the proof: the texts TmTab of this seat, joined.
-/
import Derived.Test.YtaegabccdfhfgaaGreatTabA
namespace Am.Tm
open Go Am
set_option maxRecDepth 100000
def f41 : AFunc:=⟨67,[.cell 2 (some 10)],false,
 (.seq (.region 2 [] [
 ⟨(some 1),.box (.tmp 0),none,0⟩,
 ⟨(some 2),.alloc [(.int .i64 0),(.int .i64 0),(.int .i64 0),(.int .i64 0),(.int .i64 0),(.int .i64 0),(.int .i64 0),.nils,.nils,.nils],none,1⟩])
 (.seq (.region 1 [(0,2),(1,2),(0,3),(1,3),(0,4),(1,4),(2,4),(3,4),(0,5),(1,5),(2,5),(3,5),(0,6),(1,6),(2,6),(3,6),(4,6),(5,6),(0,7),(1,7),(2,7),(3,7),(4,7),(5,7),(0,8),(1,8),(2,8),(3,8),(4,8),(5,8),(6,8),(7,8),(0,9),(1,9),(2,9),(3,9),(4,9),(5,9),(6,9),(7,9),(0,10),(1,10),(2,10),(3,10),(4,10),(5,10),(6,10),(7,10),(8,10),(9,10),(0,11),(1,11),(2,11),(3,11),(4,11),(5,11),(6,11),(7,11),(8,11),(9,11),(0,12),(1,12),(2,12),(3,12),(4,12),(5,12),(6,12),(7,12),(8,12),(9,12),(0,13),(1,13),(2,13),(3,13),(4,13),(5,13),(6,13),(7,13),(8,13),(9,13),(10,13),(11,13),(12,13),(0,14),(1,14),(2,14),(3,14),(4,14),(5,14),(6,14),(7,14),(8,14),(9,14),(10,14),(11,14),(12,14),(0,15),(1,15),(2,15),(3,15),(4,15),(5,15),(6,15),(7,15),(8,15),(9,15),(0,17),(1,17),(2,17),(3,17),(4,17),(5,17),(6,17),(7,17),(8,17),(9,17),(10,17),(11,17),(12,17),(13,17),(14,17),(15,17),(16,17)] [
 ⟨(some 7),.faddr 0 (.tmp 1),none,0⟩,
 ⟨(some 8),.load none (.tmp 7),none,0⟩,
 ⟨(some 9),.faddr 1 (.tmp 1),none,0⟩,
 ⟨(some 10),.load none (.tmp 9),none,0⟩,
 ⟨(some 11),.faddr 2 (.tmp 1),none,0⟩,
 ⟨(some 12),.load none (.tmp 11),none,0⟩,
 ⟨(some 13),.faddr 3 (.tmp 1),none,0⟩,
 ⟨(some 14),.load none (.tmp 13),none,0⟩,
 ⟨(some 15),.faddr 4 (.tmp 1),none,0⟩,
 ⟨(some 16),.load none (.tmp 15),none,0⟩,
 ⟨(some 17),.faddr 5 (.tmp 1),none,0⟩,
 ⟨(some 18),.load (some 2) (.tmp 17),none,0⟩,
 ⟨(some 19),.call 77 true [(.tmp 18)],none,0⟩,
 ⟨(some 20),.faddr 8 (.tmp 1),none,0⟩,
 ⟨(some 21),.load none (.tmp 20),none,0⟩,
 ⟨(some 22),.call 78 true [(.tmp 21)],none,0⟩,
 ⟨(some 23),.build [(.int .i64 0),(.int .i64 0),(.int .i64 0),(.int .i64 0),(.int .i64 0),(.int .i64 0),(.int .i64 0),.nils,.nils,.nils] [(0,1,(.tmp 8)),(1,1,(.tmp 10)),(2,1,(.tmp 12)),(3,1,(.tmp 14)),(4,1,(.tmp 16)),(5,2,(.tmp 19)),(8,1,(.tmp 22))],none,0⟩,
 ⟨(some 3),.alloc [(.int .i64 0),(.int .i64 0),(.int .i64 0),(.int .i64 0),(.int .i64 0),(.int .i64 0),(.int .i64 0),.nils,.nils,.nils],none,0⟩,
 ⟨none,.store (some 10) (.tmp 3) (.tmp 23),none,1⟩])
 (.seq (.seq (.region 0 [] [
 ⟨(some 4),.mov (.cst (.c (.int .i64 0))),none,0⟩])
 (.block 0 (.loop ⟨[24,25,26,27,28,29,30,31,32,33,34,35,36,37,38,39,40,41],true,[(3,(some 7),2)]⟩
 (.seq (.seq (.region 0 [] [
 ⟨(some 24),.mov (.tmp 4),none,0⟩,
 ⟨(some 25),.faddr 7 (.tmp 1),none,0⟩,
 ⟨(some 26),.load none (.tmp 25),none,0⟩,
 ⟨(some 27),.len (.tmp 26),none,0⟩,
 ⟨(some 28),.bin .lss (.tmp 24) (.tmp 27),none,0⟩])
 (.cond (.tmp 28)
 .skip
 (.exit 0)))
 (.seq (.block 1 (.region 2 [(0,2),(1,2),(0,3),(1,3),(0,4),(1,4),(2,4),(3,4),(0,5),(1,5),(0,6),(1,6),(0,7),(1,7),(0,8),(1,8)] [
 ⟨(some 31),.faddr 7 (.tmp 3),none,0⟩,
 ⟨(some 32),.load none (.tmp 31),none,0⟩,
 ⟨(some 33),.faddr 7 (.tmp 1),none,0⟩,
 ⟨(some 34),.load none (.tmp 33),none,0⟩,
 ⟨(some 35),.mov (.tmp 4),none,0⟩,
 ⟨(some 36),.iaddr 2 (.tmp 34) (.tmp 35),none,0⟩,
 ⟨(some 37),.load (some 2) (.tmp 36),none,0⟩,
 ⟨(some 38),.call 77 true [(.tmp 37)],none,0⟩,
 ⟨(some 39),.bslice 2 1 [(.int .i64 0),(.int .i64 0)] [(0,(.tmp 38))],none,0⟩,
 ⟨(some 40),.append 2 16 (.tmp 32) (.tmp 39),none,1⟩,
 ⟨(some 41),.faddr 7 (.tmp 3),none,2⟩,
 ⟨none,.store none (.tmp 41) (.tmp 40),none,2⟩]))
 (.region 0 [] [
 ⟨(some 29),.mov (.tmp 4),none,0⟩,
 ⟨(some 30),.bin .add (.tmp 29) (.cst (.c (.int .i64 1))),none,0⟩,
 ⟨(some 4),.mov (.tmp 30),none,0⟩]))))))
 (.seq (.seq (.region 0 [] [
 ⟨(some 5),.mov (.cst (.c (.int .i64 0))),none,0⟩])
 (.block 2 (.loop ⟨[6,42,43,44,45,46,47,48,49,50,51,52,53,54,55,56,57,58,59,60,61,62,63,64,65],true,[(3,(some 9),3)]⟩
 (.seq (.seq (.region 0 [] [
 ⟨(some 42),.mov (.tmp 5),none,0⟩,
 ⟨(some 43),.faddr 9 (.tmp 1),none,0⟩,
 ⟨(some 44),.load none (.tmp 43),none,0⟩,
 ⟨(some 45),.len (.tmp 44),none,0⟩,
 ⟨(some 46),.bin .lss (.tmp 42) (.tmp 45),none,0⟩])
 (.cond (.tmp 46)
 .skip
 (.exit 2)))
 (.seq (.block 3 (.seq (.region 1 [] [
 ⟨(some 49),.faddr 9 (.tmp 1),none,0⟩,
 ⟨(some 50),.load none (.tmp 49),none,0⟩,
 ⟨(some 51),.mov (.tmp 5),none,0⟩,
 ⟨(some 52),.iaddr 3 (.tmp 50) (.tmp 51),none,0⟩,
 ⟨(some 53),.load (some 3) (.tmp 52),none,0⟩,
 ⟨(some 6),.alloc [(.int .i64 0),(.int .i64 0),(.int .i64 0)],none,0⟩,
 ⟨none,.store (some 3) (.tmp 6) (.tmp 53),none,1⟩])
 (.region 2 [] [
 ⟨(some 54),.faddr 9 (.tmp 3),none,0⟩,
 ⟨(some 55),.load none (.tmp 54),none,0⟩,
 ⟨(some 56),.faddr 0 (.tmp 6),none,0⟩,
 ⟨(some 57),.load none (.tmp 56),none,0⟩,
 ⟨(some 58),.faddr 1 (.tmp 6),none,0⟩,
 ⟨(some 59),.load none (.tmp 58),none,0⟩,
 ⟨(some 60),.faddr 2 (.tmp 6),none,0⟩,
 ⟨(some 61),.load none (.tmp 60),none,0⟩,
 ⟨(some 62),.build [(.int .i64 0),(.int .i64 0),(.int .i64 0)] [(0,1,(.tmp 57)),(1,1,(.tmp 59)),(2,1,(.tmp 61))],none,0⟩,
 ⟨(some 63),.bslice 3 1 [(.int .i64 0),(.int .i64 0),(.int .i64 0)] [(0,(.tmp 62))],none,0⟩,
 ⟨(some 64),.append 3 24 (.tmp 55) (.tmp 63),none,1⟩,
 ⟨(some 65),.faddr 9 (.tmp 3),none,2⟩,
 ⟨none,.store none (.tmp 65) (.tmp 64),none,2⟩])))
 (.region 0 [] [
 ⟨(some 47),.mov (.tmp 5),none,0⟩,
 ⟨(some 48),.bin .add (.tmp 47) (.cst (.c (.int .i64 1))),none,0⟩,
 ⟨(some 5),.mov (.tmp 48),none,0⟩]))))))
 (.seq (.region 0 [] [
 ⟨(some 66),.load (some 10) (.tmp 3),none,0⟩,
 ⟨none,.store (some 10) (.tmp 2) (.tmp 66),none,0⟩])
 .ret)))))⟩
def f42 : AFunc:=⟨9,[.cell 2 (some 2)],false,
 (.seq (.region 2 [] [
 ⟨(some 1),.box (.tmp 0),none,0⟩,
 ⟨(some 2),.alloc [(.int .i64 0),.nils],none,1⟩])
 (.seq (.region 0 [(0,2),(1,2),(0,3),(1,3),(0,4),(1,4)] [
 ⟨(some 3),.faddr 0 (.tmp 1),none,0⟩,
 ⟨(some 4),.load none (.tmp 3),none,0⟩,
 ⟨(some 5),.faddr 1 (.tmp 1),none,0⟩,
 ⟨(some 6),.load none (.tmp 5),none,0⟩,
 ⟨(some 7),.call 78 true [(.tmp 6)],none,0⟩,
 ⟨(some 8),.build [(.int .i64 0),.nils] [(0,1,(.tmp 4)),(1,1,(.tmp 7))],none,0⟩,
 ⟨none,.store (some 2) (.tmp 2) (.tmp 8),none,0⟩])
 .ret))⟩
def f43 : AFunc:=⟨52,[.cell 4 (some 2)],false,
 (.seq (.region 2 [] [
 ⟨(some 2),.box (.tmp 0),none,0⟩,
 ⟨(some 4),.alloc [(.int .i64 0),.nils],none,1⟩])
 (.seq (.region 1 [(0,3),(1,3),(2,3),(0,4),(1,4),(2,4),(3,4),(0,5),(1,5),(2,5),(3,5),(0,6),(1,6),(2,6),(3,6),(0,7),(1,7),(2,7),(0,10),(1,10),(2,10),(3,10),(4,10),(5,10),(6,10),(7,10),(8,10),(9,10)] [
 ⟨(some 8),.faddr 5 (.tmp 2),none,0⟩,
 ⟨(some 9),.faddr 0 (.tmp 8),none,0⟩,
 ⟨(some 10),.load none (.tmp 9),none,0⟩,
 ⟨(some 11),.mov (.tmp 1),none,0⟩,
 ⟨(some 12),.faddr 5 (.tmp 2),none,0⟩,
 ⟨(some 13),.load (some 2) (.tmp 12),none,0⟩,
 ⟨(some 14),.call 46 true [(.tmp 13)],none,0⟩,
 ⟨(some 15),.bin .rem (.tmp 11) (.tmp 14),none,0⟩,
 ⟨(some 16),.bin .add (.tmp 10) (.tmp 15),none,0⟩,
 ⟨(some 17),.build [(.int .i64 0),.nils] [(0,1,(.tmp 16))],none,0⟩,
 ⟨(some 5),.alloc [(.int .i64 0),.nils],none,0⟩,
 ⟨none,.store (some 2) (.tmp 5) (.tmp 17),none,1⟩])
 (.seq (.region 0 [] [
 ⟨(some 18),.mov (.tmp 1),none,0⟩,
 ⟨(some 19),.faddr 5 (.tmp 2),none,0⟩,
 ⟨(some 20),.load (some 2) (.tmp 19),none,0⟩,
 ⟨(some 21),.call 46 true [(.tmp 20)],none,0⟩,
 ⟨(some 22),.bin .quo (.tmp 18) (.tmp 21),none,0⟩,
 ⟨(some 1),.mov (.tmp 22),none,0⟩])
 (.seq (.seq (.region 0 [] [
 ⟨(some 6),.mov (.cst (.c (.int .i64 0))),none,0⟩])
 (.block 0 (.loop ⟨[7,23,24,25,26,27,28,29,30,31,32,33,34,35,36,37,38,39,40,41,42,43,44,45,46,47,48,49,50],true,[(5,(some 1),1)]⟩
 (.seq (.seq (.region 0 [] [
 ⟨(some 23),.mov (.tmp 6),none,0⟩,
 ⟨(some 24),.faddr 7 (.tmp 2),none,0⟩,
 ⟨(some 25),.load none (.tmp 24),none,0⟩,
 ⟨(some 26),.len (.tmp 25),none,0⟩,
 ⟨(some 27),.bin .lss (.tmp 23) (.tmp 26),none,0⟩])
 (.cond (.tmp 27)
 .skip
 (.exit 0)))
 (.seq (.block 1 (.seq (.region 1 [] [
 ⟨(some 30),.faddr 7 (.tmp 2),none,0⟩,
 ⟨(some 31),.load none (.tmp 30),none,0⟩,
 ⟨(some 32),.mov (.tmp 6),none,0⟩,
 ⟨(some 33),.iaddr 2 (.tmp 31) (.tmp 32),none,0⟩,
 ⟨(some 34),.load (some 2) (.tmp 33),none,0⟩,
 ⟨(some 7),.alloc [(.int .i64 0),(.int .i64 0)],none,0⟩,
 ⟨none,.store (some 2) (.tmp 7) (.tmp 34),none,1⟩])
 (.region 2 [(0,2),(1,2),(0,3),(1,3),(0,4),(1,4),(2,4),(3,4),(0,5),(1,5),(2,5),(3,5),(4,5),(0,6),(1,6),(2,6),(3,6),(4,6),(0,7),(1,7),(2,7),(3,7),(0,8),(1,8),(0,9),(1,9),(0,11),(1,11),(2,11),(3,11),(4,11),(5,11),(6,11),(7,11),(8,11),(9,11),(10,11),(0,12),(1,12),(2,12),(3,12),(4,12),(5,12),(6,12),(7,12),(8,12),(9,12),(10,12),(11,12),(11,13),(11,15),(12,15),(13,15),(14,15),(11,16),(14,16)] [
 ⟨(some 35),.faddr 1 (.tmp 5),none,0⟩,
 ⟨(some 36),.load none (.tmp 35),none,0⟩,
 ⟨(some 37),.faddr 0 (.tmp 7),none,0⟩,
 ⟨(some 38),.load none (.tmp 37),none,0⟩,
 ⟨(some 39),.mov (.tmp 1),none,0⟩,
 ⟨(some 40),.load (some 2) (.tmp 7),none,0⟩,
 ⟨(some 41),.call 46 true [(.tmp 40)],none,0⟩,
 ⟨(some 42),.bin .rem (.tmp 39) (.tmp 41),none,0⟩,
 ⟨(some 43),.bin .add (.tmp 38) (.tmp 42),none,0⟩,
 ⟨(some 44),.bslice 1 1 [(.int .i64 0)] [(0,(.tmp 43))],none,0⟩,
 ⟨(some 45),.append 1 8 (.tmp 36) (.tmp 44),none,1⟩,
 ⟨(some 46),.mov (.tmp 1),none,2⟩,
 ⟨(some 47),.load (some 2) (.tmp 7),none,2⟩,
 ⟨(some 48),.call 46 true [(.tmp 47)],none,2⟩,
 ⟨(some 49),.bin .quo (.tmp 46) (.tmp 48),none,2⟩,
 ⟨(some 50),.faddr 1 (.tmp 5),none,2⟩,
 ⟨none,.store none (.tmp 50) (.tmp 45),none,2⟩,
 ⟨(some 1),.mov (.tmp 49),none,2⟩])))
 (.region 0 [] [
 ⟨(some 28),.mov (.tmp 6),none,0⟩,
 ⟨(some 29),.bin .add (.tmp 28) (.cst (.c (.int .i64 1))),none,0⟩,
 ⟨(some 6),.mov (.tmp 29),none,0⟩]))))))
 (.seq (.region 0 [] [
 ⟨(some 51),.load (some 2) (.tmp 5),none,0⟩,
 ⟨none,.store (some 2) (.tmp 4) (.tmp 51),none,0⟩])
 .ret)))))⟩
def f44 : AFunc:=⟨9,[.tmp 2],false,
 (.seq (.region 1 [] [
 ⟨(some 1),.box (.tmp 0),none,0⟩,
 ⟨(some 2),.mov (.cst (.c (.int .i64 0))),none,1⟩])
 (.seq (.region 0 [] [
 ⟨(some 3),.faddr 1 (.tmp 1),none,0⟩,
 ⟨(some 4),.load none (.tmp 3),none,0⟩,
 ⟨(some 5),.faddr 0 (.tmp 1),none,0⟩,
 ⟨(some 6),.load none (.tmp 5),none,0⟩,
 ⟨(some 7),.bin .sub (.tmp 4) (.tmp 6),none,0⟩,
 ⟨(some 8),.bin .add (.tmp 7) (.cst (.c (.int .i64 1))),none,0⟩,
 ⟨(some 2),.mov (.tmp 8),none,0⟩])
 .ret))⟩
def f45 : AFunc:=⟨6,[.tmp 2],false,
 (.seq (.region 0 [] [
 ⟨(some 2),.mov (.cst (.c (.int .i64 0))),none,0⟩])
 (.seq (.region 0 [] [
 ⟨(some 3),.mov (.tmp 0),none,0⟩,
 ⟨(some 4),.bin .quo (.tmp 3) (.cst (.c (.int .i64 2))),none,0⟩,
 ⟨(some 5),.bin .add (.cst (.c (.int .i64 1))) (.tmp 4),none,0⟩,
 ⟨(some 2),.mov (.tmp 5),none,0⟩])
 .ret))⟩
def f46 : AFunc:=⟨9,[.tmp 2],false,
 (.seq (.region 1 [] [
 ⟨(some 1),.box (.tmp 0),none,0⟩,
 ⟨(some 2),.mov (.cst (.c (.int .i64 0))),none,1⟩])
 (.seq (.region 0 [] [
 ⟨(some 3),.faddr 1 (.tmp 1),none,0⟩,
 ⟨(some 4),.load none (.tmp 3),none,0⟩,
 ⟨(some 5),.faddr 0 (.tmp 1),none,0⟩,
 ⟨(some 6),.load none (.tmp 5),none,0⟩,
 ⟨(some 7),.bin .sub (.tmp 4) (.tmp 6),none,0⟩,
 ⟨(some 8),.bin .add (.tmp 7) (.cst (.c (.int .i64 1))),none,0⟩,
 ⟨(some 2),.mov (.tmp 8),none,0⟩])
 .ret))⟩
def f47 : AFunc:=⟨67,[.tmp 2],false,
 (.seq (.region 1 [] [
 ⟨(some 1),.box (.tmp 0),none,0⟩,
 ⟨(some 2),.mov (.cst (.c (.int .i64 0))),none,1⟩])
 (.seq (.region 0 [] [
 ⟨(some 7),.load (some 10) (.tmp 1),none,0⟩,
 ⟨(some 8),.mkfn 79 (some (.tmp 7)) [],none,0⟩,
 ⟨(some 3),.mov (.tmp 8),none,0⟩])
 (.seq (.block 0 (.seq (.region 0 [] [
 ⟨(some 10),.faddr 0 (.tmp 1),none,0⟩,
 ⟨(some 11),.load none (.tmp 10),none,0⟩,
 ⟨(some 12),.bin .gtr (.tmp 11) (.cst (.c (.int .i64 9))),none,0⟩,
 ⟨(some 13),.mov (.tmp 12),none,0⟩,
 ⟨(some 14),.faddr 9 (.tmp 1),some (13,false),0⟩,
 ⟨(some 15),.load none (.tmp 14),some (13,false),0⟩,
 ⟨(some 16),.len (.tmp 15),some (13,false),0⟩,
 ⟨(some 17),.bin .gtr (.tmp 16) (.cst (.c (.int .i64 5))),some (13,false),0⟩,
 ⟨(some 18),.pick (.tmp 13) (.cst (.c (.bool true))) (.tmp 17),none,0⟩,
 ⟨(some 9),.mov (.tmp 18),none,0⟩])
 (.cond (.tmp 9)
 (.seq (.region 0 [] [
 ⟨(some 2),.mov (.cst (.c (.int .i64 3))),none,0⟩])
 .ret)
 (.seq (.region 0 [(4,7),(5,7),(6,7),(4,8),(5,8),(6,8),(12,13),(12,14),(25,27),(26,27)] [
 ⟨(some 20),.load (some 10) (.tmp 1),none,0⟩,
 ⟨(some 21),.call 80 true [(.tmp 20)],none,0⟩,
 ⟨(some 22),.not (.tmp 21),none,0⟩,
 ⟨(some 23),.mov (.tmp 22),none,0⟩,
 ⟨(some 24),.faddr 7 (.tmp 1),some (23,false),0⟩,
 ⟨(some 25),.load none (.tmp 24),some (23,false),0⟩,
 ⟨(some 26),.len (.tmp 25),some (23,false),0⟩,
 ⟨(some 27),.load (some 10) (.tmp 1),some (23,false),0⟩,
 ⟨(some 28),.call 53 true [(.tmp 27)],some (23,false),0⟩,
 ⟨(some 29),.bin .neq (.tmp 26) (.tmp 28),some (23,false),0⟩,
 ⟨(some 30),.pick (.tmp 23) (.cst (.c (.bool true))) (.tmp 29),none,0⟩,
 ⟨(some 31),.mov (.tmp 30),none,0⟩,
 ⟨(some 32),.load (some 10) (.tmp 1),some (31,false),0⟩,
 ⟨(some 33),.faddr 8 (.tmp 1),some (31,false),0⟩,
 ⟨(some 34),.load none (.tmp 33),some (31,false),0⟩,
 ⟨(some 35),.call 49 true [(.tmp 32),(.tmp 34)],some (31,false),0⟩,
 ⟨(some 36),.not (.tmp 35),some (31,false),0⟩,
 ⟨(some 37),.pick (.tmp 31) (.cst (.c (.bool true))) (.tmp 36),none,0⟩,
 ⟨(some 38),.mov (.tmp 37),none,0⟩,
 ⟨(some 39),.faddr 7 (.tmp 1),some (38,false),0⟩,
 ⟨(some 40),.load none (.tmp 39),some (38,false),0⟩,
 ⟨(some 41),.call 81 false [(.tmp 40),(.cst (.c (.fn 82 false [] [])))],some (38,false),0⟩,
 ⟨(some 42),.not (.tmp 41),some (38,false),0⟩,
 ⟨(some 43),.pick (.tmp 38) (.cst (.c (.bool true))) (.tmp 42),none,0⟩,
 ⟨(some 44),.mov (.tmp 43),none,0⟩,
 ⟨(some 45),.faddr 9 (.tmp 1),some (44,false),0⟩,
 ⟨(some 46),.load none (.tmp 45),some (44,false),0⟩,
 ⟨(some 47),.mov (.tmp 3),some (44,false),0⟩,
 ⟨(some 48),.call 83 false [(.tmp 46),(.tmp 47)],some (44,false),0⟩,
 ⟨(some 49),.not (.tmp 48),some (44,false),0⟩,
 ⟨(some 50),.pick (.tmp 44) (.cst (.c (.bool true))) (.tmp 49),none,0⟩,
 ⟨(some 19),.mov (.tmp 50),none,0⟩])
 (.cond (.tmp 19)
 (.seq (.region 0 [] [
 ⟨(some 2),.mov (.cst (.c (.int .i64 1))),none,0⟩])
 .ret)
 .skip)))))
 (.seq (.region 0 [] [
 ⟨(some 4),.mov (.cst (.c (.int .i64 1))),none,0⟩])
 (.seq (.seq (.region 0 [] [
 ⟨(some 51),.load (some 10) (.tmp 1),none,0⟩,
 ⟨(some 52),.call 84 true [(.tmp 51)],none,0⟩,
 ⟨(some 53),.len (.tmp 52),none,0⟩,
 ⟨(some 54),.mov (.cst (.c (.int .i64 0))),none,0⟩])
 (.block 1 (.loop ⟨[6,55,56,57,58,59,60,61,62,63,64],true,[]⟩
 (.seq (.region 0 [] [
 ⟨(some 55),.bin .lss (.tmp 54) (.tmp 53),none,0⟩])
 (.seq (.cond (.tmp 55)
 .skip
 (.exit 1))
 (.seq (.block 2 (.seq (.region 1 [] [
 ⟨(some 56),.iaddr 2 (.tmp 52) (.tmp 54),none,0⟩,
 ⟨(some 57),.load (some 2) (.tmp 56),none,0⟩,
 ⟨(some 6),.alloc [(.int .i64 0),(.int .i64 0)],none,0⟩,
 ⟨none,.store (some 2) (.tmp 6) (.tmp 57),none,1⟩])
 (.region 1 [] [
 ⟨(some 58),.mov (.tmp 4),none,0⟩,
 ⟨(some 59),.load (some 2) (.tmp 6),none,0⟩,
 ⟨(some 60),.call 86 true [(.tmp 59)],none,0⟩,
 ⟨(some 61),.bin .mul (.tmp 58) (.tmp 60),none,0⟩,
 ⟨(some 62),.bslice 1 2 [(.int .i64 0)] [(0,(.tmp 61)),(1,(.cst (.c (.int .i64 2001))))],none,0⟩,
 ⟨(some 63),.call 85 true [(.tmp 62)],none,1⟩,
 ⟨(some 4),.mov (.tmp 63),none,1⟩])))
 (.region 0 [] [
 ⟨(some 64),.bin .add (.tmp 54) (.cst (.c (.int .i64 1))),none,0⟩,
 ⟨(some 54),.mov (.tmp 64),none,0⟩])))))))
 (.seq (.seq (.region 0 [] [
 ⟨(some 65),.mov (.tmp 4),none,0⟩,
 ⟨(some 66),.bin .gtr (.tmp 65) (.cst (.c (.int .i64 2000))),none,0⟩])
 (.cond (.tmp 66)
 (.seq (.region 0 [] [
 ⟨(some 2),.mov (.cst (.c (.int .i64 3))),none,0⟩])
 .ret)
 .skip))
 (.seq (.region 0 [] [
 ⟨(some 2),.mov (.cst (.c (.int .i64 0))),none,0⟩])
 .ret)))))))⟩
def f48 : AFunc:=⟨38,[.tmp 4],false,
 (.seq (.region 2 [] [
 ⟨(some 2),.box (.tmp 0),none,0⟩,
 ⟨(some 3),.box (.tmp 1),none,1⟩,
 ⟨(some 4),.mov (.cst (.c (.bool false))),none,2⟩])
 (.seq (.seq (.region 0 [(0,3),(1,3),(2,3),(0,4),(1,4),(2,4),(7,9),(8,9),(7,10),(8,10)] [
 ⟨(some 7),.faddr 1 (.tmp 3),none,0⟩,
 ⟨(some 8),.load none (.tmp 7),none,0⟩,
 ⟨(some 9),.len (.tmp 8),none,0⟩,
 ⟨(some 10),.load (some 10) (.tmp 2),none,0⟩,
 ⟨(some 11),.call 53 true [(.tmp 10)],none,0⟩,
 ⟨(some 12),.bin .neq (.tmp 9) (.tmp 11),none,0⟩,
 ⟨(some 13),.mov (.tmp 12),none,0⟩,
 ⟨(some 14),.faddr 5 (.tmp 2),some (13,false),0⟩,
 ⟨(some 15),.load (some 2) (.tmp 14),some (13,false),0⟩,
 ⟨(some 16),.faddr 0 (.tmp 3),some (13,false),0⟩,
 ⟨(some 17),.load none (.tmp 16),some (13,false),0⟩,
 ⟨(some 18),.call 87 true [(.tmp 15),(.tmp 17)],some (13,false),0⟩,
 ⟨(some 19),.not (.tmp 18),some (13,false),0⟩,
 ⟨(some 20),.pick (.tmp 13) (.cst (.c (.bool true))) (.tmp 19),none,0⟩])
 (.cond (.tmp 20)
 (.seq (.region 0 [] [
 ⟨(some 4),.mov (.cst (.c (.bool false))),none,0⟩])
 .ret)
 .skip))
 (.seq (.seq (.region 0 [] [
 ⟨(some 21),.faddr 7 (.tmp 2),none,0⟩,
 ⟨(some 22),.load none (.tmp 21),none,0⟩,
 ⟨(some 23),.len (.tmp 22),none,0⟩,
 ⟨(some 24),.mov (.cst (.c (.int .i64 0))),none,0⟩])
 (.block 0 (.loop ⟨[4,5,6,25,26,27,28,29,30,31,32,33,34,35,36,37],true,[]⟩
 (.seq (.region 0 [] [
 ⟨(some 25),.bin .lss (.tmp 24) (.tmp 23),none,0⟩])
 (.seq (.cond (.tmp 25)
 .skip
 (.exit 0))
 (.seq (.block 1 (.seq (.region 1 [] [
 ⟨(some 26),.mov (.tmp 24),none,0⟩,
 ⟨(some 27),.iaddr 2 (.tmp 22) (.tmp 24),none,0⟩,
 ⟨(some 28),.load (some 2) (.tmp 27),none,0⟩,
 ⟨(some 6),.alloc [(.int .i64 0),(.int .i64 0)],none,0⟩,
 ⟨(some 5),.mov (.tmp 26),none,1⟩,
 ⟨none,.store (some 2) (.tmp 6) (.tmp 28),none,1⟩])
 (.seq (.region 0 [(0,1),(0,2),(0,3),(1,3),(2,3),(0,4),(0,5)] [
 ⟨(some 29),.load (some 2) (.tmp 6),none,0⟩,
 ⟨(some 30),.faddr 1 (.tmp 3),none,0⟩,
 ⟨(some 31),.load none (.tmp 30),none,0⟩,
 ⟨(some 32),.mov (.tmp 5),none,0⟩,
 ⟨(some 33),.iaddr 1 (.tmp 31) (.tmp 32),none,0⟩,
 ⟨(some 34),.load none (.tmp 33),none,0⟩,
 ⟨(some 35),.call 87 true [(.tmp 29),(.tmp 34)],none,0⟩,
 ⟨(some 36),.not (.tmp 35),none,0⟩])
 (.cond (.tmp 36)
 (.seq (.region 0 [] [
 ⟨(some 4),.mov (.cst (.c (.bool false))),none,0⟩])
 .ret)
 .skip))))
 (.region 0 [] [
 ⟨(some 37),.bin .add (.tmp 24) (.cst (.c (.int .i64 1))),none,0⟩,
 ⟨(some 24),.mov (.tmp 37),none,0⟩])))))))
 (.seq (.region 0 [] [
 ⟨(some 4),.mov (.cst (.c (.bool true))),none,0⟩])
 .ret))))⟩
def f49 : AFunc:=⟨9,[.tmp 4],false,
 (.seq (.region 1 [] [
 ⟨(some 2),.box (.tmp 0),none,0⟩,
 ⟨(some 4),.mov (.cst (.c (.bool false))),none,1⟩])
 (.seq (.region 1 [] [
 ⟨(some 5),.alloc [(.int .i64 0)],none,0⟩,
 ⟨none,.store none (.tmp 5) (.cst (.c (.int .i64 (-1)))),none,1⟩])
 (.seq (.region 0 [] [
 ⟨(some 6),.mov (.tmp 1),none,0⟩,
 ⟨(some 7),.mkfn 89 none [(.tmp 5),(.tmp 2)],none,0⟩,
 ⟨(some 8),.call 88 false [(.tmp 6),(.tmp 7)],none,0⟩,
 ⟨(some 4),.mov (.tmp 8),none,0⟩])
 .ret)))⟩
def f50 : AFunc:=⟨7,[.tmp 2],false,
 (.seq (.region 1 [] [
 ⟨(some 1),.box (.tmp 0),none,0⟩,
 ⟨(some 2),.mov (.cst (.c .nilp)),none,1⟩])
 (.seq (.region 2 [] [
 ⟨(some 3),.load (some 10) (.tmp 1),none,0⟩,
 ⟨(some 4),.mkmap true false [(some .i64),none],none,0⟩,
 ⟨(some 5),.build [(.int .i64 0),(.int .i64 0),(.int .i64 0),(.int .i64 0),(.int .i64 0),(.int .i64 0),(.int .i64 0),.nils,.nils,.nils,.any] [(0,10,(.tmp 3)),(10,1,(.tmp 4))],none,1⟩,
 ⟨(some 6),.box (.tmp 5),none,1⟩,
 ⟨(some 2),.mov (.tmp 6),none,2⟩])
 .ret))⟩
def f51 : AFunc:=⟨41,[.cell 6 (some 10)],false,
 (.seq (.region 2 [] [
 ⟨(some 4),.box (.tmp 1),none,0⟩,
 ⟨(some 6),.alloc [(.int .i64 0),(.int .i64 0),(.int .i64 0),(.int .i64 0),(.int .i64 0),(.int .i64 0),(.int .i64 0),(.int .i64 0),(.int .i64 0),(.int .i64 0)],none,1⟩])
 (.seq (.region 0 [] [
 ⟨(some 10),.faddr 0 (.tmp 4),none,0⟩,
 ⟨(some 11),.load none (.tmp 10),none,0⟩,
 ⟨(some 7),.mov (.tmp 11),none,0⟩])
 (.seq (.seq (.region 0 [] [
 ⟨(some 12),.faddr 1 (.tmp 4),none,0⟩,
 ⟨(some 13),.load none (.tmp 12),none,0⟩,
 ⟨(some 14),.len (.tmp 13),none,0⟩,
 ⟨(some 15),.mov (.cst (.c (.int .i64 0))),none,0⟩])
 (.block 0 (.loop ⟨[8,9,16,17,18,19,20,21,22,23,24,25,26,27,28,29,30,31,32,33,34,35,36,37,38,39],false,[]⟩
 (.seq (.region 0 [] [
 ⟨(some 16),.bin .lss (.tmp 15) (.tmp 14),none,0⟩])
 (.seq (.cond (.tmp 16)
 .skip
 (.exit 0))
 (.seq (.block 1 (.seq (.region 0 [] [
 ⟨(some 17),.mov (.tmp 15),none,0⟩,
 ⟨(some 18),.iaddr 1 (.tmp 13) (.tmp 15),none,0⟩,
 ⟨(some 19),.load none (.tmp 18),none,0⟩,
 ⟨(some 8),.mov (.tmp 17),none,0⟩,
 ⟨(some 9),.mov (.tmp 19),none,0⟩])
 (.seq (.region 0 [(0,1),(0,2),(1,2),(0,3),(1,3),(2,3),(0,4),(1,4),(0,5),(0,7),(1,7),(2,7),(3,7),(4,7),(5,7),(6,7),(0,8),(1,8),(2,8),(3,8),(4,8),(5,8),(6,8),(0,9),(1,9),(2,9),(3,9),(4,9),(5,9),(6,9),(0,10),(1,10),(2,10),(3,10),(4,10),(5,10),(6,10),(0,11),(1,11),(2,11),(3,11),(4,11),(5,11),(6,11),(0,12),(1,12),(2,12),(3,12),(4,12),(5,12),(6,12),(7,12),(8,12),(9,12),(10,12),(11,12),(0,13),(1,13),(2,13),(3,13),(4,13),(5,13),(6,13),(0,14),(1,14),(2,14),(3,14),(4,14),(5,14),(6,14)] [
 ⟨(some 20),.mov (.tmp 0),none,0⟩,
 ⟨(some 21),.mov (.tmp 7),none,0⟩,
 ⟨(some 22),.mov (.tmp 2),none,0⟩,
 ⟨(some 23),.mov (.tmp 8),none,0⟩,
 ⟨(some 24),.call 92 true [(.tmp 22),(.tmp 23)],none,0⟩,
 ⟨(some 25),.build [(.int .i64 0),(.bool false)] [(0,1,(.tmp 21)),(1,1,(.tmp 24))],none,0⟩,
 ⟨(some 26),.call 91 false [(.tmp 20),(.tmp 25)],none,0⟩,
 ⟨(some 27),.mov (.tmp 0),none,0⟩,
 ⟨(some 28),.nilchk (.tmp 27),none,0⟩,
 ⟨(some 29),.faddr 0 (.tmp 28),none,0⟩,
 ⟨(some 30),.faddr 1 (.tmp 29),none,0⟩,
 ⟨(some 31),.load none (.tmp 30),none,0⟩,
 ⟨(some 32),.mov (.tmp 9),none,0⟩,
 ⟨(some 33),.bin .mul (.tmp 31) (.tmp 32),none,0⟩,
 ⟨(some 34),.bin .quo (.tmp 33) (.cst (.c (.int .i64 10))),none,0⟩,
 ⟨(some 35),.bin .add (.tmp 26) (.tmp 34),none,0⟩,
 ⟨(some 7),.mov (.tmp 35),none,0⟩])
 (.region 0 [] [
 ⟨(some 36),.mov (.tmp 8),none,0⟩,
 ⟨(some 37),.mov (.tmp 7),none,0⟩,
 ⟨(some 38),.iaddrA 10 1 (.tmp 6) (.tmp 36),none,0⟩,
 ⟨none,.store none (.tmp 38) (.tmp 37),none,0⟩]))))
 (.region 0 [] [
 ⟨(some 39),.bin .add (.tmp 15) (.cst (.c (.int .i64 1))),none,0⟩,
 ⟨(some 15),.mov (.tmp 39),none,0⟩])))))))
 (.seq (.region 0 [] [
 ⟨(some 40),.load (some 10) (.tmp 6),none,0⟩,
 ⟨none,.store (some 10) (.tmp 6) (.tmp 40),none,0⟩])
 .ret))))⟩
def f52 : AFunc:=⟨8,[.tmp 2],false,
 (.seq (.region 0 [] [
 ⟨(some 2),.mov (.cst (.c .nils)),none,0⟩])
 (.seq (.seq (.region 0 [] [
 ⟨(some 3),.mov (.tmp 0),none,0⟩,
 ⟨(some 4),.isnil false (.tmp 3),none,0⟩])
 (.cond (.tmp 4)
 (.seq (.region 0 [] [
 ⟨(some 2),.mov (.cst (.c .nils)),none,0⟩])
 .ret)
 .skip))
 (.seq (.region 2 [] [
 ⟨(some 5),.bslice 1 0 [(.int .i64 0)] [],none,0⟩,
 ⟨(some 6),.mov (.tmp 0),none,1⟩,
 ⟨(some 7),.append 1 8 (.tmp 5) (.tmp 6),none,1⟩,
 ⟨(some 2),.mov (.tmp 7),none,2⟩])
 .ret)))⟩
def f53 : AFunc:=⟨6,[.tmp 2],false,
 (.seq (.region 1 [] [
 ⟨(some 1),.box (.tmp 0),none,0⟩,
 ⟨(some 2),.mov (.cst (.c (.int .i64 0))),none,1⟩])
 (.seq (.region 0 [] [
 ⟨(some 3),.faddr 0 (.tmp 1),none,0⟩,
 ⟨(some 4),.load none (.tmp 3),none,0⟩,
 ⟨(some 5),.bin .add (.tmp 4) (.cst (.c (.int .i64 1))),none,0⟩,
 ⟨(some 2),.mov (.tmp 5),none,0⟩])
 .ret))⟩
def f54 : AFunc:=⟨20,[.tmp 6],false,
 (.seq (.region 3 [] [
 ⟨(some 3),.box (.tmp 0),none,0⟩,
 ⟨(some 4),.box (.tmp 1),none,1⟩,
 ⟨(some 5),.box (.tmp 2),none,2⟩,
 ⟨(some 6),.mov (.cst (.c (.bool false))),none,3⟩])
 (.seq (.region 0 [(0,1),(0,2),(0,3),(1,3),(2,3),(0,4),(1,4),(2,4),(0,6),(1,6),(2,6),(3,6),(4,6),(5,6),(0,7),(1,7),(2,7),(3,7),(4,7),(5,7),(0,8),(1,8),(2,8),(3,8),(4,8),(5,8),(0,9),(1,9),(2,9),(3,9),(4,9),(5,9),(6,9),(7,9),(8,9),(0,10),(1,10),(2,10),(3,10),(4,10),(5,10),(6,10),(7,10),(8,10),(0,11),(1,11),(2,11),(3,11),(4,11),(5,11),(6,11),(7,11),(8,11)] [
 ⟨(some 7),.load (some 2) (.tmp 4),none,0⟩,
 ⟨(some 8),.faddr 4 (.tmp 3),none,0⟩,
 ⟨(some 9),.load none (.tmp 8),none,0⟩,
 ⟨(some 10),.faddr 0 (.tmp 5),none,0⟩,
 ⟨(some 11),.load none (.tmp 10),none,0⟩,
 ⟨(some 12),.call 93 true [(.tmp 7),(.tmp 9),(.tmp 11)],none,0⟩,
 ⟨(some 13),.faddr 1 (.tmp 5),none,0⟩,
 ⟨(some 14),.faddr 0 (.tmp 13),none,0⟩,
 ⟨(some 15),.load none (.tmp 14),none,0⟩,
 ⟨(some 16),.faddr 1 (.tmp 5),none,0⟩,
 ⟨(some 17),.faddr 1 (.tmp 16),none,0⟩,
 ⟨(some 18),.load none (.tmp 17),none,0⟩,
 ⟨(some 19),.call 18 true [(.tmp 12),(.tmp 15),(.tmp 18)],none,0⟩,
 ⟨(some 6),.mov (.tmp 19),none,0⟩])
 .ret))⟩
def f55 : AFunc:=⟨23,[.tmp 4,.tmp 5],false,
 (.seq (.region 1 [] [
 ⟨(some 2),.box (.tmp 0),none,0⟩,
 ⟨(some 4),.mov (.cst (.c .nilp)),none,1⟩,
 ⟨(some 5),.mov (.cst (.c (.int .i64 0))),none,1⟩])
 (.seq (.seq (.region 0 [] [
 ⟨(some 8),.load (some 9) (.tmp 2),none,0⟩,
 ⟨(some 9),.call 36 true [(.tmp 8)],none,0⟩,
 ⟨(some 6),.mov (.tmp 9),none,0⟩])
 (.seq (.region 0 [] [
 ⟨(some 10),.mov (.tmp 6),none,0⟩,
 ⟨(some 11),.bin .neq (.tmp 10) (.cst (.c (.int .i64 0))),none,0⟩])
 (.cond (.tmp 11)
 (.seq (.region 0 [] [
 ⟨(some 12),.mov (.tmp 6),none,0⟩,
 ⟨(some 4),.mov (.cst (.c .nilp)),none,0⟩,
 ⟨(some 5),.mov (.tmp 12),none,0⟩])
 .ret)
 .skip)))
 (.seq (.seq (.region 0 [] [
 ⟨(some 13),.mov (.tmp 1),none,0⟩,
 ⟨(some 14),.load (some 9) (.tmp 2),none,0⟩,
 ⟨(some 15),.callv (.tmp 13) [(.tmp 14)],none,0⟩,
 ⟨(some 16),.not (.tmp 15),none,0⟩])
 (.cond (.tmp 16)
 (.seq (.region 0 [] [
 ⟨(some 4),.mov (.cst (.c .nilp)),none,0⟩,
 ⟨(some 5),.mov (.cst (.c (.int .i64 2))),none,0⟩])
 .ret)
 .skip))
 (.seq (.region 0 [] [
 ⟨(some 17),.load (some 9) (.tmp 2),none,0⟩,
 ⟨(some 18),.call 39 false [(.tmp 17)],none,0⟩,
 ⟨(some 7),.mov (.tmp 18),none,0⟩])
 (.seq (.seq (.region 0 [] [
 ⟨(some 19),.mov (.tmp 7),none,0⟩,
 ⟨(some 20),.call 94 false [(.tmp 19),(.cst (.c .nils))],none,0⟩,
 ⟨(some 21),.not (.tmp 20),none,0⟩])
 (.cond (.tmp 21)
 (.seq (.region 0 [] [
 ⟨(some 4),.mov (.cst (.c .nilp)),none,0⟩,
 ⟨(some 5),.mov (.cst (.c (.int .i64 11))),none,0⟩])
 .ret)
 .skip))
 (.seq (.region 0 [] [
 ⟨(some 22),.mov (.tmp 7),none,0⟩,
 ⟨(some 4),.mov (.tmp 22),none,0⟩,
 ⟨(some 5),.mov (.cst (.c (.int .i64 0))),none,0⟩])
 .ret))))))⟩
def f56 : AFunc:=⟨7,[.tmp 3],false,
 (.seq (.region 1 [] [
 ⟨(some 2),.box (.tmp 0),none,0⟩,
 ⟨(some 3),.mov (.cst (.c (.bool false))),none,1⟩])
 (.seq (.region 0 [] [
 ⟨(some 4),.load (some 9) (.tmp 2),none,0⟩,
 ⟨(some 5),.load none (.tmp 1),none,0⟩,
 ⟨(some 6),.call 38 true [(.tmp 4),(.tmp 5)],none,0⟩,
 ⟨(some 3),.mov (.tmp 6),none,0⟩])
 .ret))⟩
def f57 : AFunc:=⟨22,[.cell 4 (some 2)],false,
 (.seq (.region 2 [] [
 ⟨(some 3),.box (.tmp 1),none,0⟩,
 ⟨(some 4),.alloc [(.int .i64 0),(.int .i64 0)],none,1⟩])
 (.seq (.region 1 [] [
 ⟨(some 5),.alloc [(.bool false)],none,0⟩,
 ⟨none,.store none (.tmp 5) (.cst (.c (.bool true))),none,1⟩])
 (.seq (.seq (.region 0 [] [
 ⟨(some 8),.mov (.tmp 0),none,0⟩,
 ⟨(some 9),.call 95 false [(.tmp 8),(.cst (.c .nils))],none,0⟩])
 (.block 0 (.range (.tmp 9) [10]
 (.region 1 [] [
 ⟨(some 6),.alloc [.nils,.nils],none,0⟩,
 ⟨none,.store (some 2) (.tmp 6) (.tmp 10),none,1⟩])
 (.block 1 (.seq (.region 0 [] [
 ⟨(some 11),.load none (.tmp 3),none,0⟩,
 ⟨(some 12),.load (some 2) (.tmp 6),none,0⟩,
 ⟨(some 13),.callv (.tmp 11) [(.tmp 12)],none,0⟩,
 ⟨(some 7),.mov (.tmp 13),none,0⟩])
 (.seq (.seq (.region 0 [] [
 ⟨(some 14),.load none (.tmp 5),none,0⟩])
 (.cond (.tmp 14)
 (.region 0 [] [
 ⟨(some 15),.mov (.tmp 7),none,0⟩,
 ⟨(some 16),.mov (.tmp 7),none,0⟩,
 ⟨(some 17),.build [(.int .i64 0),(.int .i64 0)] [(0,1,(.tmp 15)),(1,1,(.tmp 16))],none,0⟩,
 ⟨none,.store (some 2) (.tmp 4) (.tmp 17),none,0⟩,
 ⟨none,.store none (.tmp 5) (.cst (.c (.bool false))),none,0⟩])
 .skip))
 (.region 0 [] [
 ⟨(some 18),.load (some 2) (.tmp 4),none,0⟩,
 ⟨(some 19),.mov (.tmp 7),none,0⟩,
 ⟨(some 20),.call 96 true [(.tmp 18),(.tmp 19)],none,0⟩,
 ⟨none,.store (some 2) (.tmp 4) (.tmp 20),none,0⟩])))))))
 (.seq (.region 0 [] [
 ⟨(some 21),.load (some 2) (.tmp 4),none,0⟩,
 ⟨none,.store (some 2) (.tmp 4) (.tmp 21),none,0⟩])
 .ret))))⟩
def f58 : AFunc:=⟨17,[.tmp 6],false,
 (.seq (.region 1 [] [
 ⟨(some 5),.box (.tmp 0),none,0⟩,
 ⟨(some 6),.mov (.cst (.c (.int .i64 0))),none,1⟩])
 (.seq (.region 0 [(0,2),(1,2),(0,3),(1,3),(2,3),(0,4),(1,4),(2,4),(3,4),(0,5),(1,5),(0,6),(1,6),(2,6),(3,6),(4,6),(5,6),(0,7),(1,7),(0,8),(1,8)] [
 ⟨(some 7),.faddr 0 (.tmp 1),none,0⟩,
 ⟨(some 8),.load none (.tmp 7),none,0⟩,
 ⟨(some 9),.load none (.tmp 2),none,0⟩,
 ⟨(some 10),.load (some 2) (.tmp 5),none,0⟩,
 ⟨(some 11),.load none (.tmp 3),none,0⟩,
 ⟨(some 12),.call 40 false [(.tmp 9),(.tmp 10),(.tmp 11)],none,0⟩,
 ⟨(some 13),.load none (.tmp 4),none,0⟩,
 ⟨(some 14),.iaddr 3 (.tmp 12) (.tmp 13),none,0⟩,
 ⟨(some 15),.load (some 3) (.tmp 14),none,0⟩,
 ⟨(some 16),.callv (.tmp 8) [(.tmp 15)],none,0⟩,
 ⟨(some 6),.mov (.tmp 16),none,0⟩])
 .ret))⟩
def f59 : AFunc:=⟨14,[.tmp 4],true,
 (.seq (.region 2 [] [
 ⟨(some 2),.box (.tmp 0),none,0⟩,
 ⟨(some 3),.box (.tmp 1),none,1⟩,
 ⟨(some 4),.mov (.cst (.c (.bool false))),none,2⟩])
 (.seq (.region 0 [] [
 ⟨(some 5),.load (some 9) (.tmp 2),none,0⟩,
 ⟨(some 6),.faddr 0 (.tmp 3),none,0⟩,
 ⟨(some 7),.load none (.tmp 6),none,0⟩,
 ⟨(some 8),.call 97 true [(.tmp 5),(.tmp 7)],none,0⟩,
 ⟨(some 9),.mov (.tmp 8),none,0⟩,
 ⟨(some 10),.faddr 1 (.tmp 3),some (9,true),0⟩,
 ⟨(some 11),.load (some 2) (.tmp 10),some (9,true),0⟩,
 ⟨(some 12),.call 98 true [(.tmp 11),(.cst (.c (.int .i64 1000)))],some (9,true),0⟩,
 ⟨(some 13),.pick (.tmp 9) (.tmp 12) (.cst (.c (.bool false))),none,0⟩,
 ⟨(some 4),.mov (.tmp 13),none,0⟩])
 .ret))⟩
def f60 : AFunc:=⟨21,[.tmp 2],false,
 (.seq (.region 1 [] [
 ⟨(some 1),.box (.tmp 0),none,0⟩,
 ⟨(some 2),.mov (.cst (.c (.bool false))),none,1⟩])
 (.seq (.region 0 [] [
 ⟨(some 3),.faddr 0 (.tmp 1),none,0⟩,
 ⟨(some 4),.load none (.tmp 3),none,0⟩,
 ⟨(some 5),.bin .geq (.tmp 4) (.cst (.c (.int .i64 0))),none,0⟩,
 ⟨(some 6),.mov (.tmp 5),none,0⟩,
 ⟨(some 7),.faddr 5 (.tmp 1),some (6,true),0⟩,
 ⟨(some 8),.load none (.tmp 7),some (6,true),0⟩,
 ⟨(some 9),.call 74 true [(.tmp 8),(.cst (.c (.int .i64 1))),(.cst (.c (.int .i64 10)))],some (6,true),0⟩,
 ⟨(some 10),.pick (.tmp 6) (.tmp 9) (.cst (.c (.bool false))),none,0⟩,
 ⟨(some 11),.mov (.tmp 10),none,0⟩,
 ⟨(some 12),.faddr 6 (.tmp 1),some (11,true),0⟩,
 ⟨(some 13),.load none (.tmp 12),some (11,true),0⟩,
 ⟨(some 14),.call 74 true [(.tmp 13),(.cst (.c (.int .i64 0))),(.cst (.c (.int .i64 50)))],some (11,true),0⟩,
 ⟨(some 15),.pick (.tmp 11) (.tmp 14) (.cst (.c (.bool false))),none,0⟩,
 ⟨(some 16),.mov (.tmp 15),none,0⟩,
 ⟨(some 17),.faddr 7 (.tmp 1),some (16,true),0⟩,
 ⟨(some 18),.load none (.tmp 17),some (16,true),0⟩,
 ⟨(some 19),.call 74 true [(.tmp 18),(.cst (.c (.int .i64 0))),(.cst (.c (.int .i64 100)))],some (16,true),0⟩,
 ⟨(some 20),.pick (.tmp 16) (.tmp 19) (.cst (.c (.bool false))),none,0⟩,
 ⟨(some 2),.mov (.tmp 20),none,0⟩])
 .ret))⟩
def f61 : AFunc:=⟨6,[.tmp 2],false,
 (.seq (.region 1 [] [
 ⟨(some 1),.box (.tmp 0),none,0⟩,
 ⟨(some 2),.mov (.cst (.c (.int .i64 0))),none,1⟩])
 (.seq (.region 0 [] [
 ⟨(some 3),.faddr 0 (.tmp 1),none,0⟩,
 ⟨(some 4),.load none (.tmp 3),none,0⟩,
 ⟨(some 5),.bin .add (.tmp 4) (.cst (.c (.int .i64 1))),none,0⟩,
 ⟨(some 2),.mov (.tmp 5),none,0⟩])
 .ret))⟩
def f62 : AFunc:=⟨14,[.tmp 2],false,
 (.seq (.region 1 [] [
 ⟨(some 1),.box (.tmp 0),none,0⟩,
 ⟨(some 2),.mov (.cst (.c (.bool false))),none,1⟩])
 (.seq (.region 1 [] [
 ⟨(some 3),.alloc [(.int .i64 0)],none,0⟩,
 ⟨none,.store none (.tmp 3) (.cst (.c (.int .i64 200))),none,1⟩])
 (.seq (.region 0 [] [
 ⟨(some 4),.faddr 3 (.tmp 1),none,0⟩,
 ⟨(some 5),.load none (.tmp 4),none,0⟩,
 ⟨(some 6),.len (.tmp 5),none,0⟩,
 ⟨(some 7),.bin .gtr (.tmp 6) (.cst (.c (.int .i64 0))),none,0⟩,
 ⟨(some 8),.mov (.tmp 7),none,0⟩,
 ⟨(some 9),.faddr 3 (.tmp 1),some (8,true),0⟩,
 ⟨(some 10),.load none (.tmp 9),some (8,true),0⟩,
 ⟨(some 11),.mkfn 99 none [(.tmp 3)],some (8,true),0⟩,
 ⟨(some 12),.call 65 false [(.tmp 10),(.tmp 11)],some (8,true),0⟩,
 ⟨(some 13),.pick (.tmp 8) (.tmp 12) (.cst (.c (.bool false))),none,0⟩,
 ⟨(some 2),.mov (.tmp 13),none,0⟩])
 .ret)))⟩
def f63 : AFunc:=⟨9,[.tmp 4],false,
 (.seq (.region 1 [] [
 ⟨(some 3),.box (.tmp 1),none,0⟩,
 ⟨(some 4),.mov (.cst (.c (.bool false))),none,1⟩])
 (.seq (.region 0 [] [
 ⟨(some 5),.mov (.tmp 0),none,0⟩,
 ⟨(some 6),.mkfn 101 none [(.tmp 3)],none,0⟩,
 ⟨(some 7),.call 100 false [(.tmp 5),(.tmp 6)],none,0⟩,
 ⟨(some 8),.not (.tmp 7),none,0⟩,
 ⟨(some 4),.mov (.tmp 8),none,0⟩])
 .ret))⟩
def f64 : AFunc:=⟨5,[.tmp 2],true,
 (.seq (.region 1 [] [
 ⟨(some 1),.box (.tmp 0),none,0⟩,
 ⟨(some 2),.mov (.cst (.c (.bool false))),none,1⟩])
 (.seq (.region 0 [] [
 ⟨(some 3),.load (some 2) (.tmp 1),none,0⟩,
 ⟨(some 4),.call 98 true [(.tmp 3),(.cst (.c (.int .i64 50)))],none,0⟩,
 ⟨(some 2),.mov (.tmp 4),none,0⟩])
 .ret))⟩
def f65 : AFunc:=⟨9,[.tmp 4],false,
 (.seq (.region 1 [] [
 ⟨(some 3),.box (.tmp 1),none,0⟩,
 ⟨(some 4),.mov (.cst (.c (.bool false))),none,1⟩])
 (.seq (.region 0 [] [
 ⟨(some 5),.mov (.tmp 0),none,0⟩,
 ⟨(some 6),.mkfn 103 none [(.tmp 3)],none,0⟩,
 ⟨(some 7),.call 102 false [(.tmp 5),(.tmp 6)],none,0⟩,
 ⟨(some 8),.not (.tmp 7),none,0⟩,
 ⟨(some 4),.mov (.tmp 8),none,0⟩])
 .ret))⟩
def f66 : AFunc:=⟨5,[.tmp 2],false,
 (.seq (.region 0 [] [
 ⟨(some 2),.mov (.cst (.c (.bool false))),none,0⟩])
 (.seq (.region 0 [] [
 ⟨(some 3),.mov (.tmp 0),none,0⟩,
 ⟨(some 4),.call 74 true [(.tmp 3),(.cst (.c (.int .i64 0))),(.cst (.c (.int .i64 2)))],none,0⟩,
 ⟨(some 2),.mov (.tmp 4),none,0⟩])
 .ret))⟩
def f67 : AFunc:=⟨9,[.tmp 4],false,
 (.seq (.region 1 [] [
 ⟨(some 3),.box (.tmp 1),none,0⟩,
 ⟨(some 4),.mov (.cst (.c (.bool false))),none,1⟩])
 (.seq (.region 0 [] [
 ⟨(some 5),.mov (.tmp 0),none,0⟩,
 ⟨(some 6),.mkfn 105 none [(.tmp 3)],none,0⟩,
 ⟨(some 7),.call 104 false [(.tmp 5),(.tmp 6)],none,0⟩,
 ⟨(some 8),.not (.tmp 7),none,0⟩,
 ⟨(some 4),.mov (.tmp 8),none,0⟩])
 .ret))⟩
def f68 : AFunc:=⟨29,[.tmp 2],false,
 (.seq (.region 1 [] [
 ⟨(some 1),.box (.tmp 0),none,0⟩,
 ⟨(some 2),.mov (.cst (.c .nils)),none,1⟩])
 (.seq (.region 1 [] [
 ⟨(some 7),.faddr 1 (.tmp 1),none,0⟩,
 ⟨(some 8),.load none (.tmp 7),none,0⟩,
 ⟨(some 9),.clone 106 2 16 (.tmp 8),none,0⟩,
 ⟨(some 3),.mov (.tmp 9),none,1⟩])
 (.seq (.seq (.region 0 [] [
 ⟨(some 10),.faddr 2 (.tmp 1),none,0⟩,
 ⟨(some 11),.load none (.tmp 10),none,0⟩,
 ⟨(some 12),.len (.tmp 11),none,0⟩,
 ⟨(some 13),.mov (.cst (.c (.int .i64 0))),none,0⟩])
 (.block 0 (.loop ⟨[5,6,14,15,16,17,18,19,20,21,22,23,24,25,26,27],true,[(3,none,2)]⟩
 (.seq (.region 0 [] [
 ⟨(some 14),.bin .lss (.tmp 13) (.tmp 12),none,0⟩])
 (.seq (.cond (.tmp 14)
 .skip
 (.exit 0))
 (.seq (.block 1 (.seq (.region 0 [] [
 ⟨(some 15),.iaddr 1 (.tmp 11) (.tmp 13),none,0⟩,
 ⟨(some 16),.load none (.tmp 15),none,0⟩,
 ⟨(some 5),.mov (.tmp 16),none,0⟩])
 (.seq (.region 1 [] [
 ⟨(some 17),.mov (.tmp 5),none,0⟩,
 ⟨(some 18),.mov (.tmp 5),none,0⟩,
 ⟨(some 19),.build [(.int .i64 0),(.int .i64 0)] [(0,1,(.tmp 17)),(1,1,(.tmp 18))],none,0⟩,
 ⟨(some 6),.alloc [(.int .i64 0),(.int .i64 0)],none,0⟩,
 ⟨none,.store (some 2) (.tmp 6) (.tmp 19),none,1⟩])
 (.seq (.seq (.region 0 [] [
 ⟨(some 20),.mov (.tmp 5),none,0⟩,
 ⟨(some 21),.bin .eql (.tmp 20) (.cst (.c (.int .i64 2))),none,0⟩])
 (.cond (.tmp 21)
 (.region 0 [] [
 ⟨(some 22),.build [(.int .i64 0),(.int .i64 0)] [(0,1,(.cst (.c (.int .i64 0)))),(1,1,(.cst (.c (.int .i64 1))))],none,0⟩,
 ⟨none,.store (some 2) (.tmp 6) (.tmp 22),none,0⟩])
 .skip))
 (.region 2 [] [
 ⟨(some 23),.mov (.tmp 3),none,0⟩,
 ⟨(some 24),.load (some 2) (.tmp 6),none,0⟩,
 ⟨(some 25),.bslice 2 1 [(.int .i64 0),(.int .i64 0)] [(0,(.tmp 24))],none,0⟩,
 ⟨(some 26),.append 2 16 (.tmp 23) (.tmp 25),none,1⟩,
 ⟨(some 3),.mov (.tmp 26),none,2⟩])))))
 (.region 0 [] [
 ⟨(some 27),.bin .add (.tmp 13) (.cst (.c (.int .i64 1))),none,0⟩,
 ⟨(some 13),.mov (.tmp 27),none,0⟩])))))))
 (.seq (.region 0 [] [
 ⟨(some 28),.mov (.tmp 3),none,0⟩,
 ⟨(some 2),.mov (.tmp 28),none,0⟩])
 .ret))))⟩
def f69 : AFunc:=⟨5,[.tmp 2],false,
 (.seq (.region 0 [] [
 ⟨(some 2),.mov (.cst (.c (.int .i64 0))),none,0⟩])
 (.seq (.region 0 [] [
 ⟨(some 3),.mov (.tmp 0),none,0⟩,
 ⟨(some 4),.call 107 true [(.tmp 3)],none,0⟩,
 ⟨(some 2),.mov (.tmp 4),none,0⟩])
 .ret))⟩
def f70 : AFunc:=⟨9,[.tmp 2],false,
 (.seq (.region 1 [] [
 ⟨(some 1),.box (.tmp 0),none,0⟩,
 ⟨(some 2),.mov (.cst (.c (.int .i64 0))),none,1⟩])
 (.seq (.region 0 [] [
 ⟨(some 3),.faddr 1 (.tmp 1),none,0⟩,
 ⟨(some 4),.load none (.tmp 3),none,0⟩,
 ⟨(some 5),.faddr 0 (.tmp 1),none,0⟩,
 ⟨(some 6),.load none (.tmp 5),none,0⟩,
 ⟨(some 7),.bin .sub (.tmp 4) (.tmp 6),none,0⟩,
 ⟨(some 8),.bin .add (.tmp 7) (.cst (.c (.int .i64 1))),none,0⟩,
 ⟨(some 2),.mov (.tmp 8),none,0⟩])
 .ret))⟩
def f71 : AFunc:=⟨36,[.tmp 2],false,
 (.seq (.region 0 [] [
 ⟨(some 2),.mov (.cst (.c .nils)),none,0⟩])
 (.seq (.region 0 [] [
 ⟨(some 3),.mov (.cst (.c (.int .i64 0))),none,0⟩])
 (.seq (.seq (.region 0 [] [
 ⟨(some 9),.mov (.tmp 0),none,0⟩,
 ⟨(some 10),.len (.tmp 9),none,0⟩,
 ⟨(some 11),.mov (.cst (.c (.int .i64 0))),none,0⟩])
 (.block 0 (.loop ⟨[5,12,13,14,15,16,17,18,19,20,21,22],false,[]⟩
 (.seq (.region 0 [] [
 ⟨(some 12),.bin .lss (.tmp 11) (.tmp 10),none,0⟩])
 (.seq (.cond (.tmp 12)
 .skip
 (.exit 0))
 (.seq (.block 1 (.seq (.region 0 [] [
 ⟨(some 13),.iaddr 1 (.tmp 9) (.tmp 11),none,0⟩,
 ⟨(some 14),.load none (.tmp 13),none,0⟩,
 ⟨(some 5),.mov (.tmp 14),none,0⟩])
 (.seq (.region 0 [] [
 ⟨(some 15),.mov (.tmp 3),none,0⟩,
 ⟨(some 16),.mov (.tmp 5),none,0⟩,
 ⟨(some 17),.len (.tmp 16),none,0⟩,
 ⟨(some 18),.bin .add (.tmp 15) (.tmp 17),none,0⟩,
 ⟨(some 3),.mov (.tmp 18),none,0⟩])
 (.seq (.region 0 [] [
 ⟨(some 19),.mov (.tmp 3),none,0⟩,
 ⟨(some 20),.bin .lss (.tmp 19) (.cst (.c (.int .i64 0))),none,0⟩])
 (.cond (.tmp 20)
 (.region 0 [] [
 ⟨(some 21),.pick (.cst (.c .any)) (.cst (.c .any)) (.cst (.c .any)),none,0⟩,
 ⟨none,.pick (.cst (.c .any)) (.cst (.c .any)) (.cst (.c .any)),none,0⟩])
 .skip)))))
 (.region 0 [] [
 ⟨(some 22),.bin .add (.tmp 11) (.cst (.c (.int .i64 1))),none,0⟩,
 ⟨(some 11),.mov (.tmp 22),none,0⟩])))))))
 (.seq (.region 1 [] [
 ⟨(some 23),.mov (.tmp 3),none,0⟩,
 ⟨(some 24),.grow 108 1 8 (.tmp 23),none,0⟩,
 ⟨(some 6),.mov (.tmp 24),none,1⟩])
 (.seq (.seq (.region 0 [] [
 ⟨(some 25),.mov (.tmp 0),none,0⟩,
 ⟨(some 26),.len (.tmp 25),none,0⟩,
 ⟨(some 27),.mov (.cst (.c (.int .i64 0))),none,0⟩])
 (.block 2 (.loop ⟨[8,28,29,30,31,32,33,34],true,[(6,none,1)]⟩
 (.seq (.region 0 [] [
 ⟨(some 28),.bin .lss (.tmp 27) (.tmp 26),none,0⟩])
 (.seq (.cond (.tmp 28)
 .skip
 (.exit 2))
 (.seq (.block 3 (.seq (.region 0 [] [
 ⟨(some 29),.iaddr 1 (.tmp 25) (.tmp 27),none,0⟩,
 ⟨(some 30),.load none (.tmp 29),none,0⟩,
 ⟨(some 8),.mov (.tmp 30),none,0⟩])
 (.region 1 [] [
 ⟨(some 31),.mov (.tmp 6),none,0⟩,
 ⟨(some 32),.mov (.tmp 8),none,0⟩,
 ⟨(some 33),.append 1 8 (.tmp 31) (.tmp 32),none,0⟩,
 ⟨(some 6),.mov (.tmp 33),none,1⟩])))
 (.region 0 [] [
 ⟨(some 34),.bin .add (.tmp 27) (.cst (.c (.int .i64 1))),none,0⟩,
 ⟨(some 27),.mov (.tmp 34),none,0⟩])))))))
 (.seq (.region 0 [] [
 ⟨(some 35),.mov (.tmp 6),none,0⟩,
 ⟨(some 2),.mov (.tmp 35),none,0⟩])
 .ret))))))⟩
def f72 : AFunc:=⟨11,[.tmp 4],false,
 (.seq (.region 1 [] [
 ⟨(some 2),.box (.tmp 0),none,0⟩,
 ⟨(some 4),.mov (.cst (.c (.bool false))),none,1⟩])
 (.seq (.region 0 [] [
 ⟨(some 5),.mov (.tmp 1),none,0⟩,
 ⟨(some 6),.faddr 0 (.tmp 2),none,0⟩,
 ⟨(some 7),.load none (.tmp 6),none,0⟩,
 ⟨(some 8),.faddr 1 (.tmp 2),none,0⟩,
 ⟨(some 9),.load none (.tmp 8),none,0⟩,
 ⟨(some 10),.call 74 true [(.tmp 5),(.tmp 7),(.tmp 9)],none,0⟩,
 ⟨(some 4),.mov (.tmp 10),none,0⟩])
 .ret))⟩
def f73 : AFunc:=⟨14,[.tmp 4],false,
 (.seq (.region 0 [] [
 ⟨(some 4),.mov (.cst (.c (.bool false))),none,0⟩])
 (.seq (.region 0 [] [
 ⟨(some 6),.mov (.tmp 0),none,0⟩,
 ⟨(some 7),.load none (.tmp 1),none,0⟩,
 ⟨(some 8),.bin .add (.tmp 7) (.cst (.c (.int .i64 1))),none,0⟩,
 ⟨(some 9),.faddr 0 (.tmp 2),none,0⟩,
 ⟨(some 10),.load none (.tmp 9),none,0⟩,
 ⟨(some 11),.call 74 true [(.tmp 6),(.tmp 8),(.tmp 10)],none,0⟩,
 ⟨(some 5),.mov (.tmp 11),none,0⟩])
 (.seq (.region 0 [] [
 ⟨(some 12),.mov (.tmp 0),none,0⟩,
 ⟨none,.store none (.tmp 1) (.tmp 12),none,0⟩])
 (.seq (.region 0 [] [
 ⟨(some 13),.mov (.tmp 5),none,0⟩,
 ⟨(some 4),.mov (.tmp 13),none,0⟩])
 .ret))))⟩
def f74 : AFunc:=⟨15,[.tmp 6],false,
 (.seq (.region 0 [] [
 ⟨(some 6),.mov (.cst (.c (.bool false))),none,0⟩])
 (.seq (.region 0 [] [
 ⟨(some 7),.mov (.tmp 1),none,0⟩,
 ⟨(some 8),.mov (.tmp 0),none,0⟩,
 ⟨(some 9),.bin .leq (.tmp 7) (.tmp 8),none,0⟩,
 ⟨(some 10),.mov (.tmp 9),none,0⟩,
 ⟨(some 11),.mov (.tmp 0),some (10,true),0⟩,
 ⟨(some 12),.mov (.tmp 2),some (10,true),0⟩,
 ⟨(some 13),.bin .leq (.tmp 11) (.tmp 12),some (10,true),0⟩,
 ⟨(some 14),.pick (.tmp 10) (.tmp 13) (.cst (.c (.bool false))),none,0⟩,
 ⟨(some 6),.mov (.tmp 14),none,0⟩])
 .ret))⟩
def f75 : AFunc:=⟨29,[.cell 6 (some 10)],false,
 (.seq (.region 2 [] [
 ⟨(some 4),.box (.tmp 1),none,0⟩,
 ⟨(some 6),.alloc [(.int .i64 0),(.int .i64 0),(.int .i64 0),(.int .i64 0),(.int .i64 0),(.int .i64 0),(.int .i64 0),(.int .i64 0),(.int .i64 0),(.int .i64 0)],none,1⟩])
 (.seq (.region 0 [] [
 ⟨(some 7),.mov (.cst (.c (.int .i64 0))),none,0⟩])
 (.seq (.seq (.region 0 [] [
 ⟨(some 10),.faddr 0 (.tmp 4),none,0⟩,
 ⟨(some 11),.load none (.tmp 10),none,0⟩,
 ⟨(some 12),.len (.tmp 11),none,0⟩,
 ⟨(some 13),.mov (.cst (.c (.int .i64 0))),none,0⟩])
 (.block 0 (.loop ⟨[8,9,14,15,16,17,18,19,20,21,22,23,24,25,26,27],false,[]⟩
 (.seq (.region 0 [] [
 ⟨(some 14),.bin .lss (.tmp 13) (.tmp 12),none,0⟩])
 (.seq (.cond (.tmp 14)
 .skip
 (.exit 0))
 (.seq (.block 1 (.seq (.region 0 [] [
 ⟨(some 15),.mov (.tmp 13),none,0⟩,
 ⟨(some 16),.iaddr 1 (.tmp 11) (.tmp 13),none,0⟩,
 ⟨(some 17),.load none (.tmp 16),none,0⟩,
 ⟨(some 8),.mov (.tmp 15),none,0⟩,
 ⟨(some 9),.mov (.tmp 17),none,0⟩])
 (.seq (.region 0 [] [
 ⟨(some 18),.mov (.tmp 7),none,0⟩,
 ⟨(some 19),.mov (.tmp 9),none,0⟩,
 ⟨(some 20),.bin .add (.tmp 18) (.tmp 19),none,0⟩,
 ⟨(some 7),.mov (.tmp 20),none,0⟩])
 (.seq (.region 0 [] [
 ⟨(some 21),.mov (.tmp 8),none,0⟩,
 ⟨(some 22),.mov (.tmp 7),none,0⟩,
 ⟨(some 23),.iaddrA 10 1 (.tmp 6) (.tmp 21),none,0⟩,
 ⟨none,.store none (.tmp 23) (.tmp 22),none,0⟩])
 (.seq (.region 0 [] [
 ⟨(some 24),.mov (.tmp 2),none,0⟩,
 ⟨(some 25),.mov (.tmp 8),none,0⟩,
 ⟨(some 26),.call 92 true [(.tmp 24),(.tmp 25)],none,0⟩])
 (.cond (.tmp 26)
 (.region 0 [] [
 ⟨(some 7),.mov (.cst (.c (.int .i64 0))),none,0⟩])
 .skip))))))
 (.region 0 [] [
 ⟨(some 27),.bin .add (.tmp 13) (.cst (.c (.int .i64 1))),none,0⟩,
 ⟨(some 13),.mov (.tmp 27),none,0⟩])))))))
 (.seq (.region 0 [] [
 ⟨(some 28),.load (some 10) (.tmp 6),none,0⟩,
 ⟨none,.store (some 10) (.tmp 6) (.tmp 28),none,0⟩])
 .ret))))⟩
def f76 : AFunc:=⟨39,[.tmp 4],false,
 (.seq (.region 1 [] [
 ⟨(some 3),.box (.tmp 1),none,0⟩,
 ⟨(some 4),.mov (.cst (.c (.int .i64 0))),none,1⟩])
 (.seq (.region 0 [(0,4),(1,4),(2,4),(3,4),(7,8),(8,9)] [
 ⟨(some 8),.mov (.tmp 0),none,0⟩,
 ⟨(some 9),.nilchk (.tmp 8),none,0⟩,
 ⟨(some 10),.faddr 9 (.tmp 9),none,0⟩,
 ⟨(some 11),.load none (.tmp 10),none,0⟩,
 ⟨(some 12),.load (some 2) (.tmp 3),none,0⟩,
 ⟨(some 13),.lookup true false [(some .i64),none] (.c (.int .i64 0)) true (.tmp 11) (.tmp 12),none,0⟩,
 ⟨(some 7),.mov (.tmp 13),none,0⟩,
 ⟨(some 14),.extract 0 (.tmp 7),none,0⟩,
 ⟨(some 15),.extract 1 (.tmp 7),none,0⟩,
 ⟨(some 5),.mov (.tmp 14),none,0⟩,
 ⟨(some 6),.mov (.tmp 15),none,0⟩])
 (.seq (.seq (.region 0 [] [
 ⟨(some 16),.mov (.tmp 6),none,0⟩,
 ⟨(some 17),.not (.tmp 16),none,0⟩])
 (.cond (.tmp 17)
 (.seq (.region 0 [] [
 ⟨(some 18),.faddr 0 (.tmp 3),none,0⟩,
 ⟨(some 19),.load none (.tmp 18),none,0⟩,
 ⟨(some 5),.mov (.tmp 19),none,0⟩])
 (.seq (.seq (.region 0 [] [
 ⟨(some 20),.faddr 1 (.tmp 3),none,0⟩,
 ⟨(some 21),.load none (.tmp 20),none,0⟩])
 (.cond (.tmp 21)
 (.region 0 [] [
 ⟨(some 22),.mov (.tmp 5),none,0⟩,
 ⟨(some 23),.mov (.tmp 5),none,0⟩,
 ⟨(some 24),.mov (.tmp 0),none,0⟩,
 ⟨(some 25),.nilchk (.tmp 24),none,0⟩,
 ⟨(some 26),.faddr 0 (.tmp 25),none,0⟩,
 ⟨(some 27),.faddr 7 (.tmp 26),none,0⟩,
 ⟨(some 28),.load none (.tmp 27),none,0⟩,
 ⟨(some 29),.bin .mul (.tmp 23) (.tmp 28),none,0⟩,
 ⟨(some 30),.bin .quo (.tmp 29) (.cst (.c (.int .i64 100))),none,0⟩,
 ⟨(some 31),.bin .sub (.tmp 22) (.tmp 30),none,0⟩,
 ⟨(some 5),.mov (.tmp 31),none,0⟩])
 .skip))
 (.region 0 [(0,4),(1,4),(2,4),(3,4),(0,5),(1,5),(2,5),(3,5),(4,5)] [
 ⟨(some 32),.mov (.tmp 0),none,0⟩,
 ⟨(some 33),.nilchk (.tmp 32),none,0⟩,
 ⟨(some 34),.faddr 9 (.tmp 33),none,0⟩,
 ⟨(some 35),.load none (.tmp 34),none,0⟩,
 ⟨(some 36),.load (some 2) (.tmp 3),none,0⟩,
 ⟨(some 37),.mov (.tmp 5),none,0⟩,
 ⟨none,.mapupd true false [(some .i64),none] (.tmp 35) (.tmp 36) (.tmp 37),none,0⟩])))
 .skip))
 (.seq (.region 0 [] [
 ⟨(some 38),.mov (.tmp 5),none,0⟩,
 ⟨(some 4),.mov (.tmp 38),none,0⟩])
 .ret))))⟩
def f77 : AFunc:=⟨8,[.cell 2 (some 2)],false,
 (.seq (.region 2 [] [
 ⟨(some 1),.box (.tmp 0),none,0⟩,
 ⟨(some 2),.alloc [(.int .i64 0),(.int .i64 0)],none,1⟩])
 (.seq (.region 0 [] [
 ⟨(some 3),.faddr 0 (.tmp 1),none,0⟩,
 ⟨(some 4),.load none (.tmp 3),none,0⟩,
 ⟨(some 5),.faddr 1 (.tmp 1),none,0⟩,
 ⟨(some 6),.load none (.tmp 5),none,0⟩,
 ⟨(some 7),.build [(.int .i64 0),(.int .i64 0)] [(0,1,(.tmp 4)),(1,1,(.tmp 6))],none,0⟩,
 ⟨none,.store (some 2) (.tmp 2) (.tmp 7),none,0⟩])
 .ret))⟩
def f78 : AFunc:=⟨5,[.tmp 2],false,
 (.seq (.region 0 [] [
 ⟨(some 2),.mov (.cst (.c .nils)),none,0⟩])
 (.seq (.region 1 [] [
 ⟨(some 3),.mov (.tmp 0),none,0⟩,
 ⟨(some 4),.append 1 8 (.cst (.c .nils)) (.tmp 3),none,0⟩,
 ⟨(some 2),.mov (.tmp 4),none,1⟩])
 .ret))⟩
def f79 : AFunc:=⟨19,[.tmp 4],true,
 (.seq (.region 2 [] [
 ⟨(some 2),.box (.tmp 0),none,0⟩,
 ⟨(some 3),.box (.tmp 1),none,1⟩,
 ⟨(some 4),.mov (.cst (.c (.bool false))),none,2⟩])
 (.seq (.region 0 [] [
 ⟨(some 5),.load (some 10) (.tmp 2),none,0⟩,
 ⟨(some 6),.faddr 0 (.tmp 3),none,0⟩,
 ⟨(some 7),.load none (.tmp 6),none,0⟩,
 ⟨(some 8),.call 109 true [(.tmp 5),(.tmp 7)],none,0⟩,
 ⟨(some 9),.mov (.tmp 8),none,0⟩,
 ⟨(some 10),.faddr 1 (.tmp 3),some (9,true),0⟩,
 ⟨(some 11),.load none (.tmp 10),some (9,true),0⟩,
 ⟨(some 12),.call 90 true [(.tmp 11),(.cst (.c (.int .i64 0))),(.cst (.c (.int .i64 1000)))],some (9,true),0⟩,
 ⟨(some 13),.pick (.tmp 9) (.tmp 12) (.cst (.c (.bool false))),none,0⟩,
 ⟨(some 14),.mov (.tmp 13),none,0⟩,
 ⟨(some 15),.faddr 2 (.tmp 3),some (14,true),0⟩,
 ⟨(some 16),.load none (.tmp 15),some (14,true),0⟩,
 ⟨(some 17),.call 90 true [(.tmp 16),(.cst (.c (.int .i64 0))),(.cst (.c (.int .i64 50)))],some (14,true),0⟩,
 ⟨(some 18),.pick (.tmp 14) (.tmp 17) (.cst (.c (.bool false))),none,0⟩,
 ⟨(some 4),.mov (.tmp 18),none,0⟩])
 .ret))⟩
def f80 : AFunc:=⟨33,[.tmp 2],false,
 (.seq (.region 1 [] [
 ⟨(some 1),.box (.tmp 0),none,0⟩,
 ⟨(some 2),.mov (.cst (.c (.bool false))),none,1⟩])
 (.seq (.region 0 [] [
 ⟨(some 3),.faddr 0 (.tmp 1),none,0⟩,
 ⟨(some 4),.load none (.tmp 3),none,0⟩,
 ⟨(some 5),.bin .geq (.tmp 4) (.cst (.c (.int .i64 0))),none,0⟩,
 ⟨(some 6),.mov (.tmp 5),none,0⟩,
 ⟨(some 7),.faddr 1 (.tmp 1),some (6,true),0⟩,
 ⟨(some 8),.load none (.tmp 7),some (6,true),0⟩,
 ⟨(some 9),.call 90 true [(.tmp 8),(.cst (.c (.int .i64 0))),(.cst (.c (.int .i64 20)))],some (6,true),0⟩,
 ⟨(some 10),.pick (.tmp 6) (.tmp 9) (.cst (.c (.bool false))),none,0⟩,
 ⟨(some 11),.mov (.tmp 10),none,0⟩,
 ⟨(some 12),.faddr 2 (.tmp 1),some (11,true),0⟩,
 ⟨(some 13),.load none (.tmp 12),some (11,true),0⟩,
 ⟨(some 14),.call 90 true [(.tmp 13),(.cst (.c (.int .i64 0))),(.cst (.c (.int .i64 100)))],some (11,true),0⟩,
 ⟨(some 15),.pick (.tmp 11) (.tmp 14) (.cst (.c (.bool false))),none,0⟩,
 ⟨(some 16),.mov (.tmp 15),none,0⟩,
 ⟨(some 17),.faddr 3 (.tmp 1),some (16,true),0⟩,
 ⟨(some 18),.load none (.tmp 17),some (16,true),0⟩,
 ⟨(some 19),.bin .geq (.tmp 18) (.cst (.c (.int .i64 0))),some (16,true),0⟩,
 ⟨(some 20),.pick (.tmp 16) (.tmp 19) (.cst (.c (.bool false))),none,0⟩,
 ⟨(some 21),.mov (.tmp 20),none,0⟩,
 ⟨(some 22),.faddr 4 (.tmp 1),some (21,true),0⟩,
 ⟨(some 23),.load none (.tmp 22),some (21,true),0⟩,
 ⟨(some 24),.faddr 3 (.tmp 1),some (21,true),0⟩,
 ⟨(some 25),.load none (.tmp 24),some (21,true),0⟩,
 ⟨(some 26),.call 90 true [(.tmp 23),(.tmp 25),(.cst (.c (.int .i64 500)))],some (21,true),0⟩,
 ⟨(some 27),.pick (.tmp 21) (.tmp 26) (.cst (.c (.bool false))),none,0⟩,
 ⟨(some 28),.mov (.tmp 27),none,0⟩,
 ⟨(some 29),.faddr 5 (.tmp 1),some (28,true),0⟩,
 ⟨(some 30),.load (some 2) (.tmp 29),some (28,true),0⟩,
 ⟨(some 31),.call 110 true [(.tmp 30),(.cst (.c (.int .i64 500)))],some (28,true),0⟩,
 ⟨(some 32),.pick (.tmp 28) (.tmp 31) (.cst (.c (.bool false))),none,0⟩,
 ⟨(some 2),.mov (.tmp 32),none,0⟩])
 .ret))⟩
def f81 : AFunc:=⟨9,[.tmp 4],false,
 (.seq (.region 1 [] [
 ⟨(some 3),.box (.tmp 1),none,0⟩,
 ⟨(some 4),.mov (.cst (.c (.bool false))),none,1⟩])
 (.seq (.region 0 [] [
 ⟨(some 5),.mov (.tmp 0),none,0⟩,
 ⟨(some 6),.mkfn 112 none [(.tmp 3)],none,0⟩,
 ⟨(some 7),.call 111 false [(.tmp 5),(.tmp 6)],none,0⟩,
 ⟨(some 8),.not (.tmp 7),none,0⟩,
 ⟨(some 4),.mov (.tmp 8),none,0⟩])
 .ret))⟩
def f82 : AFunc:=⟨5,[.tmp 2],true,
 (.seq (.region 1 [] [
 ⟨(some 1),.box (.tmp 0),none,0⟩,
 ⟨(some 2),.mov (.cst (.c (.bool false))),none,1⟩])
 (.seq (.region 0 [] [
 ⟨(some 3),.load (some 2) (.tmp 1),none,0⟩,
 ⟨(some 4),.call 110 true [(.tmp 3),(.cst (.c (.int .i64 20)))],none,0⟩,
 ⟨(some 2),.mov (.tmp 4),none,0⟩])
 .ret))⟩
def f83 : AFunc:=⟨9,[.tmp 4],false,
 (.seq (.region 1 [] [
 ⟨(some 3),.box (.tmp 1),none,0⟩,
 ⟨(some 4),.mov (.cst (.c (.bool false))),none,1⟩])
 (.seq (.region 0 [] [
 ⟨(some 5),.mov (.tmp 0),none,0⟩,
 ⟨(some 6),.mkfn 114 none [(.tmp 3)],none,0⟩,
 ⟨(some 7),.call 113 false [(.tmp 5),(.tmp 6)],none,0⟩,
 ⟨(some 8),.not (.tmp 7),none,0⟩,
 ⟨(some 4),.mov (.tmp 8),none,0⟩])
 .ret))⟩
def f84 : AFunc:=⟨9,[.tmp 2],false,
 (.seq (.region 1 [] [
 ⟨(some 1),.box (.tmp 0),none,0⟩,
 ⟨(some 2),.mov (.cst (.c .nils)),none,1⟩])
 (.seq (.region 2 [] [
 ⟨(some 3),.faddr 5 (.tmp 1),none,0⟩,
 ⟨(some 4),.load (some 2) (.tmp 3),none,0⟩,
 ⟨(some 5),.bslice 2 1 [(.int .i64 0),(.int .i64 0)] [(0,(.tmp 4))],none,0⟩,
 ⟨(some 6),.faddr 7 (.tmp 1),none,1⟩,
 ⟨(some 7),.load none (.tmp 6),none,1⟩,
 ⟨(some 8),.append 2 16 (.tmp 5) (.tmp 7),none,1⟩,
 ⟨(some 2),.mov (.tmp 8),none,2⟩])
 .ret))⟩
def f85 : AFunc:=⟨5,[.tmp 2],false,
 (.seq (.region 0 [] [
 ⟨(some 2),.mov (.cst (.c (.int .i64 0))),none,0⟩])
 (.seq (.region 0 [] [
 ⟨(some 3),.mov (.tmp 0),none,0⟩,
 ⟨(some 4),.call 107 true [(.tmp 3)],none,0⟩,
 ⟨(some 2),.mov (.tmp 4),none,0⟩])
 .ret))⟩
def f86 : AFunc:=⟨9,[.tmp 2],false,
 (.seq (.region 1 [] [
 ⟨(some 1),.box (.tmp 0),none,0⟩,
 ⟨(some 2),.mov (.cst (.c (.int .i64 0))),none,1⟩])
 (.seq (.region 0 [] [
 ⟨(some 3),.faddr 1 (.tmp 1),none,0⟩,
 ⟨(some 4),.load none (.tmp 3),none,0⟩,
 ⟨(some 5),.faddr 0 (.tmp 1),none,0⟩,
 ⟨(some 6),.load none (.tmp 5),none,0⟩,
 ⟨(some 7),.bin .sub (.tmp 4) (.tmp 6),none,0⟩,
 ⟨(some 8),.bin .add (.tmp 7) (.cst (.c (.int .i64 1))),none,0⟩,
 ⟨(some 2),.mov (.tmp 8),none,0⟩])
 .ret))⟩
def f87 : AFunc:=⟨11,[.tmp 4],false,
 (.seq (.region 1 [] [
 ⟨(some 2),.box (.tmp 0),none,0⟩,
 ⟨(some 4),.mov (.cst (.c (.bool false))),none,1⟩])
 (.seq (.region 0 [] [
 ⟨(some 5),.mov (.tmp 1),none,0⟩,
 ⟨(some 6),.faddr 0 (.tmp 2),none,0⟩,
 ⟨(some 7),.load none (.tmp 6),none,0⟩,
 ⟨(some 8),.faddr 1 (.tmp 2),none,0⟩,
 ⟨(some 9),.load none (.tmp 8),none,0⟩,
 ⟨(some 10),.call 90 true [(.tmp 5),(.tmp 7),(.tmp 9)],none,0⟩,
 ⟨(some 4),.mov (.tmp 10),none,0⟩])
 .ret))⟩
def f88 : AFunc:=⟨9,[.tmp 4],false,
 (.seq (.region 1 [] [
 ⟨(some 3),.box (.tmp 1),none,0⟩,
 ⟨(some 4),.mov (.cst (.c (.bool false))),none,1⟩])
 (.seq (.region 0 [] [
 ⟨(some 5),.mov (.tmp 0),none,0⟩,
 ⟨(some 6),.mkfn 115 none [(.tmp 3)],none,0⟩,
 ⟨(some 7),.call 102 false [(.tmp 5),(.tmp 6)],none,0⟩,
 ⟨(some 8),.not (.tmp 7),none,0⟩,
 ⟨(some 4),.mov (.tmp 8),none,0⟩])
 .ret))⟩
def f89 : AFunc:=⟨14,[.tmp 4],false,
 (.seq (.region 0 [] [
 ⟨(some 4),.mov (.cst (.c (.bool false))),none,0⟩])
 (.seq (.region 0 [] [
 ⟨(some 6),.mov (.tmp 0),none,0⟩,
 ⟨(some 7),.load none (.tmp 1),none,0⟩,
 ⟨(some 8),.bin .add (.tmp 7) (.cst (.c (.int .i64 1))),none,0⟩,
 ⟨(some 9),.faddr 0 (.tmp 2),none,0⟩,
 ⟨(some 10),.load none (.tmp 9),none,0⟩,
 ⟨(some 11),.call 90 true [(.tmp 6),(.tmp 8),(.tmp 10)],none,0⟩,
 ⟨(some 5),.mov (.tmp 11),none,0⟩])
 (.seq (.region 0 [] [
 ⟨(some 12),.mov (.tmp 0),none,0⟩,
 ⟨none,.store none (.tmp 1) (.tmp 12),none,0⟩])
 (.seq (.region 0 [] [
 ⟨(some 13),.mov (.tmp 5),none,0⟩,
 ⟨(some 4),.mov (.tmp 13),none,0⟩])
 .ret))))⟩
def f90 : AFunc:=⟨15,[.tmp 6],false,
 (.seq (.region 0 [] [
 ⟨(some 6),.mov (.cst (.c (.bool false))),none,0⟩])
 (.seq (.region 0 [] [
 ⟨(some 7),.mov (.tmp 1),none,0⟩,
 ⟨(some 8),.mov (.tmp 0),none,0⟩,
 ⟨(some 9),.bin .leq (.tmp 7) (.tmp 8),none,0⟩,
 ⟨(some 10),.mov (.tmp 9),none,0⟩,
 ⟨(some 11),.mov (.tmp 0),some (10,true),0⟩,
 ⟨(some 12),.mov (.tmp 2),some (10,true),0⟩,
 ⟨(some 13),.bin .leq (.tmp 11) (.tmp 12),some (10,true),0⟩,
 ⟨(some 14),.pick (.tmp 10) (.tmp 13) (.cst (.c (.bool false))),none,0⟩,
 ⟨(some 6),.mov (.tmp 14),none,0⟩])
 .ret))⟩
def f91 : AFunc:=⟨39,[.tmp 4],false,
 (.seq (.region 1 [] [
 ⟨(some 3),.box (.tmp 1),none,0⟩,
 ⟨(some 4),.mov (.cst (.c (.int .i64 0))),none,1⟩])
 (.seq (.region 0 [(0,4),(1,4),(2,4),(3,4),(7,8),(8,9)] [
 ⟨(some 8),.mov (.tmp 0),none,0⟩,
 ⟨(some 9),.nilchk (.tmp 8),none,0⟩,
 ⟨(some 10),.faddr 10 (.tmp 9),none,0⟩,
 ⟨(some 11),.load none (.tmp 10),none,0⟩,
 ⟨(some 12),.load (some 2) (.tmp 3),none,0⟩,
 ⟨(some 13),.lookup true false [(some .i64),none] (.c (.int .i64 0)) true (.tmp 11) (.tmp 12),none,0⟩,
 ⟨(some 7),.mov (.tmp 13),none,0⟩,
 ⟨(some 14),.extract 0 (.tmp 7),none,0⟩,
 ⟨(some 15),.extract 1 (.tmp 7),none,0⟩,
 ⟨(some 5),.mov (.tmp 14),none,0⟩,
 ⟨(some 6),.mov (.tmp 15),none,0⟩])
 (.seq (.seq (.region 0 [] [
 ⟨(some 16),.mov (.tmp 6),none,0⟩,
 ⟨(some 17),.not (.tmp 16),none,0⟩])
 (.cond (.tmp 17)
 (.seq (.region 0 [] [
 ⟨(some 18),.faddr 0 (.tmp 3),none,0⟩,
 ⟨(some 19),.load none (.tmp 18),none,0⟩,
 ⟨(some 5),.mov (.tmp 19),none,0⟩])
 (.seq (.seq (.region 0 [] [
 ⟨(some 20),.faddr 1 (.tmp 3),none,0⟩,
 ⟨(some 21),.load none (.tmp 20),none,0⟩])
 (.cond (.tmp 21)
 (.region 0 [] [
 ⟨(some 22),.mov (.tmp 5),none,0⟩,
 ⟨(some 23),.mov (.tmp 5),none,0⟩,
 ⟨(some 24),.mov (.tmp 0),none,0⟩,
 ⟨(some 25),.nilchk (.tmp 24),none,0⟩,
 ⟨(some 26),.faddr 0 (.tmp 25),none,0⟩,
 ⟨(some 27),.faddr 2 (.tmp 26),none,0⟩,
 ⟨(some 28),.load none (.tmp 27),none,0⟩,
 ⟨(some 29),.bin .mul (.tmp 23) (.tmp 28),none,0⟩,
 ⟨(some 30),.bin .quo (.tmp 29) (.cst (.c (.int .i64 100))),none,0⟩,
 ⟨(some 31),.bin .sub (.tmp 22) (.tmp 30),none,0⟩,
 ⟨(some 5),.mov (.tmp 31),none,0⟩])
 .skip))
 (.region 0 [(0,4),(1,4),(2,4),(3,4),(0,5),(1,5),(2,5),(3,5),(4,5)] [
 ⟨(some 32),.mov (.tmp 0),none,0⟩,
 ⟨(some 33),.nilchk (.tmp 32),none,0⟩,
 ⟨(some 34),.faddr 10 (.tmp 33),none,0⟩,
 ⟨(some 35),.load none (.tmp 34),none,0⟩,
 ⟨(some 36),.load (some 2) (.tmp 3),none,0⟩,
 ⟨(some 37),.mov (.tmp 5),none,0⟩,
 ⟨none,.mapupd true false [(some .i64),none] (.tmp 35) (.tmp 36) (.tmp 37),none,0⟩])))
 .skip))
 (.seq (.region 0 [] [
 ⟨(some 38),.mov (.tmp 5),none,0⟩,
 ⟨(some 4),.mov (.tmp 38),none,0⟩])
 .ret))))⟩
def f92 : AFunc:=⟨9,[.tmp 4],false,
 (.seq (.region 0 [] [
 ⟨(some 4),.mov (.cst (.c (.bool false))),none,0⟩])
 (.seq (.region 0 [] [
 ⟨(some 5),.mov (.tmp 0),none,0⟩,
 ⟨(some 6),.mov (.tmp 1),none,0⟩,
 ⟨(some 7),.call 116 true [(.tmp 5),(.tmp 6)],none,0⟩,
 ⟨(some 8),.bin .geq (.tmp 7) (.cst (.c (.int .i64 0))),none,0⟩,
 ⟨(some 4),.mov (.tmp 8),none,0⟩])
 .ret))⟩
def f93 : AFunc:=⟨42,[.tmp 6],false,
 (.seq (.region 1 [] [
 ⟨(some 3),.box (.tmp 0),none,0⟩,
 ⟨(some 6),.mov (.cst (.c (.int .i64 0))),none,1⟩])
 (.seq (.region 0 [] [
 ⟨(some 7),.mov (.cst (.c (.int .i64 0))),none,0⟩])
 (.seq (.seq (.region 0 [] [
 ⟨(some 8),.mov (.cst (.c (.int .i64 0))),none,0⟩])
 (.block 0 (.loop ⟨[11,12,13,14,15,16,17,18,19,20,21,22,23,24,25,26,27],false,[]⟩
 (.seq (.seq (.region 0 [] [
 ⟨(some 11),.mov (.tmp 8),none,0⟩,
 ⟨(some 12),.mov (.tmp 1),none,0⟩,
 ⟨(some 13),.len (.tmp 12),none,0⟩,
 ⟨(some 14),.bin .lss (.tmp 11) (.tmp 13),none,0⟩])
 (.cond (.tmp 14)
 .skip
 (.exit 0)))
 (.seq (.block 1 (.seq (.region 0 [] [
 ⟨(some 17),.mov (.tmp 1),none,0⟩,
 ⟨(some 18),.mov (.tmp 8),none,0⟩,
 ⟨(some 19),.iaddr 1 (.tmp 17) (.tmp 18),none,0⟩,
 ⟨(some 20),.load none (.tmp 19),none,0⟩,
 ⟨(some 21),.mov (.tmp 2),none,0⟩,
 ⟨(some 22),.bin .lss (.tmp 20) (.tmp 21),none,0⟩])
 (.cond (.tmp 22)
 (.region 0 [] [
 ⟨(some 23),.mov (.tmp 1),none,0⟩,
 ⟨(some 24),.mov (.tmp 8),none,0⟩,
 ⟨(some 25),.iaddr 1 (.tmp 23) (.tmp 24),none,0⟩,
 ⟨(some 26),.load none (.tmp 25),none,0⟩,
 ⟨(some 27),.bin .add (.tmp 26) (.cst (.c (.int .i64 1))),none,0⟩,
 ⟨(some 7),.mov (.tmp 27),none,0⟩])
 .skip)))
 (.region 0 [] [
 ⟨(some 15),.mov (.tmp 8),none,0⟩,
 ⟨(some 16),.bin .add (.tmp 15) (.cst (.c (.int .i64 1))),none,0⟩,
 ⟨(some 8),.mov (.tmp 16),none,0⟩]))))))
 (.seq (.region 0 [] [
 ⟨(some 9),.mov (.cst (.c (.int .i64 0))),none,0⟩])
 (.seq (.seq (.region 0 [] [
 ⟨(some 28),.mov (.tmp 7),none,0⟩,
 ⟨(some 10),.mov (.tmp 28),none,0⟩])
 (.block 2 (.loop ⟨[29,30,31,32,33,34,35,36,37,38,39,40],false,[]⟩
 (.seq (.seq (.region 0 [] [
 ⟨(some 29),.mov (.tmp 10),none,0⟩,
 ⟨(some 30),.mov (.tmp 2),none,0⟩,
 ⟨(some 31),.bin .leq (.tmp 29) (.tmp 30),none,0⟩])
 (.cond (.tmp 31)
 .skip
 (.exit 2)))
 (.seq (.block 3 (.region 0 [] [
 ⟨(some 34),.mov (.tmp 9),none,0⟩,
 ⟨(some 35),.faddr 0 (.tmp 3),none,0⟩,
 ⟨(some 36),.load none (.tmp 35),none,0⟩,
 ⟨(some 37),.mov (.tmp 10),none,0⟩,
 ⟨(some 38),.iaddr 1 (.tmp 36) (.tmp 37),none,0⟩,
 ⟨(some 39),.load none (.tmp 38),none,0⟩,
 ⟨(some 40),.bin .add (.tmp 34) (.tmp 39),none,0⟩,
 ⟨(some 9),.mov (.tmp 40),none,0⟩]))
 (.region 0 [] [
 ⟨(some 32),.mov (.tmp 10),none,0⟩,
 ⟨(some 33),.bin .add (.tmp 32) (.cst (.c (.int .i64 1))),none,0⟩,
 ⟨(some 10),.mov (.tmp 33),none,0⟩]))))))
 (.seq (.region 0 [] [
 ⟨(some 41),.mov (.tmp 9),none,0⟩,
 ⟨(some 6),.mov (.tmp 41),none,0⟩])
 .ret))))))⟩
def f94 : AFunc:=⟨9,[.cell 4 none],false,
 (.seq (.region 1 [] [
 ⟨(some 4),.alloc [(.bool false)],none,0⟩])
 (.seq (.seq (.region 0 [] [
 ⟨(some 5),.mov (.tmp 0),none,0⟩,
 ⟨(some 6),.mov (.tmp 1),none,0⟩,
 ⟨(some 7),.call 95 false [(.tmp 5),(.tmp 6)],none,0⟩])
 (.block 0 (.range (.tmp 7) [8]
 .skip
 (.block 1 (.seq (.region 0 [] [
 ⟨none,.store none (.tmp 4) (.cst (.c (.bool true))),none,0⟩])
 .ret)))))
 (.seq (.region 0 [] [
 ⟨none,.store none (.tmp 4) (.cst (.c (.bool false))),none,0⟩])
 .ret)))⟩
def f95 : AFunc:=⟨6,[.tmp 4],false,
 (.seq (.region 2 [] [
 ⟨(some 2),.box (.tmp 0),none,0⟩,
 ⟨(some 3),.box (.tmp 1),none,1⟩,
 ⟨(some 4),.mov (.cst (.c .nilfn)),none,2⟩])
 (.seq (.region 0 [] [
 ⟨(some 5),.mkfn 117 none [(.tmp 2),(.tmp 3)],none,0⟩,
 ⟨(some 4),.mov (.tmp 5),none,0⟩])
 .ret))⟩
def f96 : AFunc:=⟨15,[.cell 4 (some 2)],false,
 (.seq (.region 2 [] [
 ⟨(some 2),.box (.tmp 0),none,0⟩,
 ⟨(some 4),.alloc [(.int .i64 0),(.int .i64 0)],none,1⟩])
 (.seq (.region 1 [(0,2),(1,2),(0,5),(1,5),(2,5),(3,5),(4,5),(0,6),(1,6),(2,6),(3,6),(4,6),(0,7),(1,7),(2,7),(3,7),(4,7),(5,7),(6,7),(0,8),(1,8),(2,8),(3,8),(4,8)] [
 ⟨(some 5),.faddr 0 (.tmp 2),none,0⟩,
 ⟨(some 6),.load none (.tmp 5),none,0⟩,
 ⟨(some 7),.mov (.tmp 1),none,0⟩,
 ⟨(some 8),.bslice 1 2 [(.int .i64 0)] [(0,(.tmp 6)),(1,(.tmp 7))],none,0⟩,
 ⟨(some 9),.call 69 true [(.tmp 8)],none,1⟩,
 ⟨(some 10),.faddr 1 (.tmp 2),none,1⟩,
 ⟨(some 11),.load none (.tmp 10),none,1⟩,
 ⟨(some 12),.mov (.tmp 1),none,1⟩,
 ⟨(some 13),.mm true (.tmp 11) (.tmp 12),none,1⟩,
 ⟨(some 14),.build [(.int .i64 0),(.int .i64 0)] [(0,1,(.tmp 9)),(1,1,(.tmp 13))],none,1⟩,
 ⟨none,.store (some 2) (.tmp 4) (.tmp 14),none,1⟩])
 .ret))⟩
def f97 : AFunc:=⟨9,[.tmp 4],false,
 (.seq (.region 1 [] [
 ⟨(some 2),.box (.tmp 0),none,0⟩,
 ⟨(some 4),.mov (.cst (.c (.bool false))),none,1⟩])
 (.seq (.region 0 [] [
 ⟨(some 5),.mov (.tmp 1),none,0⟩,
 ⟨(some 6),.faddr 0 (.tmp 2),none,0⟩,
 ⟨(some 7),.load none (.tmp 6),none,0⟩,
 ⟨(some 8),.call 74 true [(.tmp 5),(.cst (.c (.int .i64 0))),(.tmp 7)],none,0⟩,
 ⟨(some 4),.mov (.tmp 8),none,0⟩])
 .ret))⟩
def f98 : AFunc:=⟨21,[.tmp 4],false,
 (.seq (.region 1 [] [
 ⟨(some 2),.box (.tmp 0),none,0⟩,
 ⟨(some 4),.mov (.cst (.c (.bool false))),none,1⟩])
 (.seq (.region 0 [] [
 ⟨(some 5),.faddr 0 (.tmp 2),none,0⟩,
 ⟨(some 6),.load none (.tmp 5),none,0⟩,
 ⟨(some 7),.bin .leq (.cst (.c (.int .i64 0))) (.tmp 6),none,0⟩,
 ⟨(some 8),.mov (.tmp 7),none,0⟩,
 ⟨(some 9),.faddr 0 (.tmp 2),some (8,true),0⟩,
 ⟨(some 10),.load none (.tmp 9),some (8,true),0⟩,
 ⟨(some 11),.faddr 1 (.tmp 2),some (8,true),0⟩,
 ⟨(some 12),.load none (.tmp 11),some (8,true),0⟩,
 ⟨(some 13),.bin .leq (.tmp 10) (.tmp 12),some (8,true),0⟩,
 ⟨(some 14),.pick (.tmp 8) (.tmp 13) (.cst (.c (.bool false))),none,0⟩,
 ⟨(some 15),.mov (.tmp 14),none,0⟩,
 ⟨(some 16),.faddr 1 (.tmp 2),some (15,true),0⟩,
 ⟨(some 17),.load none (.tmp 16),some (15,true),0⟩,
 ⟨(some 18),.mov (.tmp 1),some (15,true),0⟩,
 ⟨(some 19),.bin .leq (.tmp 17) (.tmp 18),some (15,true),0⟩,
 ⟨(some 20),.pick (.tmp 15) (.tmp 19) (.cst (.c (.bool false))),none,0⟩,
 ⟨(some 4),.mov (.tmp 20),none,0⟩])
 .ret))⟩
def f99 : AFunc:=⟨10,[.tmp 3],false,
 (.seq (.region 0 [] [
 ⟨(some 3),.mov (.cst (.c (.bool false))),none,0⟩])
 (.seq (.region 0 [] [
 ⟨(some 5),.mov (.tmp 0),none,0⟩,
 ⟨(some 6),.load none (.tmp 1),none,0⟩,
 ⟨(some 7),.call 74 true [(.tmp 5),(.cst (.c (.int .i64 0))),(.tmp 6)],none,0⟩,
 ⟨(some 4),.mov (.tmp 7),none,0⟩])
 (.seq (.region 0 [] [
 ⟨(some 8),.mov (.tmp 0),none,0⟩,
 ⟨none,.store none (.tmp 1) (.tmp 8),none,0⟩])
 (.seq (.region 0 [] [
 ⟨(some 9),.mov (.tmp 4),none,0⟩,
 ⟨(some 3),.mov (.tmp 9),none,0⟩])
 .ret))))⟩
def f100 : AFunc:=⟨9,[.tmp 4],false,
 (.seq (.region 0 [] [
 ⟨(some 4),.mov (.cst (.c (.bool false))),none,0⟩])
 (.seq (.region 0 [] [
 ⟨(some 5),.mov (.tmp 0),none,0⟩,
 ⟨(some 6),.mov (.tmp 1),none,0⟩,
 ⟨(some 7),.call 119 false [(.tmp 5),(.tmp 6)],none,0⟩,
 ⟨(some 8),.bin .geq (.tmp 7) (.cst (.c (.int .i64 0))),none,0⟩,
 ⟨(some 4),.mov (.tmp 8),none,0⟩])
 .ret))⟩
def f101 : AFunc:=⟨8,[.tmp 3],true,
 (.seq (.region 1 [] [
 ⟨(some 2),.box (.tmp 0),none,0⟩,
 ⟨(some 3),.mov (.cst (.c (.bool false))),none,1⟩])
 (.seq (.region 0 [] [
 ⟨(some 4),.load none (.tmp 1),none,0⟩,
 ⟨(some 5),.load (some 2) (.tmp 2),none,0⟩,
 ⟨(some 6),.callv (.tmp 4) [(.tmp 5)],none,0⟩,
 ⟨(some 7),.not (.tmp 6),none,0⟩,
 ⟨(some 3),.mov (.tmp 7),none,0⟩])
 .ret))⟩
def f102 : AFunc:=⟨9,[.tmp 4],false,
 (.seq (.region 0 [] [
 ⟨(some 4),.mov (.cst (.c (.bool false))),none,0⟩])
 (.seq (.region 0 [] [
 ⟨(some 5),.mov (.tmp 0),none,0⟩,
 ⟨(some 6),.mov (.tmp 1),none,0⟩,
 ⟨(some 7),.call 120 false [(.tmp 5),(.tmp 6)],none,0⟩,
 ⟨(some 8),.bin .geq (.tmp 7) (.cst (.c (.int .i64 0))),none,0⟩,
 ⟨(some 4),.mov (.tmp 8),none,0⟩])
 .ret))⟩
def f103 : AFunc:=⟨8,[.tmp 3],false,
 (.seq (.region 0 [] [
 ⟨(some 3),.mov (.cst (.c (.bool false))),none,0⟩])
 (.seq (.region 0 [] [
 ⟨(some 4),.load none (.tmp 1),none,0⟩,
 ⟨(some 5),.mov (.tmp 0),none,0⟩,
 ⟨(some 6),.callv (.tmp 4) [(.tmp 5)],none,0⟩,
 ⟨(some 7),.not (.tmp 6),none,0⟩,
 ⟨(some 3),.mov (.tmp 7),none,0⟩])
 .ret))⟩
def f104 : AFunc:=⟨9,[.tmp 4],false,
 (.seq (.region 0 [] [
 ⟨(some 4),.mov (.cst (.c (.bool false))),none,0⟩])
 (.seq (.region 0 [] [
 ⟨(some 5),.mov (.tmp 0),none,0⟩,
 ⟨(some 6),.mov (.tmp 1),none,0⟩,
 ⟨(some 7),.call 121 false [(.tmp 5),(.tmp 6)],none,0⟩,
 ⟨(some 8),.bin .geq (.tmp 7) (.cst (.c (.int .i64 0))),none,0⟩,
 ⟨(some 4),.mov (.tmp 8),none,0⟩])
 .ret))⟩
def f105 : AFunc:=⟨8,[.tmp 3],true,
 (.seq (.region 1 [] [
 ⟨(some 2),.box (.tmp 0),none,0⟩,
 ⟨(some 3),.mov (.cst (.c (.bool false))),none,1⟩])
 (.seq (.region 0 [] [
 ⟨(some 4),.load none (.tmp 1),none,0⟩,
 ⟨(some 5),.load (some 3) (.tmp 2),none,0⟩,
 ⟨(some 6),.callv (.tmp 4) [(.tmp 5)],none,0⟩,
 ⟨(some 7),.not (.tmp 6),none,0⟩,
 ⟨(some 3),.mov (.tmp 7),none,0⟩])
 .ret))⟩
def f106 : AFunc:=⟨8,[.tmp 2],false,
 (.seq (.region 0 [] [
 ⟨(some 2),.mov (.cst (.c .nils)),none,0⟩])
 (.seq (.seq (.region 0 [] [
 ⟨(some 3),.mov (.tmp 0),none,0⟩,
 ⟨(some 4),.isnil false (.tmp 3),none,0⟩])
 (.cond (.tmp 4)
 (.seq (.region 0 [] [
 ⟨(some 2),.mov (.cst (.c .nils)),none,0⟩])
 .ret)
 .skip))
 (.seq (.region 2 [] [
 ⟨(some 5),.bslice 2 0 [(.int .i64 0),(.int .i64 0)] [],none,0⟩,
 ⟨(some 6),.mov (.tmp 0),none,1⟩,
 ⟨(some 7),.append 2 16 (.tmp 5) (.tmp 6),none,1⟩,
 ⟨(some 2),.mov (.tmp 7),none,2⟩])
 .ret)))⟩
def f107 : AFunc:=⟨25,[.tmp 2],false,
 (.seq (.region 0 [] [
 ⟨(some 2),.mov (.cst (.c (.int .i64 0))),none,0⟩])
 (.seq (.seq (.region 0 [] [
 ⟨(some 5),.mov (.tmp 0),none,0⟩,
 ⟨(some 6),.len (.tmp 5),none,0⟩,
 ⟨(some 7),.bin .lss (.tmp 6) (.cst (.c (.int .i64 1))),none,0⟩])
 (.cond (.tmp 7)
 (.region 0 [] [
 ⟨(some 8),.pick (.cst (.c .any)) (.cst (.c .any)) (.cst (.c .any)),none,0⟩,
 ⟨none,.pick (.cst (.c .any)) (.cst (.c .any)) (.cst (.c .any)),none,0⟩])
 .skip))
 (.seq (.region 0 [] [
 ⟨(some 9),.mov (.tmp 0),none,0⟩,
 ⟨(some 10),.iaddr 1 (.tmp 9) (.cst (.c (.int .i64 0))),none,0⟩,
 ⟨(some 11),.load none (.tmp 10),none,0⟩,
 ⟨(some 3),.mov (.tmp 11),none,0⟩])
 (.seq (.seq (.region 0 [] [
 ⟨(some 4),.mov (.cst (.c (.int .i64 1))),none,0⟩])
 (.block 0 (.loop ⟨[12,13,14,15,16,17,18,19,20,21,22,23],false,[]⟩
 (.seq (.seq (.region 0 [] [
 ⟨(some 12),.mov (.tmp 4),none,0⟩,
 ⟨(some 13),.mov (.tmp 0),none,0⟩,
 ⟨(some 14),.len (.tmp 13),none,0⟩,
 ⟨(some 15),.bin .lss (.tmp 12) (.tmp 14),none,0⟩])
 (.cond (.tmp 15)
 .skip
 (.exit 0)))
 (.seq (.block 1 (.region 0 [] [
 ⟨(some 18),.mov (.tmp 3),none,0⟩,
 ⟨(some 19),.mov (.tmp 0),none,0⟩,
 ⟨(some 20),.mov (.tmp 4),none,0⟩,
 ⟨(some 21),.iaddr 1 (.tmp 19) (.tmp 20),none,0⟩,
 ⟨(some 22),.load none (.tmp 21),none,0⟩,
 ⟨(some 23),.mm false (.tmp 18) (.tmp 22),none,0⟩,
 ⟨(some 3),.mov (.tmp 23),none,0⟩]))
 (.region 0 [] [
 ⟨(some 16),.mov (.tmp 4),none,0⟩,
 ⟨(some 17),.bin .add (.tmp 16) (.cst (.c (.int .i64 1))),none,0⟩,
 ⟨(some 4),.mov (.tmp 17),none,0⟩]))))))
 (.seq (.region 0 [] [
 ⟨(some 24),.mov (.tmp 3),none,0⟩,
 ⟨(some 2),.mov (.tmp 24),none,0⟩])
 .ret)))))⟩
def f109 : AFunc:=⟨9,[.tmp 4],false,
 (.seq (.region 1 [] [
 ⟨(some 2),.box (.tmp 0),none,0⟩,
 ⟨(some 4),.mov (.cst (.c (.bool false))),none,1⟩])
 (.seq (.region 0 [] [
 ⟨(some 5),.mov (.tmp 1),none,0⟩,
 ⟨(some 6),.faddr 0 (.tmp 2),none,0⟩,
 ⟨(some 7),.load none (.tmp 6),none,0⟩,
 ⟨(some 8),.call 90 true [(.tmp 5),(.cst (.c (.int .i64 0))),(.tmp 7)],none,0⟩,
 ⟨(some 4),.mov (.tmp 8),none,0⟩])
 .ret))⟩
def f110 : AFunc:=⟨21,[.tmp 4],false,
 (.seq (.region 1 [] [
 ⟨(some 2),.box (.tmp 0),none,0⟩,
 ⟨(some 4),.mov (.cst (.c (.bool false))),none,1⟩])
 (.seq (.region 0 [] [
 ⟨(some 5),.faddr 0 (.tmp 2),none,0⟩,
 ⟨(some 6),.load none (.tmp 5),none,0⟩,
 ⟨(some 7),.bin .leq (.cst (.c (.int .i64 0))) (.tmp 6),none,0⟩,
 ⟨(some 8),.mov (.tmp 7),none,0⟩,
 ⟨(some 9),.faddr 0 (.tmp 2),some (8,true),0⟩,
 ⟨(some 10),.load none (.tmp 9),some (8,true),0⟩,
 ⟨(some 11),.faddr 1 (.tmp 2),some (8,true),0⟩,
 ⟨(some 12),.load none (.tmp 11),some (8,true),0⟩,
 ⟨(some 13),.bin .leq (.tmp 10) (.tmp 12),some (8,true),0⟩,
 ⟨(some 14),.pick (.tmp 8) (.tmp 13) (.cst (.c (.bool false))),none,0⟩,
 ⟨(some 15),.mov (.tmp 14),none,0⟩,
 ⟨(some 16),.faddr 1 (.tmp 2),some (15,true),0⟩,
 ⟨(some 17),.load none (.tmp 16),some (15,true),0⟩,
 ⟨(some 18),.mov (.tmp 1),some (15,true),0⟩,
 ⟨(some 19),.bin .leq (.tmp 17) (.tmp 18),some (15,true),0⟩,
 ⟨(some 20),.pick (.tmp 15) (.tmp 19) (.cst (.c (.bool false))),none,0⟩,
 ⟨(some 4),.mov (.tmp 20),none,0⟩])
 .ret))⟩
def f111 : AFunc:=⟨9,[.tmp 4],false,
 (.seq (.region 0 [] [
 ⟨(some 4),.mov (.cst (.c (.bool false))),none,0⟩])
 (.seq (.region 0 [] [
 ⟨(some 5),.mov (.tmp 0),none,0⟩,
 ⟨(some 6),.mov (.tmp 1),none,0⟩,
 ⟨(some 7),.call 122 false [(.tmp 5),(.tmp 6)],none,0⟩,
 ⟨(some 8),.bin .geq (.tmp 7) (.cst (.c (.int .i64 0))),none,0⟩,
 ⟨(some 4),.mov (.tmp 8),none,0⟩])
 .ret))⟩
def f112 : AFunc:=⟨8,[.tmp 3],true,
 (.seq (.region 1 [] [
 ⟨(some 2),.box (.tmp 0),none,0⟩,
 ⟨(some 3),.mov (.cst (.c (.bool false))),none,1⟩])
 (.seq (.region 0 [] [
 ⟨(some 4),.load none (.tmp 1),none,0⟩,
 ⟨(some 5),.load (some 2) (.tmp 2),none,0⟩,
 ⟨(some 6),.callv (.tmp 4) [(.tmp 5)],none,0⟩,
 ⟨(some 7),.not (.tmp 6),none,0⟩,
 ⟨(some 3),.mov (.tmp 7),none,0⟩])
 .ret))⟩
def f113 : AFunc:=⟨9,[.tmp 4],false,
 (.seq (.region 0 [] [
 ⟨(some 4),.mov (.cst (.c (.bool false))),none,0⟩])
 (.seq (.region 0 [] [
 ⟨(some 5),.mov (.tmp 0),none,0⟩,
 ⟨(some 6),.mov (.tmp 1),none,0⟩,
 ⟨(some 7),.call 123 false [(.tmp 5),(.tmp 6)],none,0⟩,
 ⟨(some 8),.bin .geq (.tmp 7) (.cst (.c (.int .i64 0))),none,0⟩,
 ⟨(some 4),.mov (.tmp 8),none,0⟩])
 .ret))⟩
def f114 : AFunc:=⟨8,[.tmp 3],true,
 (.seq (.region 1 [] [
 ⟨(some 2),.box (.tmp 0),none,0⟩,
 ⟨(some 3),.mov (.cst (.c (.bool false))),none,1⟩])
 (.seq (.region 0 [] [
 ⟨(some 4),.load none (.tmp 1),none,0⟩,
 ⟨(some 5),.load (some 3) (.tmp 2),none,0⟩,
 ⟨(some 6),.callv (.tmp 4) [(.tmp 5)],none,0⟩,
 ⟨(some 7),.not (.tmp 6),none,0⟩,
 ⟨(some 3),.mov (.tmp 7),none,0⟩])
 .ret))⟩
def f115 : AFunc:=⟨8,[.tmp 3],false,
 (.seq (.region 0 [] [
 ⟨(some 3),.mov (.cst (.c (.bool false))),none,0⟩])
 (.seq (.region 0 [] [
 ⟨(some 4),.load none (.tmp 1),none,0⟩,
 ⟨(some 5),.mov (.tmp 0),none,0⟩,
 ⟨(some 6),.callv (.tmp 4) [(.tmp 5)],none,0⟩,
 ⟨(some 7),.not (.tmp 6),none,0⟩,
 ⟨(some 3),.mov (.tmp 7),none,0⟩])
 .ret))⟩
def f116 : AFunc:=⟨19,[.tmp 4],false,
 (.seq (.region 0 [] [
 ⟨(some 4),.mov (.cst (.c (.int .i64 0))),none,0⟩])
 (.seq (.seq (.region 0 [] [
 ⟨(some 6),.mov (.tmp 0),none,0⟩,
 ⟨(some 7),.len (.tmp 6),none,0⟩,
 ⟨(some 8),.mov (.cst (.c (.int .i64 0))),none,0⟩])
 (.block 0 (.loop ⟨[4,5,9,10,11,12,13,14,15,16,17,18],false,[]⟩
 (.seq (.region 0 [] [
 ⟨(some 9),.bin .lss (.tmp 8) (.tmp 7),none,0⟩])
 (.seq (.cond (.tmp 9)
 .skip
 (.exit 0))
 (.seq (.block 1 (.seq (.region 0 [] [
 ⟨(some 10),.mov (.tmp 8),none,0⟩,
 ⟨(some 5),.mov (.tmp 10),none,0⟩])
 (.seq (.region 0 [] [
 ⟨(some 11),.mov (.tmp 1),none,0⟩,
 ⟨(some 12),.mov (.tmp 0),none,0⟩,
 ⟨(some 13),.mov (.tmp 5),none,0⟩,
 ⟨(some 14),.iaddr 1 (.tmp 12) (.tmp 13),none,0⟩,
 ⟨(some 15),.load none (.tmp 14),none,0⟩,
 ⟨(some 16),.bin .eql (.tmp 11) (.tmp 15),none,0⟩])
 (.cond (.tmp 16)
 (.seq (.region 0 [] [
 ⟨(some 17),.mov (.tmp 5),none,0⟩,
 ⟨(some 4),.mov (.tmp 17),none,0⟩])
 .ret)
 .skip))))
 (.region 0 [] [
 ⟨(some 18),.bin .add (.tmp 8) (.cst (.c (.int .i64 1))),none,0⟩,
 ⟨(some 8),.mov (.tmp 18),none,0⟩])))))))
 (.seq (.region 0 [] [
 ⟨(some 4),.mov (.cst (.c (.int .i64 (-1)))),none,0⟩])
 .ret)))⟩
def f117 : AFunc:=⟨83,[],false,
 (.seq (.region 1 [] [
 ⟨(some 3),.box (.tmp 0),none,0⟩])
 (.seq (.region 1 [] [
 ⟨(some 4),.alloc [(.int .i64 0),(.int .i64 0),(.int .i64 0),(.int .i64 0),(.int .i64 0),(.int .i64 0),(.int .i64 0),(.int .i64 0),(.int .i64 0),(.int .i64 0)],none,0⟩])
 (.seq (.region 1 [] [
 ⟨(some 5),.alloc [(.bool false)],none,0⟩,
 ⟨none,.store none (.tmp 5) (.cst (.c (.bool false))),none,1⟩])
 (.seq (.region 1 [] [
 ⟨(some 6),.alloc [(.bool false)],none,0⟩,
 ⟨none,.store none (.tmp 6) (.cst (.c (.bool true))),none,1⟩])
 (.seq (.region 0 [] [
 ⟨(some 12),.load none (.tmp 1),none,0⟩,
 ⟨(some 13),.nilchk (.tmp 12),none,0⟩,
 ⟨(some 14),.faddr 0 (.tmp 13),none,0⟩,
 ⟨(some 15),.load (some 9) (.tmp 14),none,0⟩,
 ⟨(some 16),.call 68 true [(.tmp 15)],none,0⟩,
 ⟨(some 17),.call 118 false [(.tmp 16)],none,0⟩])
 (.block 0 (.range (.tmp 17) [18]
 (.region 0 [] [
 ⟨(some 7),.mov (.tmp 18),none,0⟩])
 (.block 1 (.seq (.region 1 [(0,1),(0,2),(0,3),(0,4),(0,5),(0,7),(1,7),(2,7),(3,7),(4,7),(5,7),(6,7),(0,8),(1,8),(2,8),(3,8),(4,8),(5,8),(6,8),(7,8),(0,9),(1,9),(2,9),(3,9),(4,9),(5,9),(6,9),(7,9),(0,10),(1,10),(2,10),(3,10),(4,10),(5,10),(6,10),(7,10),(0,11),(1,11),(2,11),(3,11),(4,11),(5,11),(6,11),(7,11),(0,12),(6,12),(7,12),(0,13),(6,13),(0,15),(1,15),(2,15),(3,15),(4,15),(5,15),(6,15),(7,15),(8,15),(9,15),(10,15),(11,15),(12,15),(13,15),(14,15)] [
 ⟨(some 19),.mov (.tmp 7),none,0⟩,
 ⟨(some 20),.load none (.tmp 1),none,0⟩,
 ⟨(some 21),.nilchk (.tmp 20),none,0⟩,
 ⟨(some 22),.faddr 0 (.tmp 21),none,0⟩,
 ⟨(some 23),.load (some 9) (.tmp 22),none,0⟩,
 ⟨(some 24),.call 61 true [(.tmp 23)],none,0⟩,
 ⟨(some 25),.slice 1 (.tmp 19) none (some (.tmp 24)),none,0⟩,
 ⟨(some 26),.mov (.tmp 7),none,0⟩,
 ⟨(some 27),.load none (.tmp 1),none,0⟩,
 ⟨(some 28),.nilchk (.tmp 27),none,0⟩,
 ⟨(some 29),.faddr 0 (.tmp 28),none,0⟩,
 ⟨(some 30),.load (some 9) (.tmp 29),none,0⟩,
 ⟨(some 31),.call 61 true [(.tmp 30)],none,0⟩,
 ⟨(some 32),.slice 1 (.tmp 26) (some (.tmp 31)) none,none,0⟩,
 ⟨(some 33),.build [.nils,.nils] [(0,1,(.tmp 25)),(1,1,(.tmp 32))],none,0⟩,
 ⟨(some 8),.alloc [.nils,.nils],none,0⟩,
 ⟨none,.store (some 2) (.tmp 8) (.tmp 33),none,1⟩])
 (.seq (.seq (.region 1 [(0,1),(0,2),(1,2),(0,3),(1,3),(0,4),(1,4),(0,5),(1,5),(0,6),(1,6),(0,8),(1,8),(2,8),(3,8),(4,8),(5,8),(6,8),(7,8)] [
 ⟨(some 34),.load none (.tmp 1),none,0⟩,
 ⟨(some 35),.load (some 2) (.tmp 8),none,0⟩,
 ⟨(some 36),.load none (.tmp 1),none,0⟩,
 ⟨(some 37),.nilchk (.tmp 36),none,0⟩,
 ⟨(some 38),.faddr 0 (.tmp 37),none,0⟩,
 ⟨(some 39),.faddr 4 (.tmp 38),none,0⟩,
 ⟨(some 40),.load none (.tmp 39),none,0⟩,
 ⟨(some 41),.call 75 true [(.tmp 34),(.tmp 35),(.tmp 40)],none,0⟩,
 ⟨(some 9),.alloc [(.int .i64 0),(.int .i64 0),(.int .i64 0),(.int .i64 0),(.int .i64 0),(.int .i64 0),(.int .i64 0),(.int .i64 0),(.int .i64 0),(.int .i64 0)],none,0⟩,
 ⟨none,.store (some 10) (.tmp 9) (.tmp 41),none,1⟩])
 (.seq (.region 0 [] [
 ⟨(some 42),.load none (.tmp 6),none,0⟩,
 ⟨(some 43),.mov (.tmp 42),none,0⟩,
 ⟨(some 44),.load (some 10) (.tmp 9),some (43,false),0⟩,
 ⟨(some 45),.load (some 10) (.tmp 4),some (43,false),0⟩,
 ⟨(some 46),.eqA true [(some .i64),(some .i64),(some .i64),(some .i64),(some .i64),(some .i64),(some .i64),(some .i64),(some .i64),(some .i64)] (.tmp 44) (.tmp 45),some (43,false),0⟩,
 ⟨(some 47),.pick (.tmp 43) (.cst (.c (.bool true))) (.tmp 46),none,0⟩])
 (.cond (.tmp 47)
 (.seq (.region 0 [(0,1)] [
 ⟨(some 48),.load (some 10) (.tmp 9),none,0⟩,
 ⟨none,.store none (.tmp 6) (.cst (.c (.bool false))),none,0⟩,
 ⟨none,.store (some 10) (.tmp 4) (.tmp 48),none,0⟩,
 ⟨none,.store none (.tmp 5) (.cst (.c (.bool true))),none,0⟩])
 (.seq (.region 0 [] [
 ⟨(some 49),.load none (.tmp 1),none,0⟩,
 ⟨(some 50),.nilchk (.tmp 49),none,0⟩,
 ⟨(some 51),.faddr 0 (.tmp 50),none,0⟩,
 ⟨(some 52),.faddr 8 (.tmp 51),none,0⟩,
 ⟨(some 53),.load none (.tmp 52),none,0⟩,
 ⟨(some 54),.len (.tmp 53),none,0⟩,
 ⟨(some 55),.mov (.cst (.c (.int .i64 0))),none,0⟩])
 (.block 2 (.loop ⟨[10,11,56,57,58,59,60,61,62,63,64,65,66,67,68,69,70,71,72,73,74,75],false,[]⟩
 (.seq (.region 0 [] [
 ⟨(some 56),.bin .lss (.tmp 55) (.tmp 54),none,0⟩])
 (.seq (.cond (.tmp 56)
 .skip
 (.exit 2))
 (.seq (.block 3 (.seq (.region 1 [] [
 ⟨(some 57),.mov (.tmp 55),none,0⟩,
 ⟨(some 58),.iaddr 3 (.tmp 53) (.tmp 55),none,0⟩,
 ⟨(some 59),.load (some 3) (.tmp 58),none,0⟩,
 ⟨(some 11),.alloc [(.int .i64 0),(.int .i64 0),(.int .i64 0)],none,0⟩,
 ⟨(some 10),.mov (.tmp 57),none,1⟩,
 ⟨none,.store (some 3) (.tmp 11) (.tmp 59),none,1⟩])
 (.region 0 [(2,3),(6,8),(7,8),(6,9),(7,9),(6,10),(7,10),(6,11),(7,11)] [
 ⟨(some 60),.load none (.tmp 5),none,0⟩,
 ⟨(some 61),.mov (.tmp 60),none,0⟩,
 ⟨(some 62),.load none (.tmp 2),some (61,true),0⟩,
 ⟨(some 63),.mov (.tmp 10),some (61,true),0⟩,
 ⟨(some 64),.call 92 true [(.tmp 62),(.tmp 63)],some (61,true),0⟩,
 ⟨(some 65),.mov (.tmp 64),some (61,true),0⟩,
 ⟨(some 66),.faddr 1 (.tmp 11),some (65,false),0⟩,
 ⟨(some 67),.load (some 2) (.tmp 66),some (65,false),0⟩,
 ⟨(some 68),.faddr 0 (.tmp 11),some (65,false),0⟩,
 ⟨(some 69),.load none (.tmp 68),some (65,false),0⟩,
 ⟨(some 70),.iaddrA 10 1 (.tmp 9) (.tmp 69),some (65,false),0⟩,
 ⟨(some 71),.load none (.tmp 70),some (65,false),0⟩,
 ⟨(some 72),.call 72 true [(.tmp 67),(.tmp 71)],some (65,false),0⟩,
 ⟨(some 73),.pick (.tmp 65) (.cst (.c (.bool true))) (.tmp 72),some (61,true),0⟩,
 ⟨(some 74),.pick (.tmp 61) (.tmp 73) (.cst (.c (.bool false))),none,0⟩,
 ⟨none,.store none (.tmp 5) (.tmp 74),none,0⟩])))
 (.region 0 [] [
 ⟨(some 75),.bin .add (.tmp 55) (.cst (.c (.int .i64 1))),none,0⟩,
 ⟨(some 55),.mov (.tmp 75),none,0⟩]))))))))
 .skip)))
 (.seq (.region 0 [] [
 ⟨(some 76),.load none (.tmp 5),none,0⟩,
 ⟨(some 77),.mov (.tmp 76),none,0⟩,
 ⟨(some 78),.load none (.tmp 3),some (77,true),0⟩,
 ⟨(some 79),.load (some 2) (.tmp 8),some (77,true),0⟩,
 ⟨(some 80),.callv (.tmp 78) [(.tmp 79)],some (77,true),0⟩,
 ⟨(some 81),.not (.tmp 80),some (77,true),0⟩,
 ⟨(some 82),.pick (.tmp 77) (.tmp 81) (.cst (.c (.bool false))),none,0⟩])
 (.cond (.tmp 82)
 .ret
 .skip))))))))))))⟩
def f118 : AFunc:=⟨4,[.tmp 2],false,
 (.seq (.region 1 [] [
 ⟨(some 1),.box (.tmp 0),none,0⟩,
 ⟨(some 2),.mov (.cst (.c .nilfn)),none,1⟩])
 (.seq (.region 0 [] [
 ⟨(some 3),.mkfn 124 none [(.tmp 1)],none,0⟩,
 ⟨(some 2),.mov (.tmp 3),none,0⟩])
 .ret))⟩
def f119 : AFunc:=⟨19,[.tmp 4],false,
 (.seq (.region 0 [] [
 ⟨(some 4),.mov (.cst (.c (.int .i64 0))),none,0⟩])
 (.seq (.seq (.region 0 [] [
 ⟨(some 6),.mov (.tmp 0),none,0⟩,
 ⟨(some 7),.len (.tmp 6),none,0⟩,
 ⟨(some 8),.mov (.cst (.c (.int .i64 0))),none,0⟩])
 (.block 0 (.loop ⟨[4,5,9,10,11,12,13,14,15,16,17,18],false,[]⟩
 (.seq (.region 0 [] [
 ⟨(some 9),.bin .lss (.tmp 8) (.tmp 7),none,0⟩])
 (.seq (.cond (.tmp 9)
 .skip
 (.exit 0))
 (.seq (.block 1 (.seq (.region 0 [] [
 ⟨(some 10),.mov (.tmp 8),none,0⟩,
 ⟨(some 5),.mov (.tmp 10),none,0⟩])
 (.seq (.region 0 [] [
 ⟨(some 11),.mov (.tmp 1),none,0⟩,
 ⟨(some 12),.mov (.tmp 0),none,0⟩,
 ⟨(some 13),.mov (.tmp 5),none,0⟩,
 ⟨(some 14),.iaddr 2 (.tmp 12) (.tmp 13),none,0⟩,
 ⟨(some 15),.load (some 2) (.tmp 14),none,0⟩,
 ⟨(some 16),.callv (.tmp 11) [(.tmp 15)],none,0⟩])
 (.cond (.tmp 16)
 (.seq (.region 0 [] [
 ⟨(some 17),.mov (.tmp 5),none,0⟩,
 ⟨(some 4),.mov (.tmp 17),none,0⟩])
 .ret)
 .skip))))
 (.region 0 [] [
 ⟨(some 18),.bin .add (.tmp 8) (.cst (.c (.int .i64 1))),none,0⟩,
 ⟨(some 8),.mov (.tmp 18),none,0⟩])))))))
 (.seq (.region 0 [] [
 ⟨(some 4),.mov (.cst (.c (.int .i64 (-1)))),none,0⟩])
 .ret)))⟩
def f120 : AFunc:=⟨19,[.tmp 4],false,
 (.seq (.region 0 [] [
 ⟨(some 4),.mov (.cst (.c (.int .i64 0))),none,0⟩])
 (.seq (.seq (.region 0 [] [
 ⟨(some 6),.mov (.tmp 0),none,0⟩,
 ⟨(some 7),.len (.tmp 6),none,0⟩,
 ⟨(some 8),.mov (.cst (.c (.int .i64 0))),none,0⟩])
 (.block 0 (.loop ⟨[4,5,9,10,11,12,13,14,15,16,17,18],false,[]⟩
 (.seq (.region 0 [] [
 ⟨(some 9),.bin .lss (.tmp 8) (.tmp 7),none,0⟩])
 (.seq (.cond (.tmp 9)
 .skip
 (.exit 0))
 (.seq (.block 1 (.seq (.region 0 [] [
 ⟨(some 10),.mov (.tmp 8),none,0⟩,
 ⟨(some 5),.mov (.tmp 10),none,0⟩])
 (.seq (.region 0 [] [
 ⟨(some 11),.mov (.tmp 1),none,0⟩,
 ⟨(some 12),.mov (.tmp 0),none,0⟩,
 ⟨(some 13),.mov (.tmp 5),none,0⟩,
 ⟨(some 14),.iaddr 1 (.tmp 12) (.tmp 13),none,0⟩,
 ⟨(some 15),.load none (.tmp 14),none,0⟩,
 ⟨(some 16),.callv (.tmp 11) [(.tmp 15)],none,0⟩])
 (.cond (.tmp 16)
 (.seq (.region 0 [] [
 ⟨(some 17),.mov (.tmp 5),none,0⟩,
 ⟨(some 4),.mov (.tmp 17),none,0⟩])
 .ret)
 .skip))))
 (.region 0 [] [
 ⟨(some 18),.bin .add (.tmp 8) (.cst (.c (.int .i64 1))),none,0⟩,
 ⟨(some 8),.mov (.tmp 18),none,0⟩])))))))
 (.seq (.region 0 [] [
 ⟨(some 4),.mov (.cst (.c (.int .i64 (-1)))),none,0⟩])
 .ret)))⟩
def f121 : AFunc:=⟨19,[.tmp 4],false,
 (.seq (.region 0 [] [
 ⟨(some 4),.mov (.cst (.c (.int .i64 0))),none,0⟩])
 (.seq (.seq (.region 0 [] [
 ⟨(some 6),.mov (.tmp 0),none,0⟩,
 ⟨(some 7),.len (.tmp 6),none,0⟩,
 ⟨(some 8),.mov (.cst (.c (.int .i64 0))),none,0⟩])
 (.block 0 (.loop ⟨[4,5,9,10,11,12,13,14,15,16,17,18],false,[]⟩
 (.seq (.region 0 [] [
 ⟨(some 9),.bin .lss (.tmp 8) (.tmp 7),none,0⟩])
 (.seq (.cond (.tmp 9)
 .skip
 (.exit 0))
 (.seq (.block 1 (.seq (.region 0 [] [
 ⟨(some 10),.mov (.tmp 8),none,0⟩,
 ⟨(some 5),.mov (.tmp 10),none,0⟩])
 (.seq (.region 0 [] [
 ⟨(some 11),.mov (.tmp 1),none,0⟩,
 ⟨(some 12),.mov (.tmp 0),none,0⟩,
 ⟨(some 13),.mov (.tmp 5),none,0⟩,
 ⟨(some 14),.iaddr 3 (.tmp 12) (.tmp 13),none,0⟩,
 ⟨(some 15),.load (some 3) (.tmp 14),none,0⟩,
 ⟨(some 16),.callv (.tmp 11) [(.tmp 15)],none,0⟩])
 (.cond (.tmp 16)
 (.seq (.region 0 [] [
 ⟨(some 17),.mov (.tmp 5),none,0⟩,
 ⟨(some 4),.mov (.tmp 17),none,0⟩])
 .ret)
 .skip))))
 (.region 0 [] [
 ⟨(some 18),.bin .add (.tmp 8) (.cst (.c (.int .i64 1))),none,0⟩,
 ⟨(some 8),.mov (.tmp 18),none,0⟩])))))))
 (.seq (.region 0 [] [
 ⟨(some 4),.mov (.cst (.c (.int .i64 (-1)))),none,0⟩])
 .ret)))⟩
def f122 : AFunc:=⟨19,[.tmp 4],false,
 (.seq (.region 0 [] [
 ⟨(some 4),.mov (.cst (.c (.int .i64 0))),none,0⟩])
 (.seq (.seq (.region 0 [] [
 ⟨(some 6),.mov (.tmp 0),none,0⟩,
 ⟨(some 7),.len (.tmp 6),none,0⟩,
 ⟨(some 8),.mov (.cst (.c (.int .i64 0))),none,0⟩])
 (.block 0 (.loop ⟨[4,5,9,10,11,12,13,14,15,16,17,18],false,[]⟩
 (.seq (.region 0 [] [
 ⟨(some 9),.bin .lss (.tmp 8) (.tmp 7),none,0⟩])
 (.seq (.cond (.tmp 9)
 .skip
 (.exit 0))
 (.seq (.block 1 (.seq (.region 0 [] [
 ⟨(some 10),.mov (.tmp 8),none,0⟩,
 ⟨(some 5),.mov (.tmp 10),none,0⟩])
 (.seq (.region 0 [] [
 ⟨(some 11),.mov (.tmp 1),none,0⟩,
 ⟨(some 12),.mov (.tmp 0),none,0⟩,
 ⟨(some 13),.mov (.tmp 5),none,0⟩,
 ⟨(some 14),.iaddr 2 (.tmp 12) (.tmp 13),none,0⟩,
 ⟨(some 15),.load (some 2) (.tmp 14),none,0⟩,
 ⟨(some 16),.callv (.tmp 11) [(.tmp 15)],none,0⟩])
 (.cond (.tmp 16)
 (.seq (.region 0 [] [
 ⟨(some 17),.mov (.tmp 5),none,0⟩,
 ⟨(some 4),.mov (.tmp 17),none,0⟩])
 .ret)
 .skip))))
 (.region 0 [] [
 ⟨(some 18),.bin .add (.tmp 8) (.cst (.c (.int .i64 1))),none,0⟩,
 ⟨(some 8),.mov (.tmp 18),none,0⟩])))))))
 (.seq (.region 0 [] [
 ⟨(some 4),.mov (.cst (.c (.int .i64 (-1)))),none,0⟩])
 .ret)))⟩
def f123 : AFunc:=⟨19,[.tmp 4],false,
 (.seq (.region 0 [] [
 ⟨(some 4),.mov (.cst (.c (.int .i64 0))),none,0⟩])
 (.seq (.seq (.region 0 [] [
 ⟨(some 6),.mov (.tmp 0),none,0⟩,
 ⟨(some 7),.len (.tmp 6),none,0⟩,
 ⟨(some 8),.mov (.cst (.c (.int .i64 0))),none,0⟩])
 (.block 0 (.loop ⟨[4,5,9,10,11,12,13,14,15,16,17,18],false,[]⟩
 (.seq (.region 0 [] [
 ⟨(some 9),.bin .lss (.tmp 8) (.tmp 7),none,0⟩])
 (.seq (.cond (.tmp 9)
 .skip
 (.exit 0))
 (.seq (.block 1 (.seq (.region 0 [] [
 ⟨(some 10),.mov (.tmp 8),none,0⟩,
 ⟨(some 5),.mov (.tmp 10),none,0⟩])
 (.seq (.region 0 [] [
 ⟨(some 11),.mov (.tmp 1),none,0⟩,
 ⟨(some 12),.mov (.tmp 0),none,0⟩,
 ⟨(some 13),.mov (.tmp 5),none,0⟩,
 ⟨(some 14),.iaddr 3 (.tmp 12) (.tmp 13),none,0⟩,
 ⟨(some 15),.load (some 3) (.tmp 14),none,0⟩,
 ⟨(some 16),.callv (.tmp 11) [(.tmp 15)],none,0⟩])
 (.cond (.tmp 16)
 (.seq (.region 0 [] [
 ⟨(some 17),.mov (.tmp 5),none,0⟩,
 ⟨(some 4),.mov (.tmp 17),none,0⟩])
 .ret)
 .skip))))
 (.region 0 [] [
 ⟨(some 18),.bin .add (.tmp 8) (.cst (.c (.int .i64 1))),none,0⟩,
 ⟨(some 8),.mov (.tmp 18),none,0⟩])))))))
 (.seq (.region 0 [] [
 ⟨(some 4),.mov (.cst (.c (.int .i64 (-1)))),none,0⟩])
 .ret)))⟩
def f124 : AFunc:=⟨11,[],false,
 (.seq (.region 1 [] [
 ⟨(some 2),.box (.tmp 0),none,0⟩])
 (.seq (.region 2 [] [
 ⟨(some 5),.load none (.tmp 1),none,0⟩,
 ⟨(some 6),.len (.tmp 5),none,0⟩,
 ⟨(some 7),.mkslice 1 8 [(.int .i64 0)] (.tmp 6),none,0⟩,
 ⟨(some 3),.alloc [.nils],none,1⟩,
 ⟨none,.store none (.tmp 3) (.tmp 7),none,2⟩])
 (.seq (.region 1 [] [
 ⟨(some 4),.alloc [.nilfn],none,0⟩])
 (.seq (.region 0 [] [
 ⟨(some 8),.mkfn 125 none [(.tmp 1),(.tmp 2),(.tmp 3),(.tmp 4)],none,0⟩,
 ⟨none,.store none (.tmp 4) (.tmp 8),none,0⟩])
 (.region 0 [] [
 ⟨(some 9),.load none (.tmp 4),none,0⟩,
 ⟨(some 10),.callv (.tmp 9) [(.cst (.c (.int .i64 0)))],none,0⟩])))))⟩
def f125 : AFunc:=⟨39,[.tmp 6],false,
 (.seq (.region 0 [] [
 ⟨(some 6),.mov (.cst (.c (.bool false))),none,0⟩])
 (.seq (.seq (.region 0 [] [
 ⟨(some 8),.mov (.tmp 0),none,0⟩,
 ⟨(some 9),.load none (.tmp 1),none,0⟩,
 ⟨(some 10),.len (.tmp 9),none,0⟩,
 ⟨(some 11),.bin .eql (.tmp 8) (.tmp 10),none,0⟩])
 (.cond (.tmp 11)
 (.seq (.region 0 [] [
 ⟨(some 12),.load none (.tmp 2),none,0⟩,
 ⟨(some 13),.load none (.tmp 3),none,0⟩,
 ⟨(some 14),.callv (.tmp 12) [(.tmp 13)],none,0⟩,
 ⟨(some 6),.mov (.tmp 14),none,0⟩])
 .ret)
 .skip))
 (.seq (.seq (.region 0 [] [
 ⟨(some 15),.load none (.tmp 1),none,0⟩,
 ⟨(some 16),.mov (.tmp 0),none,0⟩,
 ⟨(some 17),.iaddr 2 (.tmp 15) (.tmp 16),none,0⟩,
 ⟨(some 18),.load (some 2) (.tmp 17),none,0⟩,
 ⟨(some 19),.call 70 true [(.tmp 18)],none,0⟩,
 ⟨(some 20),.mov (.cst (.c (.int .i64 0))),none,0⟩])
 (.block 0 (.loop ⟨[6,7,21,22,23,24,25,26,27,28,29,30,31,32,33,34,35,36,37,38],false,[]⟩
 (.seq (.region 0 [] [
 ⟨(some 21),.bin .lss (.tmp 20) (.tmp 19),none,0⟩])
 (.seq (.cond (.tmp 21)
 .skip
 (.exit 0))
 (.seq (.block 1 (.seq (.region 0 [] [
 ⟨(some 22),.mov (.tmp 20),none,0⟩,
 ⟨(some 7),.mov (.tmp 22),none,0⟩])
 (.seq (.region 0 [(0,1),(0,2),(1,2),(0,3),(1,3),(2,3),(0,4),(1,4),(0,5),(1,5),(0,6),(1,6),(0,7),(1,7),(2,7),(3,7),(4,7),(5,7),(6,7),(0,8),(1,8)] [
 ⟨(some 23),.load none (.tmp 3),none,0⟩,
 ⟨(some 24),.mov (.tmp 0),none,0⟩,
 ⟨(some 25),.load none (.tmp 1),none,0⟩,
 ⟨(some 26),.mov (.tmp 0),none,0⟩,
 ⟨(some 27),.iaddr 2 (.tmp 25) (.tmp 26),none,0⟩,
 ⟨(some 28),.faddr 0 (.tmp 27),none,0⟩,
 ⟨(some 29),.load none (.tmp 28),none,0⟩,
 ⟨(some 30),.mov (.tmp 7),none,0⟩,
 ⟨(some 31),.bin .add (.tmp 29) (.tmp 30),none,0⟩,
 ⟨(some 32),.iaddr 1 (.tmp 23) (.tmp 24),none,0⟩,
 ⟨none,.store none (.tmp 32) (.tmp 31),none,0⟩])
 (.seq (.region 0 [] [
 ⟨(some 33),.load none (.tmp 4),none,0⟩,
 ⟨(some 34),.mov (.tmp 0),none,0⟩,
 ⟨(some 35),.bin .add (.tmp 34) (.cst (.c (.int .i64 1))),none,0⟩,
 ⟨(some 36),.callv (.tmp 33) [(.tmp 35)],none,0⟩,
 ⟨(some 37),.not (.tmp 36),none,0⟩])
 (.cond (.tmp 37)
 (.seq (.region 0 [] [
 ⟨(some 6),.mov (.cst (.c (.bool false))),none,0⟩])
 .ret)
 .skip)))))
 (.region 0 [] [
 ⟨(some 38),.bin .add (.tmp 20) (.cst (.c (.int .i64 1))),none,0⟩,
 ⟨(some 20),.mov (.tmp 38),none,0⟩])))))))
 (.seq (.region 0 [] [
 ⟨(some 6),.mov (.cst (.c (.bool true))),none,0⟩])
 .ret))))⟩
def tabL : List (Option AFunc):=[none,none,none,some f3,some f4,some f5,some f6,some f7,some f8,some f9,some f10,some f11,some f12,some f13,some f14,some f15,some f16,some f17,some f18,some f19,some f20,some f21,some f22,some f23,some f24,some f25,some f26,some f27,some f28,some f29,some f30,some f31,some f32,some f33,some f34,some f35,some f36,some f37,some f38,some f39,some f40,some f41,some f42,some f43,some f44,some f45,some f46,some f47,some f48,some f49,some f50,some f51,some f52,some f53,some f54,some f55,some f56,some f57,some f58,some f59,some f60,some f61,some f62,some f63,some f64,some f65,some f66,some f67,some f68,some f69,some f70,some f71,some f72,some f73,some f74,some f75,some f76,some f77,some f78,some f79,some f80,some f81,some f82,some f83,some f84,some f85,some f86,some f87,some f88,some f89,some f90,some f91,some f92,some f93,some f94,some f95,some f96,some f97,some f98,some f99,some f100,some f101,some f102,some f103,some f104,some f105,some f106,some f107,none,some f109,some f110,some f111,some f112,some f113,some f114,some f115,some f116,some f117,some f118,some f119,some f120,some f121,some f122,some f123,some f124,some f125,none,none,none,none,none,none,none,none,none,none,none,none,none,none,none,none,none,none]
def litL : List (Nat × Nat):=[(8,12),(8,13)]
def frzL : List (Nat × Nat × Nat):=[]
def tab (k:Nat):Option AFunc:=(nth tabL k).join
def annL : List (Nat × Nat × Ann):=[(5,0,⟨[2,73,74,75,76,77,78,79,80,81,82,83,84,85,86,87,88,89,90,91,92,93,94],false,[]⟩),(5,2,⟨[2,95,96,97,98,99,100,101,102,103,104,105,106,107,108,109,110,111,112,113,114,115,116,117,118,119,120,121,122,123,124,125,126],false,[]⟩),(5,4,⟨[2,127,128,129,130,131,132,133,134,135,136,137,138,139,140,141,142,143,144,145,146,147,148,149,150,151,152,153],false,[]⟩),(7,0,⟨[2,66,67,68,69,70,71,72,73,74,75,76,77,78,79],false,[]⟩),(7,2,⟨[2,5,80,81,82,83,84,85,86,87,88,89,90,91,92,93,94,95,96,97,98,99,100,101,102,103,104,105,106,107,108,109],true,[]⟩),(9,0,⟨[5,6,7,8,9,10,11,12,13,14,15,16,17,18,19,20,21],true,[(3,none,1)]⟩),(10,0,⟨[8,9,10,11,12,13,14,15,16,17,18,19,20,21,22,23,24,25,26],true,[(4,none,2)]⟩),(11,0,⟨[9,22,23,24,25,26,27,28,29,30,31,32,33,34,35,36,37,38,39,40,41,42,43,44,45],false,[(8,none,5)]⟩),(12,0,⟨[24,25,26,27,28,29,30,31,32,33,34,35,36,37,38,39,40,41],true,[(3,(some 1),2)]⟩),(12,2,⟨[42,43,44,45,46,47,48,49,50,51,52,53,54,55,56,57,58,59,60,61,62,63,64,65,66,67],true,[(3,(some 8),3)]⟩),(17,0,⟨[5,6,7,8,9,10,11,12,13,14,15,16,17,18,19,20,21,22,23,24,25,26,27],false,[]⟩),(19,0,⟨[4,6,7,8,9,10,11,12,13,14,15,16,17,18,19,20,21,22,23,24,25,26,27,28,29,30,31,32,33,34,35],false,[]⟩),(21,0,⟨[8,9,10,11,12,13,14,15,16,17,18,19,20,21,22,23],false,[]⟩),(24,0,⟨[4,6,7,8,9,10,11,12,13,14,15,16,17,18,19,20,21,22,23,24,25,26,27,28,29,30,31,32,33,34,35],false,[]⟩),(26,0,⟨[5,6,7,8,9,10,11,12,13,14,15,16,17,18,19,20,21,22,23,24,25,26,27,28,29,30,31,32,33,34,35,36,37,38],true,[(3,none,1)]⟩),(26,2,⟨[13,14,15,16,17,18,19,20,21,22,23,24,25,26,27,28,29,30,31,32,33,34],false,[]⟩),(28,0,⟨[7,8,9,10,11,12,13,14,15,16,17,18,19,20,21,22,23,24,25,26,27,28,29,30,31,32,33,34,35,36,37,38,39,40,41,42,43,44,45,46,47,48,49,50,51,52,53],true,[(5,(some 0),1),(5,(some 1),1)]⟩),(36,1,⟨[6,80,81,82,83,84,85,86,87,88,89],true,[]⟩),(37,0,⟨[4,6,7,32,33,34,35,36,37,38,39,40,41,42,43],true,[]⟩),(40,0,⟨[8,9,10,11,19,20,21,22,23,24,25,26,27,28,29,30,31,32,33,34,35,36,37,38,39,40,41,42,43,44,45,46,47,48,49,50,51],false,[(6,none,3)]⟩),(41,0,⟨[24,25,26,27,28,29,30,31,32,33,34,35,36,37,38,39,40,41],true,[(3,(some 7),2)]⟩),(41,2,⟨[6,42,43,44,45,46,47,48,49,50,51,52,53,54,55,56,57,58,59,60,61,62,63,64,65],true,[(3,(some 9),3)]⟩),(43,0,⟨[7,23,24,25,26,27,28,29,30,31,32,33,34,35,36,37,38,39,40,41,42,43,44,45,46,47,48,49,50],true,[(5,(some 1),1)]⟩),(47,1,⟨[6,55,56,57,58,59,60,61,62,63,64],true,[]⟩),(48,0,⟨[4,5,6,25,26,27,28,29,30,31,32,33,34,35,36,37],true,[]⟩),(51,0,⟨[8,9,16,17,18,19,20,21,22,23,24,25,26,27,28,29,30,31,32,33,34,35,36,37,38,39],false,[]⟩),(68,0,⟨[5,6,14,15,16,17,18,19,20,21,22,23,24,25,26,27],true,[(3,none,2)]⟩),(71,0,⟨[5,12,13,14,15,16,17,18,19,20,21,22],false,[]⟩),(71,2,⟨[8,28,29,30,31,32,33,34],true,[(6,none,1)]⟩),(75,0,⟨[8,9,14,15,16,17,18,19,20,21,22,23,24,25,26,27],false,[]⟩),(93,0,⟨[11,12,13,14,15,16,17,18,19,20,21,22,23,24,25,26,27],false,[]⟩),(93,2,⟨[29,30,31,32,33,34,35,36,37,38,39,40],false,[]⟩),(107,0,⟨[12,13,14,15,16,17,18,19,20,21,22,23],false,[]⟩),(116,0,⟨[4,5,9,10,11,12,13,14,15,16,17,18],false,[]⟩),(117,2,⟨[10,11,56,57,58,59,60,61,62,63,64,65,66,67,68,69,70,71,72,73,74,75],false,[]⟩),(119,0,⟨[4,5,9,10,11,12,13,14,15,16,17,18],false,[]⟩),(120,0,⟨[4,5,9,10,11,12,13,14,15,16,17,18],false,[]⟩),(121,0,⟨[4,5,9,10,11,12,13,14,15,16,17,18],false,[]⟩),(122,0,⟨[4,5,9,10,11,12,13,14,15,16,17,18],false,[]⟩),(123,0,⟨[4,5,9,10,11,12,13,14,15,16,17,18],false,[]⟩),(125,0,⟨[6,7,21,22,23,24,25,26,27,28,29,30,31,32,33,34,35,36,37,38],false,[]⟩)]
def dropL : List Nat:=[59,64,79,82,101,105,112,114]
def cloneL : List (Nat × Nat):=[(52,3),(106,62)]
def growL : List (Nat × Nat):=[(108,3)]
def pureL : List Nat:=[0,1,2,3,4,5,6,7,8,9,10,11,12,13,14,15,16,17,18,19,20,21,22,23,24,25,26,27,28,30,32,33,34,35,36,37,38,41,42,43,44,45,46,47,48,49,53,54,59,60,61,62,64,66,68,69,70,71,72,74,75,77,78,79,80,82,84,85,86,87,90,92,93,96,97,98,107,109,110,116,127,142]
def pinL : List (Nat × Nat × Nat × Bool):=[(99999,0,39,true)]
end Am.Tm
