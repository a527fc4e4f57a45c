/-
  A part of the proof: the texts MvTab of this seat, joined.
-/
import Derived.Test.YtgaifkhngaopgaaTabA
namespace Am.Mv
open Go Am
set_option maxRecDepth 100000
/-- 27 isatis/move.Best -/
def f27 : AFunc := ⟨22,[.tmp 2,.tmp 3,.tmp 4],false,
 (.seq (.region 1 [] [
 ⟨(some 1),.box (.tmp 0),none,0⟩,
 ⟨(some 2),.mov (.cst (.c .nils)),none,1⟩,
 ⟨(some 3),.mov (.cst (.c (.int .i64 0))),none,1⟩,
 ⟨(some 4),.mov (.cst (.c (.int .i64 0))),none,1⟩])
 (.seq (.seq (.region 0 [] [
 ⟨(some 7),.load (some 7) (.tmp 1),none,0⟩,
 ⟨(some 8),.call 22 true [(.tmp 7)],none,0⟩,
 ⟨(some 5),.mov (.tmp 8),none,0⟩])
 (.seq (.region 0 [] [
 ⟨(some 9),.mov (.tmp 5),none,0⟩,
 ⟨(some 10),.bin .neq (.tmp 9) (.cst (.c (.int .i64 0))),none,0⟩])
 (.cond (.tmp 10)
 (.seq (.region 0 [] [
 ⟨(some 11),.mov (.tmp 5),none,0⟩,
 ⟨(some 2),.mov (.cst (.c .nils)),none,0⟩,
 ⟨(some 3),.mov (.cst (.c (.int .i64 0))),none,0⟩,
 ⟨(some 4),.mov (.tmp 11),none,0⟩])
 .ret)
 .skip)))
 (.seq (.region 0 [] [
 ⟨(some 13),.load (some 7) (.tmp 1),none,0⟩,
 ⟨(some 14),.call 61 true [(.tmp 13),(.cst (.c (.int .i64 (-1))))],none,0⟩,
 ⟨(some 12),.mov (.tmp 14),none,0⟩,
 ⟨(some 15),.extract 0 (.tmp 12),none,0⟩,
 ⟨(some 16),.extract 1 (.tmp 12),none,0⟩,
 ⟨(some 17),.extract 2 (.tmp 12),none,0⟩,
 ⟨(some 2),.mov (.tmp 15),none,0⟩,
 ⟨(some 3),.mov (.tmp 16),none,0⟩,
 ⟨(some 6),.mov (.tmp 17),none,0⟩])
 (.seq (.seq (.region 0 [] [
 ⟨(some 18),.mov (.tmp 6),none,0⟩,
 ⟨(some 19),.not (.tmp 18),none,0⟩])
 (.cond (.tmp 19)
 (.seq (.region 0 [] [
 ⟨(some 2),.mov (.cst (.c .nils)),none,0⟩,
 ⟨(some 3),.mov (.cst (.c (.int .i64 0))),none,0⟩,
 ⟨(some 4),.mov (.cst (.c (.int .i64 10))),none,0⟩])
 .ret)
 .skip))
 (.seq (.region 0 [] [
 ⟨(some 20),.mov (.tmp 2),none,0⟩,
 ⟨(some 21),.mov (.tmp 3),none,0⟩,
 ⟨(some 2),.mov (.tmp 20),none,0⟩,
 ⟨(some 3),.mov (.tmp 21),none,0⟩,
 ⟨(some 4),.mov (.cst (.c (.int .i64 0))),none,0⟩])
 .ret)))))⟩
/-- 28 isatis/move.Late -/
def f28 : AFunc := ⟨21,[.tmp 2,.tmp 3],false,
 (.seq (.region 1 [] [
 ⟨(some 1),.box (.tmp 0),none,0⟩,
 ⟨(some 2),.mov (.cst (.c (.int .i64 0))),none,1⟩,
 ⟨(some 3),.mov (.cst (.c (.int .i64 0))),none,1⟩])
 (.seq (.region 1 [] [
 ⟨(some 9),.load (some 7) (.tmp 1),none,0⟩,
 ⟨(some 10),.call 27 true [(.tmp 9)],none,0⟩,
 ⟨(some 8),.mov (.tmp 10),none,0⟩,
 ⟨(some 11),.extract 0 (.tmp 8),none,0⟩,
 ⟨(some 12),.extract 1 (.tmp 8),none,0⟩,
 ⟨(some 13),.extract 2 (.tmp 8),none,0⟩,
 ⟨(some 5),.alloc [(.int .i64 0)],none,0⟩,
 ⟨(some 4),.mov (.tmp 11),none,1⟩,
 ⟨none,.store none (.tmp 5) (.tmp 12),none,1⟩,
 ⟨(some 6),.mov (.tmp 13),none,1⟩])
 (.seq (.seq (.region 0 [] [
 ⟨(some 14),.mov (.tmp 6),none,0⟩,
 ⟨(some 15),.bin .neq (.tmp 14) (.cst (.c (.int .i64 0))),none,0⟩])
 (.cond (.tmp 15)
 (.seq (.region 0 [] [
 ⟨(some 16),.mov (.tmp 6),none,0⟩,
 ⟨(some 2),.mov (.cst (.c (.int .i64 0))),none,0⟩,
 ⟨(some 3),.mov (.tmp 16),none,0⟩])
 .ret)
 .skip))
 (.seq (.region 1 [] [
 ⟨(some 7),.alloc [(.int .i64 0)],none,0⟩,
 ⟨none,.store none (.tmp 7) (.cst (.c (.int .i64 0))),none,1⟩])
 (.seq (.region 0 [] [
 ⟨(some 17),.load (some 7) (.tmp 1),none,0⟩,
 ⟨(some 18),.mkfn 63 none [(.tmp 1),(.tmp 5),(.tmp 7)],none,0⟩,
 ⟨(some 19),.call 62 false [(.tmp 17),(.cst (.c (.int .i64 (-1)))),(.tmp 18)],none,0⟩])
 (.seq (.region 0 [] [
 ⟨(some 20),.load none (.tmp 7),none,0⟩,
 ⟨(some 2),.mov (.tmp 20),none,0⟩,
 ⟨(some 3),.mov (.cst (.c (.int .i64 0))),none,0⟩])
 .ret))))))⟩
/-- 29 isatis/move.Worth -/
def f29 : AFunc := ⟨40,[.tmp 4,.tmp 5],false,
 (.seq (.region 1 [] [
 ⟨(some 2),.box (.tmp 0),none,0⟩,
 ⟨(some 4),.mov (.cst (.c (.int .i64 0))),none,1⟩,
 ⟨(some 5),.mov (.cst (.c (.int .i64 0))),none,1⟩])
 (.seq (.seq (.region 0 [] [
 ⟨(some 13),.load (some 7) (.tmp 2),none,0⟩,
 ⟨(some 14),.call 22 true [(.tmp 13)],none,0⟩,
 ⟨(some 6),.mov (.tmp 14),none,0⟩])
 (.seq (.region 0 [] [
 ⟨(some 15),.mov (.tmp 6),none,0⟩,
 ⟨(some 16),.bin .neq (.tmp 15) (.cst (.c (.int .i64 0))),none,0⟩])
 (.cond (.tmp 16)
 (.seq (.region 0 [] [
 ⟨(some 17),.mov (.tmp 6),none,0⟩,
 ⟨(some 4),.mov (.cst (.c (.int .i64 0))),none,0⟩,
 ⟨(some 5),.mov (.tmp 17),none,0⟩])
 .ret)
 .skip)))
 (.seq (.seq (.region 0 [] [
 ⟨(some 18),.load (some 7) (.tmp 2),none,0⟩,
 ⟨(some 19),.mov (.tmp 1),none,0⟩,
 ⟨(some 20),.call 55 true [(.tmp 18),(.tmp 19)],none,0⟩,
 ⟨(some 21),.not (.tmp 20),none,0⟩])
 (.cond (.tmp 21)
 (.seq (.region 0 [] [
 ⟨(some 4),.mov (.cst (.c (.int .i64 0))),none,0⟩,
 ⟨(some 5),.mov (.cst (.c (.int .i64 2))),none,0⟩])
 .ret)
 .skip))
 (.seq (.region 0 [] [
 ⟨(some 23),.load (some 7) (.tmp 2),none,0⟩,
 ⟨(some 24),.mov (.tmp 1),none,0⟩,
 ⟨(some 25),.call 61 true [(.tmp 23),(.tmp 24)],none,0⟩,
 ⟨(some 22),.mov (.tmp 25),none,0⟩,
 ⟨(some 26),.extract 0 (.tmp 22),none,0⟩,
 ⟨(some 27),.extract 1 (.tmp 22),none,0⟩,
 ⟨(some 28),.extract 2 (.tmp 22),none,0⟩,
 ⟨(some 7),.mov (.tmp 26),none,0⟩,
 ⟨(some 8),.mov (.tmp 27),none,0⟩,
 ⟨(some 9),.mov (.tmp 28),none,0⟩])
 (.seq (.seq (.region 0 [] [
 ⟨(some 29),.mov (.tmp 9),none,0⟩,
 ⟨(some 30),.not (.tmp 29),none,0⟩])
 (.cond (.tmp 30)
 (.seq (.region 0 [] [
 ⟨(some 4),.mov (.cst (.c (.int .i64 0))),none,0⟩,
 ⟨(some 5),.mov (.cst (.c (.int .i64 10))),none,0⟩])
 .ret)
 .skip))
 (.seq (.region 0 [] [
 ⟨(some 32),.load (some 7) (.tmp 2),none,0⟩,
 ⟨(some 33),.call 61 true [(.tmp 32),(.cst (.c (.int .i64 (-1))))],none,0⟩,
 ⟨(some 31),.mov (.tmp 33),none,0⟩,
 ⟨(some 34),.extract 0 (.tmp 31),none,0⟩,
 ⟨(some 35),.extract 1 (.tmp 31),none,0⟩,
 ⟨(some 36),.extract 2 (.tmp 31),none,0⟩,
 ⟨(some 10),.mov (.tmp 34),none,0⟩,
 ⟨(some 11),.mov (.tmp 35),none,0⟩,
 ⟨(some 12),.mov (.tmp 36),none,0⟩])
 (.seq (.region 0 [] [
 ⟨(some 37),.mov (.tmp 11),none,0⟩,
 ⟨(some 38),.mov (.tmp 8),none,0⟩,
 ⟨(some 39),.bin .sub (.tmp 37) (.tmp 38),none,0⟩,
 ⟨(some 4),.mov (.tmp 39),none,0⟩,
 ⟨(some 5),.mov (.cst (.c (.int .i64 0))),none,0⟩])
 .ret)))))))⟩
/-- 30 isatis/isatisref11.Best | loop 0 vars [8,9,10,11,12] kill 45 makes false -/
def f30 : AFunc := ⟨62,[.tmp 4,.tmp 5,.tmp 6,.tmp 7],false,
 (.seq (.region 1 [] [
 ⟨(some 2),.box (.tmp 0),none,0⟩,
 ⟨(some 4),.mov (.cst (.c .nils)),none,1⟩,
 ⟨(some 5),.mov (.cst (.c (.int .i64 0))),none,1⟩,
 ⟨(some 6),.mov (.cst (.c (.int .i64 0))),none,1⟩,
 ⟨(some 7),.mov (.cst (.c (.bool false))),none,1⟩])
 (.seq (.region 0 [] [
 ⟨(some 8),.mov (.cst (.c .nils)),none,0⟩])
 (.seq (.region 0 [] [
 ⟨(some 9),.mov (.cst (.c (.int .i64 0))),none,0⟩,
 ⟨(some 10),.mov (.cst (.c (.int .i64 0))),none,0⟩,
 ⟨(some 11),.mov (.cst (.c (.bool false))),none,0⟩])
 (.seq (.seq (.region 0 [] [
 ⟨(some 12),.mov (.cst (.c (.int .i64 0))),none,0⟩])
 (.block 0 (.loop ⟨[13,14,15,16,17,18,19,20,21,22,23,24,25,26,27,28,29,30,31,32,33,34,35,36,37,38,39,40,41,42,43,44,45,46,47,48,49,50,51,52,53,54,55,56,57],false,[]⟩
 (.seq (.seq (.region 0 [] [
 ⟨(some 17),.mov (.tmp 12),none,0⟩,
 ⟨(some 18),.load (some 7) (.tmp 2),none,0⟩,
 ⟨(some 19),.call 50 true [(.tmp 18)],none,0⟩,
 ⟨(some 20),.bin .lss (.tmp 17) (.tmp 19),none,0⟩])
 (.cond (.tmp 20)
 .skip
 (.exit 0)))
 (.seq (.block 1 (.seq (.region 0 [] [
 ⟨(some 23),.load (some 7) (.tmp 2),none,0⟩,
 ⟨(some 24),.mov (.tmp 12),none,0⟩,
 ⟨(some 25),.call 66 true [(.tmp 23),(.tmp 24)],none,0⟩,
 ⟨(some 13),.mov (.tmp 25),none,0⟩])
 (.seq (.seq (.region 0 [] [
 ⟨(some 26),.mov (.tmp 13),none,0⟩,
 ⟨(some 27),.mov (.tmp 1),none,0⟩,
 ⟨(some 28),.call 42 true [(.tmp 26),(.tmp 27)],none,0⟩])
 (.cond (.tmp 28)
 (.exit 1)
 .skip))
 (.seq (.region 0 [] [
 ⟨(some 30),.load (some 7) (.tmp 2),none,0⟩,
 ⟨(some 31),.mov (.tmp 13),none,0⟩,
 ⟨(some 32),.call 46 true [(.tmp 30),(.tmp 31)],none,0⟩,
 ⟨(some 29),.mov (.tmp 32),none,0⟩,
 ⟨(some 33),.extract 0 (.tmp 29),none,0⟩,
 ⟨(some 34),.extract 1 (.tmp 29),none,0⟩,
 ⟨(some 35),.extract 2 (.tmp 29),none,0⟩,
 ⟨(some 14),.mov (.tmp 33),none,0⟩,
 ⟨(some 15),.mov (.tmp 34),none,0⟩,
 ⟨(some 16),.mov (.tmp 35),none,0⟩])
 (.seq (.seq (.region 0 [] [
 ⟨(some 36),.mov (.tmp 16),none,0⟩,
 ⟨(some 37),.not (.tmp 36),none,0⟩])
 (.cond (.tmp 37)
 (.exit 1)
 .skip))
 (.seq (.region 0 [] [
 ⟨(some 38),.mov (.tmp 11),none,0⟩,
 ⟨(some 39),.not (.tmp 38),none,0⟩,
 ⟨(some 40),.mov (.tmp 39),none,0⟩,
 ⟨(some 41),.mov (.tmp 14),some (40,false),0⟩,
 ⟨(some 42),.mov (.tmp 9),some (40,false),0⟩,
 ⟨(some 43),.bin .gtr (.tmp 41) (.tmp 42),some (40,false),0⟩,
 ⟨(some 44),.pick (.tmp 40) (.cst (.c (.bool true))) (.tmp 43),none,0⟩])
 (.cond (.tmp 44)
 (.region 0 [] [
 ⟨(some 45),.mov (.tmp 13),none,0⟩,
 ⟨(some 46),.mov (.tmp 14),none,0⟩,
 ⟨(some 47),.load (some 7) (.tmp 2),none,0⟩,
 ⟨(some 48),.mov (.tmp 13),none,0⟩,
 ⟨(some 49),.call 44 true [(.tmp 47),(.tmp 48)],none,0⟩,
 ⟨(some 8),.mov (.tmp 45),none,0⟩,
 ⟨(some 9),.mov (.tmp 46),none,0⟩,
 ⟨(some 10),.mov (.tmp 49),none,0⟩,
 ⟨(some 11),.mov (.cst (.c (.bool true))),none,0⟩])
 (.seq (.region 0 [] [
 ⟨(some 50),.mov (.tmp 14),none,0⟩,
 ⟨(some 51),.mov (.tmp 9),none,0⟩,
 ⟨(some 52),.bin .eql (.tmp 50) (.tmp 51),none,0⟩])
 (.cond (.tmp 52)
 (.region 0 [] [
 ⟨(some 53),.mov (.tmp 10),none,0⟩,
 ⟨(some 54),.load (some 7) (.tmp 2),none,0⟩,
 ⟨(some 55),.mov (.tmp 13),none,0⟩,
 ⟨(some 56),.call 44 true [(.tmp 54),(.tmp 55)],none,0⟩,
 ⟨(some 57),.mm true (.tmp 53) (.tmp 56),none,0⟩,
 ⟨(some 10),.mov (.tmp 57),none,0⟩])
 .skip)))))))))
 (.region 0 [] [
 ⟨(some 21),.mov (.tmp 12),none,0⟩,
 ⟨(some 22),.bin .add (.tmp 21) (.cst (.c (.int .i64 1))),none,0⟩,
 ⟨(some 12),.mov (.tmp 22),none,0⟩]))))))
 (.seq (.region 0 [] [
 ⟨(some 58),.mov (.tmp 8),none,0⟩,
 ⟨(some 59),.mov (.tmp 9),none,0⟩,
 ⟨(some 60),.mov (.tmp 10),none,0⟩,
 ⟨(some 61),.mov (.tmp 11),none,0⟩,
 ⟨(some 4),.mov (.tmp 58),none,0⟩,
 ⟨(some 5),.mov (.tmp 59),none,0⟩,
 ⟨(some 6),.mov (.tmp 60),none,0⟩,
 ⟨(some 7),.mov (.tmp 61),none,0⟩])
 .ret)))))⟩
/-- 31 isatis/isatislaw11.same | loop 0 vars [5] kill 16 makes false -/
def f31 : AFunc := ⟨26,[.tmp 4],false,
 (.seq (.region 0 [] [
 ⟨(some 4),.mov (.cst (.c (.bool false))),none,0⟩])
 (.seq (.seq (.region 0 [] [
 ⟨(some 6),.mov (.tmp 0),none,0⟩,
 ⟨(some 7),.len (.tmp 6),none,0⟩,
 ⟨(some 8),.mov (.tmp 1),none,0⟩,
 ⟨(some 9),.len (.tmp 8),none,0⟩,
 ⟨(some 10),.bin .neq (.tmp 7) (.tmp 9),none,0⟩])
 (.cond (.tmp 10)
 (.seq (.region 0 [] [
 ⟨(some 4),.mov (.cst (.c (.bool false))),none,0⟩])
 .ret)
 .skip))
 (.seq (.seq (.region 0 [] [
 ⟨(some 5),.mov (.cst (.c (.int .i64 0))),none,0⟩])
 (.block 0 (.loop ⟨[4,11,12,13,14,15,16,17,18,19,20,21,22,23,24,25],false,[]⟩
 (.seq (.seq (.region 0 [] [
 ⟨(some 11),.mov (.tmp 5),none,0⟩,
 ⟨(some 12),.mov (.tmp 0),none,0⟩,
 ⟨(some 13),.len (.tmp 12),none,0⟩,
 ⟨(some 14),.bin .lss (.tmp 11) (.tmp 13),none,0⟩])
 (.cond (.tmp 14)
 .skip
 (.exit 0)))
 (.seq (.block 1 (.seq (.region 0 [(0,1),(0,4),(1,4),(2,4),(3,4),(0,5),(1,5),(2,5),(3,5),(4,5),(0,6),(1,6),(2,6),(3,6),(0,7),(1,7),(2,7),(3,7)] [
 ⟨(some 17),.mov (.tmp 0),none,0⟩,
 ⟨(some 18),.mov (.tmp 5),none,0⟩,
 ⟨(some 19),.iaddr 1 (.tmp 17) (.tmp 18),none,0⟩,
 ⟨(some 20),.load none (.tmp 19),none,0⟩,
 ⟨(some 21),.mov (.tmp 1),none,0⟩,
 ⟨(some 22),.mov (.tmp 5),none,0⟩,
 ⟨(some 23),.iaddr 1 (.tmp 21) (.tmp 22),none,0⟩,
 ⟨(some 24),.load none (.tmp 23),none,0⟩,
 ⟨(some 25),.bin .neq (.tmp 20) (.tmp 24),none,0⟩])
 (.cond (.tmp 25)
 (.seq (.region 0 [] [
 ⟨(some 4),.mov (.cst (.c (.bool false))),none,0⟩])
 .ret)
 .skip)))
 (.region 0 [] [
 ⟨(some 15),.mov (.tmp 5),none,0⟩,
 ⟨(some 16),.bin .add (.tmp 15) (.cst (.c (.int .i64 1))),none,0⟩,
 ⟨(some 5),.mov (.tmp 16),none,0⟩]))))))
 (.seq (.region 0 [] [
 ⟨(some 4),.mov (.cst (.c (.bool true))),none,0⟩])
 .ret))))⟩
/-- 32 isatis/isatisref11.In -/
def f32 : AFunc := ⟨15,[.tmp 6],false,
 (.seq (.region 0 [] [
 ⟨(some 6),.mov (.cst (.c (.bool false))),none,0⟩])
 (.seq (.region 0 [] [
 ⟨(some 7),.mov (.tmp 0),none,0⟩,
 ⟨(some 8),.mov (.tmp 1),none,0⟩,
 ⟨(some 9),.bin .geq (.tmp 7) (.tmp 8),none,0⟩,
 ⟨(some 10),.mov (.tmp 9),none,0⟩,
 ⟨(some 11),.mov (.tmp 0),some (10,true),0⟩,
 ⟨(some 12),.mov (.tmp 2),some (10,true),0⟩,
 ⟨(some 13),.bin .leq (.tmp 11) (.tmp 12),some (10,true),0⟩,
 ⟨(some 14),.pick (.tmp 10) (.tmp 13) (.cst (.c (.bool false))),none,0⟩,
 ⟨(some 6),.mov (.tmp 14),none,0⟩])
 .ret))⟩
/-- 33 isatis/move.Seen -/
def f33 : AFunc := ⟨15,[.tmp 2,.tmp 3],false,
 (.seq (.region 1 [] [
 ⟨(some 1),.box (.tmp 0),none,0⟩,
 ⟨(some 2),.mov (.cst (.c (.int .i64 0))),none,1⟩,
 ⟨(some 3),.mov (.cst (.c (.int .i64 0))),none,1⟩])
 (.seq (.region 0 [] [
 ⟨(some 8),.load (some 7) (.tmp 1),none,0⟩,
 ⟨(some 9),.call 34 true [(.tmp 8),(.cst (.c .nils)),(.cst (.c .nils))],none,0⟩,
 ⟨(some 7),.mov (.tmp 9),none,0⟩,
 ⟨(some 10),.extract 0 (.tmp 7),none,0⟩,
 ⟨(some 11),.extract 1 (.tmp 7),none,0⟩,
 ⟨(some 12),.extract 2 (.tmp 7),none,0⟩,
 ⟨(some 4),.mov (.tmp 10),none,0⟩,
 ⟨(some 5),.mov (.tmp 11),none,0⟩,
 ⟨(some 6),.mov (.tmp 12),none,0⟩])
 (.seq (.region 0 [] [
 ⟨(some 13),.mov (.tmp 5),none,0⟩,
 ⟨(some 14),.mov (.tmp 6),none,0⟩,
 ⟨(some 2),.mov (.tmp 13),none,0⟩,
 ⟨(some 3),.mov (.tmp 14),none,0⟩])
 .ret)))⟩
/-- 34 isatis/move.Go -/
def f34 : AFunc := ⟨73,[.tmp 6,.tmp 7,.tmp 8],false,
 (.seq (.region 1 [] [
 ⟨(some 3),.box (.tmp 0),none,0⟩,
 ⟨(some 6),.mov (.cst (.c (.int .i64 0))),none,1⟩,
 ⟨(some 7),.mov (.cst (.c (.int .i64 0))),none,1⟩,
 ⟨(some 8),.mov (.cst (.c (.int .i64 0))),none,1⟩])
 (.seq (.seq (.region 0 [] [
 ⟨(some 15),.load (some 7) (.tmp 3),none,0⟩,
 ⟨(some 16),.call 22 true [(.tmp 15)],none,0⟩,
 ⟨(some 9),.mov (.tmp 16),none,0⟩])
 (.seq (.region 0 [] [
 ⟨(some 17),.mov (.tmp 9),none,0⟩,
 ⟨(some 18),.bin .neq (.tmp 17) (.cst (.c (.int .i64 0))),none,0⟩])
 (.cond (.tmp 18)
 (.seq (.region 0 [] [
 ⟨(some 19),.mov (.tmp 9),none,0⟩,
 ⟨(some 6),.mov (.cst (.c (.int .i64 0))),none,0⟩,
 ⟨(some 7),.mov (.cst (.c (.int .i64 0))),none,0⟩,
 ⟨(some 8),.mov (.tmp 19),none,0⟩])
 .ret)
 .skip)))
 (.seq (.region 0 [] [
 ⟨(some 20),.load (some 7) (.tmp 3),none,0⟩,
 ⟨(some 21),.mkfn 55 (some (.tmp 20)) [],none,0⟩,
 ⟨(some 10),.mov (.tmp 21),none,0⟩])
 (.seq (.seq (.region 0 [] [
 ⟨(some 22),.mov (.tmp 1),none,0⟩,
 ⟨(some 23),.len (.tmp 22),none,0⟩,
 ⟨(some 24),.faddr 0 (.tmp 3),none,0⟩,
 ⟨(some 25),.load none (.tmp 24),none,0⟩,
 ⟨(some 26),.bin .gtr (.tmp 23) (.tmp 25),none,0⟩,
 ⟨(some 27),.mov (.tmp 26),none,0⟩,
 ⟨(some 28),.mov (.tmp 1),some (27,false),0⟩,
 ⟨(some 29),.mov (.tmp 10),some (27,false),0⟩,
 ⟨(some 30),.call 67 false [(.tmp 28),(.tmp 29)],some (27,false),0⟩,
 ⟨(some 31),.not (.tmp 30),some (27,false),0⟩,
 ⟨(some 32),.pick (.tmp 27) (.cst (.c (.bool true))) (.tmp 31),none,0⟩,
 ⟨(some 33),.mov (.tmp 32),none,0⟩,
 ⟨(some 34),.load (some 7) (.tmp 3),some (33,false),0⟩,
 ⟨(some 35),.mov (.tmp 2),some (33,false),0⟩,
 ⟨(some 36),.mov (.tmp 1),some (33,false),0⟩,
 ⟨(some 37),.len (.tmp 36),some (33,false),0⟩,
 ⟨(some 38),.call 52 true [(.tmp 34),(.tmp 35),(.tmp 37)],some (33,false),0⟩,
 ⟨(some 39),.not (.tmp 38),some (33,false),0⟩,
 ⟨(some 40),.pick (.tmp 33) (.cst (.c (.bool true))) (.tmp 39),none,0⟩])
 (.cond (.tmp 40)
 (.seq (.region 0 [] [
 ⟨(some 6),.mov (.cst (.c (.int .i64 0))),none,0⟩,
 ⟨(some 7),.mov (.cst (.c (.int .i64 0))),none,0⟩,
 ⟨(some 8),.mov (.cst (.c (.int .i64 2))),none,0⟩])
 .ret)
 .skip))
 (.seq (.region 1 [] [
 ⟨(some 42),.load (some 7) (.tmp 3),none,0⟩,
 ⟨(some 43),.mov (.tmp 1),none,0⟩,
 ⟨(some 44),.mov (.tmp 2),none,0⟩,
 ⟨(some 45),.call 53 true [(.tmp 42),(.tmp 43),(.tmp 44)],none,0⟩,
 ⟨(some 41),.mov (.tmp 45),none,0⟩,
 ⟨(some 46),.extract 0 (.tmp 41),none,0⟩,
 ⟨(some 47),.extract 1 (.tmp 41),none,0⟩,
 ⟨(some 48),.extract 2 (.tmp 41),none,0⟩,
 ⟨(some 12),.alloc [(.int .i64 0),(.int .i64 0),(.int .i64 0),(.int .i64 0),(.int .i64 0),(.int .i64 0),(.int .i64 0),(.int .i64 0),(.int .i64 0),(.int .i64 0),(.int .i64 0)],none,0⟩,
 ⟨(some 11),.mov (.tmp 46),none,1⟩,
 ⟨none,.store (some 11) (.tmp 12) (.tmp 47),none,1⟩,
 ⟨(some 13),.mov (.tmp 48),none,1⟩])
 (.seq (.seq (.region 0 [] [
 ⟨(some 49),.mov (.tmp 13),none,0⟩,
 ⟨(some 50),.not (.tmp 49),none,0⟩])
 (.cond (.tmp 50)
 (.seq (.region 0 [] [
 ⟨(some 6),.mov (.cst (.c (.int .i64 0))),none,0⟩,
 ⟨(some 7),.mov (.cst (.c (.int .i64 0))),none,0⟩,
 ⟨(some 8),.mov (.cst (.c (.int .i64 9))),none,0⟩])
 .ret)
 .skip))
 (.seq (.region 3 [] [
 ⟨(some 51),.load (some 7) (.tmp 3),none,0⟩,
 ⟨(some 52),.mkmap true true [(some .i64),(some .i64),(some .i64),(some .i64),(some .i64),(some .i64),(some .i64),(some .i64),(some .i64),(some .i64),(some .i64),(some .i64)],none,0⟩,
 ⟨(some 53),.build [(.int .i64 0),(.int .i64 0),(.int .i64 0),(.int .i64 0),(.int .i64 0),.nils,.nils,.any] [(0,7,(.tmp 51)),(7,1,(.tmp 52))],none,1⟩,
 ⟨(some 54),.box (.tmp 53),none,1⟩,
 ⟨(some 55),.load (some 11) (.tmp 12),none,2⟩,
 ⟨(some 56),.faddr 3 (.tmp 3),none,2⟩,
 ⟨(some 57),.load none (.tmp 56),none,2⟩,
 ⟨(some 58),.mov (.tmp 2),none,2⟩,
 ⟨(some 59),.len (.tmp 58),none,2⟩,
 ⟨(some 60),.bin .sub (.tmp 57) (.tmp 59),none,2⟩,
 ⟨(some 61),.build [(.int .i64 0),(.int .i64 0),(.int .i64 0),(.int .i64 0),(.int .i64 0),(.int .i64 0),(.int .i64 0),(.int .i64 0),(.int .i64 0),(.int .i64 0),(.int .i64 0),(.int .i64 0)] [(0,11,(.tmp 55)),(11,1,(.tmp 60))],none,2⟩,
 ⟨(some 62),.call 68 false [(.tmp 54),(.tmp 61)],none,2⟩,
 ⟨(some 14),.alloc [(.int .i64 0),(.int .i64 0),(.bool false)],none,2⟩,
 ⟨none,.store (some 3) (.tmp 14) (.tmp 62),none,3⟩])
 (.seq (.seq (.region 0 [] [
 ⟨(some 63),.faddr 2 (.tmp 14),none,0⟩,
 ⟨(some 64),.load none (.tmp 63),none,0⟩,
 ⟨(some 65),.not (.tmp 64),none,0⟩])
 (.cond (.tmp 65)
 (.seq (.region 0 [] [
 ⟨(some 6),.mov (.cst (.c (.int .i64 0))),none,0⟩,
 ⟨(some 7),.mov (.cst (.c (.int .i64 0))),none,0⟩,
 ⟨(some 8),.mov (.cst (.c (.int .i64 10))),none,0⟩])
 .ret)
 .skip))
 (.seq (.region 0 [(0,2),(1,2),(0,3),(1,3),(0,4),(1,4),(2,4),(3,4),(0,5),(1,5),(2,5),(3,5),(0,6),(1,6),(2,7),(3,7),(4,7),(5,7),(6,7)] [
 ⟨(some 66),.faddr 0 (.tmp 14),none,0⟩,
 ⟨(some 67),.load none (.tmp 66),none,0⟩,
 ⟨(some 68),.faddr 1 (.tmp 14),none,0⟩,
 ⟨(some 69),.load none (.tmp 68),none,0⟩,
 ⟨(some 70),.faddr 2 (.tmp 3),none,0⟩,
 ⟨(some 71),.load none (.tmp 70),none,0⟩,
 ⟨(some 72),.bin .sub (.tmp 69) (.tmp 71),none,0⟩,
 ⟨(some 6),.mov (.tmp 67),none,0⟩,
 ⟨(some 7),.mov (.tmp 72),none,0⟩,
 ⟨(some 8),.mov (.cst (.c (.int .i64 0))),none,0⟩])
 .ret)))))))))⟩
/-- 35 isatis/isatisref11.Seen | loop 0 vars [11,12,13,14] kill 66 makes true -/
def f35 : AFunc := ⟨104,[.tmp 6,.tmp 7,.tmp 8],false,
 (.seq (.region 1 [] [
 ⟨(some 3),.box (.tmp 0),none,0⟩,
 ⟨(some 6),.mov (.cst (.c (.int .i64 0))),none,1⟩,
 ⟨(some 7),.mov (.cst (.c (.int .i64 0))),none,1⟩,
 ⟨(some 8),.mov (.cst (.c (.bool false))),none,1⟩])
 (.seq (.region 0 [] [
 ⟨(some 23),.load (some 7) (.tmp 3),none,0⟩,
 ⟨(some 24),.mov (.tmp 1),none,0⟩,
 ⟨(some 25),.mov (.tmp 2),none,0⟩,
 ⟨(some 26),.call 25 true [(.tmp 23),(.tmp 24),(.tmp 25)],none,0⟩,
 ⟨(some 22),.mov (.tmp 26),none,0⟩,
 ⟨(some 27),.extract 0 (.tmp 22),none,0⟩,
 ⟨(some 28),.extract 1 (.tmp 22),none,0⟩,
 ⟨(some 9),.mov (.tmp 27),none,0⟩,
 ⟨(some 10),.mov (.tmp 28),none,0⟩])
 (.seq (.seq (.region 0 [] [
 ⟨(some 29),.mov (.tmp 10),none,0⟩,
 ⟨(some 30),.not (.tmp 29),none,0⟩])
 (.cond (.tmp 30)
 (.seq (.region 0 [] [
 ⟨(some 6),.mov (.cst (.c (.int .i64 0))),none,0⟩,
 ⟨(some 7),.mov (.cst (.c (.int .i64 0))),none,0⟩,
 ⟨(some 8),.mov (.cst (.c (.bool false))),none,0⟩])
 .ret)
 .skip))
 (.seq (.seq (.region 0 [] [
 ⟨(some 31),.mov (.tmp 1),none,0⟩,
 ⟨(some 32),.len (.tmp 31),none,0⟩,
 ⟨(some 33),.faddr 0 (.tmp 3),none,0⟩,
 ⟨(some 34),.load none (.tmp 33),none,0⟩,
 ⟨(some 35),.bin .gtr (.tmp 32) (.tmp 34),none,0⟩])
 (.cond (.tmp 35)
 (.seq (.region 0 [(0,1),(0,3),(1,3),(2,3),(0,4),(1,4),(2,4),(3,6),(4,6),(5,6)] [
 ⟨(some 36),.load (some 7) (.tmp 3),none,0⟩,
 ⟨(some 37),.mov (.tmp 9),none,0⟩,
 ⟨(some 38),.call 69 true [(.tmp 36),(.tmp 37)],none,0⟩,
 ⟨(some 39),.faddr 2 (.tmp 3),none,0⟩,
 ⟨(some 40),.load none (.tmp 39),none,0⟩,
 ⟨(some 41),.bin .sub (.tmp 38) (.tmp 40),none,0⟩,
 ⟨(some 6),.mov (.cst (.c (.int .i64 (-1)))),none,0⟩,
 ⟨(some 7),.mov (.tmp 41),none,0⟩,
 ⟨(some 8),.mov (.cst (.c (.bool true))),none,0⟩])
 .ret)
 .skip))
 (.seq (.region 0 [] [
 ⟨(some 11),.mov (.cst (.c (.int .i64 0))),none,0⟩,
 ⟨(some 12),.mov (.cst (.c (.int .i64 0))),none,0⟩,
 ⟨(some 13),.mov (.cst (.c (.bool false))),none,0⟩])
 (.seq (.seq (.region 0 [] [
 ⟨(some 14),.mov (.cst (.c (.int .i64 0))),none,0⟩])
 (.block 0 (.loop ⟨[15,16,17,18,19,20,21,42,43,44,45,46,47,48,49,50,51,52,53,54,55,56,57,58,59,60,61,62,63,64,65,66,67,68,69,70,71,72,73,74,75,76,77,78,79,80,81,82,83,84,85,86,87,88,89,90,91,92,93,94,95,96,97,98,99,100],true,[]⟩
 (.seq (.seq (.region 0 [] [
 ⟨(some 42),.mov (.tmp 14),none,0⟩,
 ⟨(some 43),.faddr 5 (.tmp 3),none,0⟩,
 ⟨(some 44),.load none (.tmp 43),none,0⟩,
 ⟨(some 45),.len (.tmp 44),none,0⟩,
 ⟨(some 46),.bin .lss (.tmp 42) (.tmp 45),none,0⟩])
 (.cond (.tmp 46)
 .skip
 (.exit 0)))
 (.seq (.block 1 (.seq (.region 4 [] [
 ⟨(some 49),.bslice 1 0 [(.int .i64 0)] [],none,0⟩,
 ⟨(some 50),.mov (.tmp 1),none,1⟩,
 ⟨(some 51),.append 1 8 (.tmp 49) (.tmp 50),none,1⟩,
 ⟨(some 52),.mov (.tmp 14),none,2⟩,
 ⟨(some 53),.bslice 1 1 [(.int .i64 0)] [(0,(.tmp 52))],none,2⟩,
 ⟨(some 54),.append 1 8 (.tmp 51) (.tmp 53),none,3⟩,
 ⟨(some 15),.mov (.tmp 54),none,4⟩])
 (.seq (.region 0 [] [
 ⟨(some 56),.load (some 7) (.tmp 3),none,0⟩,
 ⟨(some 57),.mov (.tmp 15),none,0⟩,
 ⟨(some 58),.mov (.tmp 2),none,0⟩,
 ⟨(some 59),.call 35 true [(.tmp 56),(.tmp 57),(.tmp 58)],none,0⟩,
 ⟨(some 55),.mov (.tmp 59),none,0⟩,
 ⟨(some 60),.extract 0 (.tmp 55),none,0⟩,
 ⟨(some 61),.extract 1 (.tmp 55),none,0⟩,
 ⟨(some 62),.extract 2 (.tmp 55),none,0⟩,
 ⟨(some 16),.mov (.tmp 60),none,0⟩,
 ⟨(some 17),.mov (.tmp 61),none,0⟩,
 ⟨(some 18),.mov (.tmp 62),none,0⟩])
 (.seq (.seq (.region 0 [] [
 ⟨(some 63),.mov (.tmp 18),none,0⟩,
 ⟨(some 64),.mov (.tmp 63),none,0⟩,
 ⟨(some 65),.mov (.tmp 2),some (64,true),0⟩,
 ⟨(some 66),.len (.tmp 65),some (64,true),0⟩,
 ⟨(some 67),.faddr 3 (.tmp 3),some (64,true),0⟩,
 ⟨(some 68),.load none (.tmp 67),some (64,true),0⟩,
 ⟨(some 69),.bin .lss (.tmp 66) (.tmp 68),some (64,true),0⟩,
 ⟨(some 70),.pick (.tmp 64) (.tmp 69) (.cst (.c (.bool false))),none,0⟩])
 (.cond (.tmp 70)
 (.seq (.region 4 [(0,1),(0,2),(1,2),(0,3),(1,3),(2,3),(0,4),(1,4),(0,5),(1,5),(2,5),(3,5),(4,5),(0,6),(1,6),(2,6),(3,6),(4,6),(0,7),(1,7),(2,7),(3,7),(4,7),(0,8),(1,8),(11,12),(11,13),(12,13),(12,14),(13,14),(13,15)] [
 ⟨(some 72),.load (some 7) (.tmp 3),none,0⟩,
 ⟨(some 73),.mov (.tmp 15),none,0⟩,
 ⟨(some 74),.bslice 1 0 [(.int .i64 0)] [],none,0⟩,
 ⟨(some 75),.mov (.tmp 2),none,1⟩,
 ⟨(some 76),.append 1 8 (.tmp 74) (.tmp 75),none,1⟩,
 ⟨(some 77),.mov (.tmp 1),none,2⟩,
 ⟨(some 78),.len (.tmp 77),none,2⟩,
 ⟨(some 79),.bslice 1 1 [(.int .i64 0)] [(0,(.tmp 78))],none,2⟩,
 ⟨(some 80),.append 1 8 (.tmp 76) (.tmp 79),none,3⟩,
 ⟨(some 81),.call 35 true [(.tmp 72),(.tmp 73),(.tmp 80)],none,4⟩,
 ⟨(some 71),.mov (.tmp 81),none,4⟩,
 ⟨(some 82),.extract 0 (.tmp 71),none,4⟩,
 ⟨(some 83),.extract 1 (.tmp 71),none,4⟩,
 ⟨(some 84),.extract 2 (.tmp 71),none,4⟩,
 ⟨(some 19),.mov (.tmp 82),none,4⟩,
 ⟨(some 20),.mov (.tmp 83),none,4⟩,
 ⟨(some 21),.mov (.tmp 84),none,4⟩])
 (.region 0 [] [
 ⟨(some 85),.mov (.tmp 17),none,0⟩,
 ⟨(some 86),.mov (.tmp 20),none,0⟩,
 ⟨(some 87),.mm false (.tmp 85) (.tmp 86),none,0⟩,
 ⟨(some 88),.mov (.tmp 21),none,0⟩,
 ⟨(some 17),.mov (.tmp 87),none,0⟩,
 ⟨(some 18),.mov (.tmp 88),none,0⟩]))
 .skip))
 (.seq (.region 0 [] [
 ⟨(some 89),.mov (.tmp 18),none,0⟩,
 ⟨(some 90),.mov (.tmp 89),none,0⟩,
 ⟨(some 91),.mov (.tmp 13),some (90,true),0⟩,
 ⟨(some 92),.not (.tmp 91),some (90,true),0⟩,
 ⟨(some 93),.mov (.tmp 92),some (90,true),0⟩,
 ⟨(some 94),.mov (.tmp 17),some (93,false),0⟩,
 ⟨(some 95),.mov (.tmp 12),some (93,false),0⟩,
 ⟨(some 96),.bin .gtr (.tmp 94) (.tmp 95),some (93,false),0⟩,
 ⟨(some 97),.pick (.tmp 93) (.cst (.c (.bool true))) (.tmp 96),some (90,true),0⟩,
 ⟨(some 98),.pick (.tmp 90) (.tmp 97) (.cst (.c (.bool false))),none,0⟩])
 (.cond (.tmp 98)
 (.region 0 [] [
 ⟨(some 99),.mov (.tmp 14),none,0⟩,
 ⟨(some 100),.mov (.tmp 17),none,0⟩,
 ⟨(some 11),.mov (.tmp 99),none,0⟩,
 ⟨(some 12),.mov (.tmp 100),none,0⟩,
 ⟨(some 13),.mov (.cst (.c (.bool true))),none,0⟩])
 .skip))))))
 (.region 0 [] [
 ⟨(some 47),.mov (.tmp 14),none,0⟩,
 ⟨(some 48),.bin .add (.tmp 47) (.cst (.c (.int .i64 1))),none,0⟩,
 ⟨(some 14),.mov (.tmp 48),none,0⟩]))))))
 (.seq (.region 0 [] [
 ⟨(some 101),.mov (.tmp 11),none,0⟩,
 ⟨(some 102),.mov (.tmp 12),none,0⟩,
 ⟨(some 103),.mov (.tmp 13),none,0⟩,
 ⟨(some 6),.mov (.tmp 101),none,0⟩,
 ⟨(some 7),.mov (.tmp 102),none,0⟩,
 ⟨(some 8),.mov (.tmp 103),none,0⟩])
 .ret)))))))⟩
/-- 36 isatis/isatisref11.AreSites | loop 0 vars [5] kill 17 makes false -/
def f36 : AFunc := ⟨22,[.tmp 4],false,
 (.seq (.region 1 [] [
 ⟨(some 2),.box (.tmp 0),none,0⟩,
 ⟨(some 4),.mov (.cst (.c (.bool false))),none,1⟩])
 (.seq (.seq (.region 0 [] [
 ⟨(some 5),.mov (.cst (.c (.int .i64 0))),none,0⟩])
 (.block 0 (.loop ⟨[4,6,7,8,9,10,11,12,13,14,15,16,17,18,19,20,21],false,[]⟩
 (.seq (.seq (.region 0 [] [
 ⟨(some 6),.mov (.tmp 5),none,0⟩,
 ⟨(some 7),.mov (.tmp 1),none,0⟩,
 ⟨(some 8),.len (.tmp 7),none,0⟩,
 ⟨(some 9),.bin .lss (.tmp 6) (.tmp 8),none,0⟩])
 (.cond (.tmp 9)
 .skip
 (.exit 0)))
 (.seq (.block 1 (.seq (.region 0 [(0,1),(0,4),(1,4),(2,4),(3,4),(0,5),(1,5),(2,5),(3,5),(0,6),(1,6),(2,6),(3,6),(0,7),(1,7),(2,7),(3,7)] [
 ⟨(some 12),.mov (.tmp 1),none,0⟩,
 ⟨(some 13),.mov (.tmp 5),none,0⟩,
 ⟨(some 14),.iaddr 1 (.tmp 12) (.tmp 13),none,0⟩,
 ⟨(some 15),.load none (.tmp 14),none,0⟩,
 ⟨(some 16),.faddr 5 (.tmp 2),none,0⟩,
 ⟨(some 17),.load none (.tmp 16),none,0⟩,
 ⟨(some 18),.len (.tmp 17),none,0⟩,
 ⟨(some 19),.bin .sub (.tmp 18) (.cst (.c (.int .i64 1))),none,0⟩,
 ⟨(some 20),.call 32 true [(.tmp 15),(.cst (.c (.int .i64 0))),(.tmp 19)],none,0⟩,
 ⟨(some 21),.not (.tmp 20),none,0⟩])
 (.cond (.tmp 21)
 (.seq (.region 0 [] [
 ⟨(some 4),.mov (.cst (.c (.bool false))),none,0⟩])
 .ret)
 .skip)))
 (.region 0 [] [
 ⟨(some 10),.mov (.tmp 5),none,0⟩,
 ⟨(some 11),.bin .add (.tmp 10) (.cst (.c (.int .i64 1))),none,0⟩,
 ⟨(some 5),.mov (.tmp 11),none,0⟩]))))))
 (.seq (.region 0 [] [
 ⟨(some 4),.mov (.cst (.c (.bool true))),none,0⟩])
 .ret)))⟩
/-- 37 isatis/isatislaw11.ready -/
def f37 : AFunc := ⟨10,[.tmp 2],false,
 (.seq (.region 1 [] [
 ⟨(some 1),.box (.tmp 0),none,0⟩,
 ⟨(some 2),.mov (.cst (.c (.bool false))),none,1⟩])
 (.seq (.region 0 [] [
 ⟨(some 3),.load (some 7) (.tmp 1),none,0⟩,
 ⟨(some 4),.call 16 true [(.tmp 3)],none,0⟩,
 ⟨(some 5),.mov (.tmp 4),none,0⟩,
 ⟨(some 6),.load (some 7) (.tmp 1),some (5,true),0⟩,
 ⟨(some 7),.call 21 true [(.tmp 6)],some (5,true),0⟩,
 ⟨(some 8),.bin .eql (.tmp 7) (.cst (.c (.int .i64 0))),some (5,true),0⟩,
 ⟨(some 9),.pick (.tmp 5) (.tmp 8) (.cst (.c (.bool false))),none,0⟩,
 ⟨(some 2),.mov (.tmp 9),none,0⟩])
 .ret))⟩
/-- 38 isatis/isatislaw11.weather -/
def f38 : AFunc := ⟨16,[.tmp 4],false,
 (.seq (.region 1 [] [
 ⟨(some 2),.box (.tmp 0),none,0⟩,
 ⟨(some 4),.mov (.cst (.c .nils)),none,1⟩])
 (.seq (.region 0 [] [
 ⟨(some 6),.load (some 7) (.tmp 2),none,0⟩,
 ⟨(some 7),.call 70 true [(.tmp 6)],none,0⟩,
 ⟨(some 5),.mov (.tmp 7),none,0⟩])
 (.seq (.region 0 [] [
 ⟨(some 8),.mov (.tmp 5),none,0⟩,
 ⟨(some 9),.mov (.tmp 1),none,0⟩,
 ⟨(some 10),.conv .i64 (.tmp 9),none,0⟩,
 ⟨(some 11),.mov (.tmp 5),none,0⟩,
 ⟨(some 12),.len (.tmp 11),none,0⟩,
 ⟨(some 13),.bin .rem (.tmp 10) (.tmp 12),none,0⟩,
 ⟨(some 14),.iaddr 1 (.tmp 8) (.tmp 13),none,0⟩,
 ⟨(some 15),.load none (.tmp 14),none,0⟩,
 ⟨(some 4),.mov (.tmp 15),none,0⟩])
 .ret)))⟩
/-- 39 isatis/move.Sure -/
def f39 : AFunc := ⟨29,[.tmp 4,.tmp 5,.tmp 6],false,
 (.seq (.region 1 [] [
 ⟨(some 2),.box (.tmp 0),none,0⟩,
 ⟨(some 4),.mov (.cst (.c (.int .i64 0))),none,1⟩,
 ⟨(some 5),.mov (.cst (.c .nils)),none,1⟩,
 ⟨(some 6),.mov (.cst (.c (.int .i64 0))),none,1⟩])
 (.seq (.seq (.region 0 [] [
 ⟨(some 9),.load (some 7) (.tmp 2),none,0⟩,
 ⟨(some 10),.call 22 true [(.tmp 9)],none,0⟩,
 ⟨(some 7),.mov (.tmp 10),none,0⟩])
 (.seq (.region 0 [] [
 ⟨(some 11),.mov (.tmp 7),none,0⟩,
 ⟨(some 12),.bin .neq (.tmp 11) (.cst (.c (.int .i64 0))),none,0⟩])
 (.cond (.tmp 12)
 (.seq (.region 0 [] [
 ⟨(some 13),.mov (.tmp 7),none,0⟩,
 ⟨(some 4),.mov (.cst (.c (.int .i64 0))),none,0⟩,
 ⟨(some 5),.mov (.cst (.c .nils)),none,0⟩,
 ⟨(some 6),.mov (.tmp 13),none,0⟩])
 .ret)
 .skip)))
 (.seq (.seq (.region 0 [] [
 ⟨(some 14),.load (some 7) (.tmp 2),none,0⟩,
 ⟨(some 15),.mov (.tmp 1),none,0⟩,
 ⟨(some 16),.call 51 true [(.tmp 14),(.tmp 15)],none,0⟩,
 ⟨(some 17),.not (.tmp 16),none,0⟩])
 (.cond (.tmp 17)
 (.seq (.region 0 [] [
 ⟨(some 4),.mov (.cst (.c (.int .i64 0))),none,0⟩,
 ⟨(some 5),.mov (.cst (.c .nils)),none,0⟩,
 ⟨(some 6),.mov (.cst (.c (.int .i64 2))),none,0⟩])
 .ret)
 .skip))
 (.seq (.region 0 [] [
 ⟨(some 19),.load (some 7) (.tmp 2),none,0⟩,
 ⟨(some 20),.mov (.tmp 1),none,0⟩,
 ⟨(some 21),.call 64 true [(.tmp 19),(.tmp 20)],none,0⟩,
 ⟨(some 18),.mov (.tmp 21),none,0⟩,
 ⟨(some 22),.extract 0 (.tmp 18),none,0⟩,
 ⟨(some 23),.extract 1 (.tmp 18),none,0⟩,
 ⟨(some 24),.extract 2 (.tmp 18),none,0⟩,
 ⟨(some 4),.mov (.tmp 22),none,0⟩,
 ⟨(some 5),.mov (.tmp 23),none,0⟩,
 ⟨(some 8),.mov (.tmp 24),none,0⟩])
 (.seq (.seq (.region 0 [] [
 ⟨(some 25),.mov (.tmp 8),none,0⟩,
 ⟨(some 26),.not (.tmp 25),none,0⟩])
 (.cond (.tmp 26)
 (.seq (.region 0 [] [
 ⟨(some 4),.mov (.cst (.c (.int .i64 0))),none,0⟩,
 ⟨(some 5),.mov (.cst (.c .nils)),none,0⟩,
 ⟨(some 6),.mov (.cst (.c (.int .i64 9))),none,0⟩])
 .ret)
 .skip))
 (.seq (.region 0 [] [
 ⟨(some 27),.mov (.tmp 4),none,0⟩,
 ⟨(some 28),.mov (.tmp 5),none,0⟩,
 ⟨(some 4),.mov (.tmp 27),none,0⟩,
 ⟨(some 5),.mov (.tmp 28),none,0⟩,
 ⟨(some 6),.mov (.cst (.c (.int .i64 0))),none,0⟩])
 .ret))))))⟩
/-- 40 isatis/isatislaw11.plan -/
def f40 : AFunc := ⟨12,[.tmp 4],false,
 (.seq (.region 1 [] [
 ⟨(some 2),.box (.tmp 0),none,0⟩,
 ⟨(some 4),.mov (.cst (.c .nils)),none,1⟩])
 (.seq (.region 0 [(0,1),(0,2),(0,3),(1,3),(2,3),(0,4),(1,4),(2,4),(0,5)] [
 ⟨(some 5),.load (some 7) (.tmp 2),none,0⟩,
 ⟨(some 6),.mov (.tmp 1),none,0⟩,
 ⟨(some 7),.conv .i64 (.tmp 6),none,0⟩,
 ⟨(some 8),.load (some 7) (.tmp 2),none,0⟩,
 ⟨(some 9),.call 50 true [(.tmp 8)],none,0⟩,
 ⟨(some 10),.bin .rem (.tmp 7) (.tmp 9),none,0⟩,
 ⟨(some 11),.call 66 true [(.tmp 5),(.tmp 10)],none,0⟩,
 ⟨(some 4),.mov (.tmp 11),none,0⟩])
 .ret))⟩
/-- 41 isatis/isatisref11.Before | loop 0 vars [5] kill 31 makes false -/
def f41 : AFunc := ⟨41,[.tmp 4],false,
 (.seq (.region 0 [] [
 ⟨(some 4),.mov (.cst (.c (.bool false))),none,0⟩])
 (.seq (.seq (.region 0 [] [
 ⟨(some 5),.mov (.cst (.c (.int .i64 0))),none,0⟩])
 (.block 0 (.loop ⟨[4,6,7,8,9,10,11,12,13,14,15,16,17,18,19,20,21,22,23,24,25,26,27,28,29,30,31,32,33,34,35],false,[]⟩
 (.seq (.seq (.region 0 [] [
 ⟨(some 6),.mov (.tmp 5),none,0⟩,
 ⟨(some 7),.mov (.tmp 0),none,0⟩,
 ⟨(some 8),.len (.tmp 7),none,0⟩,
 ⟨(some 9),.bin .lss (.tmp 6) (.tmp 8),none,0⟩,
 ⟨(some 10),.mov (.tmp 9),none,0⟩,
 ⟨(some 11),.mov (.tmp 5),some (10,true),0⟩,
 ⟨(some 12),.mov (.tmp 1),some (10,true),0⟩,
 ⟨(some 13),.len (.tmp 12),some (10,true),0⟩,
 ⟨(some 14),.bin .lss (.tmp 11) (.tmp 13),some (10,true),0⟩,
 ⟨(some 15),.pick (.tmp 10) (.tmp 14) (.cst (.c (.bool false))),none,0⟩])
 (.cond (.tmp 15)
 .skip
 (.exit 0)))
 (.seq (.block 1 (.seq (.region 0 [(0,1),(0,4),(1,4),(2,4),(3,4),(0,5),(1,5),(2,5),(3,5),(4,5),(0,6),(1,6),(2,6),(3,6),(0,7),(1,7),(2,7),(3,7)] [
 ⟨(some 18),.mov (.tmp 0),none,0⟩,
 ⟨(some 19),.mov (.tmp 5),none,0⟩,
 ⟨(some 20),.iaddr 1 (.tmp 18) (.tmp 19),none,0⟩,
 ⟨(some 21),.load none (.tmp 20),none,0⟩,
 ⟨(some 22),.mov (.tmp 1),none,0⟩,
 ⟨(some 23),.mov (.tmp 5),none,0⟩,
 ⟨(some 24),.iaddr 1 (.tmp 22) (.tmp 23),none,0⟩,
 ⟨(some 25),.load none (.tmp 24),none,0⟩,
 ⟨(some 26),.bin .neq (.tmp 21) (.tmp 25),none,0⟩])
 (.cond (.tmp 26)
 (.seq (.region 0 [(0,1),(0,4),(1,4),(2,4),(3,4),(0,5),(1,5),(2,5),(3,5),(4,5),(0,6),(1,6),(2,6),(3,6),(0,7),(1,7),(2,7),(3,7)] [
 ⟨(some 27),.mov (.tmp 0),none,0⟩,
 ⟨(some 28),.mov (.tmp 5),none,0⟩,
 ⟨(some 29),.iaddr 1 (.tmp 27) (.tmp 28),none,0⟩,
 ⟨(some 30),.load none (.tmp 29),none,0⟩,
 ⟨(some 31),.mov (.tmp 1),none,0⟩,
 ⟨(some 32),.mov (.tmp 5),none,0⟩,
 ⟨(some 33),.iaddr 1 (.tmp 31) (.tmp 32),none,0⟩,
 ⟨(some 34),.load none (.tmp 33),none,0⟩,
 ⟨(some 35),.bin .lss (.tmp 30) (.tmp 34),none,0⟩,
 ⟨(some 4),.mov (.tmp 35),none,0⟩])
 .ret)
 .skip)))
 (.region 0 [] [
 ⟨(some 16),.mov (.tmp 5),none,0⟩,
 ⟨(some 17),.bin .add (.tmp 16) (.cst (.c (.int .i64 1))),none,0⟩,
 ⟨(some 5),.mov (.tmp 17),none,0⟩]))))))
 (.seq (.region 0 [] [
 ⟨(some 36),.mov (.tmp 0),none,0⟩,
 ⟨(some 37),.len (.tmp 36),none,0⟩,
 ⟨(some 38),.mov (.tmp 1),none,0⟩,
 ⟨(some 39),.len (.tmp 38),none,0⟩,
 ⟨(some 40),.bin .lss (.tmp 37) (.tmp 39),none,0⟩,
 ⟨(some 4),.mov (.tmp 40),none,0⟩])
 .ret)))⟩
/-- 42 isatis/isatisref11.Has | loop 0 vars [5] kill 13 makes false -/
def f42 : AFunc := ⟨18,[.tmp 4],false,
 (.seq (.region 0 [] [
 ⟨(some 4),.mov (.cst (.c (.bool false))),none,0⟩])
 (.seq (.seq (.region 0 [] [
 ⟨(some 5),.mov (.cst (.c (.int .i64 0))),none,0⟩])
 (.block 0 (.loop ⟨[4,6,7,8,9,10,11,12,13,14,15,16,17],false,[]⟩
 (.seq (.seq (.region 0 [] [
 ⟨(some 6),.mov (.tmp 5),none,0⟩,
 ⟨(some 7),.mov (.tmp 0),none,0⟩,
 ⟨(some 8),.len (.tmp 7),none,0⟩,
 ⟨(some 9),.bin .lss (.tmp 6) (.tmp 8),none,0⟩])
 (.cond (.tmp 9)
 .skip
 (.exit 0)))
 (.seq (.block 1 (.seq (.region 0 [] [
 ⟨(some 12),.mov (.tmp 0),none,0⟩,
 ⟨(some 13),.mov (.tmp 5),none,0⟩,
 ⟨(some 14),.iaddr 1 (.tmp 12) (.tmp 13),none,0⟩,
 ⟨(some 15),.load none (.tmp 14),none,0⟩,
 ⟨(some 16),.mov (.tmp 1),none,0⟩,
 ⟨(some 17),.bin .eql (.tmp 15) (.tmp 16),none,0⟩])
 (.cond (.tmp 17)
 (.seq (.region 0 [] [
 ⟨(some 4),.mov (.cst (.c (.bool true))),none,0⟩])
 .ret)
 .skip)))
 (.region 0 [] [
 ⟨(some 10),.mov (.tmp 5),none,0⟩,
 ⟨(some 11),.bin .add (.tmp 10) (.cst (.c (.int .i64 1))),none,0⟩,
 ⟨(some 5),.mov (.tmp 11),none,0⟩]))))))
 (.seq (.region 0 [] [
 ⟨(some 4),.mov (.cst (.c (.bool false))),none,0⟩])
 .ret)))⟩
/-- 43 isatis/isatislaw11.profits -/
def f43 : AFunc := ⟨43,[.tmp 2,.tmp 3,.tmp 4],false,
 (.seq (.region 1 [] [
 ⟨(some 1),.box (.tmp 0),none,0⟩,
 ⟨(some 2),.mov (.cst (.c (.int .i64 0))),none,1⟩,
 ⟨(some 3),.mov (.cst (.c (.int .i64 0))),none,1⟩,
 ⟨(some 4),.mov (.cst (.c (.bool false))),none,1⟩])
 (.seq (.region 0 [] [
 ⟨(some 11),.load (some 7) (.tmp 1),none,0⟩,
 ⟨(some 12),.call 19 true [(.tmp 11)],none,0⟩,
 ⟨(some 13),.call 27 true [(.tmp 12)],none,0⟩,
 ⟨(some 10),.mov (.tmp 13),none,0⟩,
 ⟨(some 14),.extract 0 (.tmp 10),none,0⟩,
 ⟨(some 15),.extract 1 (.tmp 10),none,0⟩,
 ⟨(some 16),.extract 2 (.tmp 10),none,0⟩,
 ⟨(some 5),.mov (.tmp 14),none,0⟩,
 ⟨(some 6),.mov (.tmp 15),none,0⟩,
 ⟨(some 7),.mov (.tmp 16),none,0⟩])
 (.seq (.region 0 [] [
 ⟨(some 18),.load (some 7) (.tmp 1),none,0⟩,
 ⟨(some 19),.call 19 true [(.tmp 18)],none,0⟩,
 ⟨(some 20),.call 33 true [(.tmp 19)],none,0⟩,
 ⟨(some 17),.mov (.tmp 20),none,0⟩,
 ⟨(some 21),.extract 0 (.tmp 17),none,0⟩,
 ⟨(some 22),.extract 1 (.tmp 17),none,0⟩,
 ⟨(some 8),.mov (.tmp 21),none,0⟩,
 ⟨(some 9),.mov (.tmp 22),none,0⟩])
 (.seq (.seq (.region 0 [] [
 ⟨(some 23),.mov (.tmp 7),none,0⟩,
 ⟨(some 24),.bin .neq (.tmp 23) (.cst (.c (.int .i64 0))),none,0⟩])
 (.cond (.tmp 24)
 (.region 0 [] [
 ⟨(some 6),.mov (.cst (.c (.int .i64 (-1000)))),none,0⟩])
 .skip))
 (.seq (.seq (.region 0 [] [
 ⟨(some 25),.mov (.tmp 9),none,0⟩,
 ⟨(some 26),.bin .neq (.tmp 25) (.cst (.c (.int .i64 0))),none,0⟩])
 (.cond (.tmp 26)
 (.region 0 [] [
 ⟨(some 8),.mov (.cst (.c (.int .i64 (-1000)))),none,0⟩])
 .skip))
 (.seq (.region 0 [] [
 ⟨(some 27),.mov (.tmp 6),none,0⟩,
 ⟨(some 28),.mov (.tmp 8),none,0⟩,
 ⟨(some 29),.mov (.tmp 7),none,0⟩,
 ⟨(some 30),.bin .eql (.tmp 29) (.cst (.c (.int .i64 0))),none,0⟩,
 ⟨(some 31),.mov (.tmp 30),none,0⟩,
 ⟨(some 32),.mov (.tmp 7),some (31,false),0⟩,
 ⟨(some 33),.bin .eql (.tmp 32) (.cst (.c (.int .i64 10))),some (31,false),0⟩,
 ⟨(some 34),.pick (.tmp 31) (.cst (.c (.bool true))) (.tmp 33),none,0⟩,
 ⟨(some 35),.mov (.tmp 34),none,0⟩,
 ⟨(some 36),.mov (.tmp 9),some (35,true),0⟩,
 ⟨(some 37),.bin .eql (.tmp 36) (.cst (.c (.int .i64 0))),some (35,true),0⟩,
 ⟨(some 38),.mov (.tmp 37),some (35,true),0⟩,
 ⟨(some 39),.mov (.tmp 9),some (38,false),0⟩,
 ⟨(some 40),.bin .eql (.tmp 39) (.cst (.c (.int .i64 10))),some (38,false),0⟩,
 ⟨(some 41),.pick (.tmp 38) (.cst (.c (.bool true))) (.tmp 40),some (35,true),0⟩,
 ⟨(some 42),.pick (.tmp 35) (.tmp 41) (.cst (.c (.bool false))),none,0⟩,
 ⟨(some 2),.mov (.tmp 27),none,0⟩,
 ⟨(some 3),.mov (.tmp 28),none,0⟩,
 ⟨(some 4),.mov (.tmp 42),none,0⟩])
 .ret))))))⟩
/-- 44 isatis/isatisref11.First | loop 0 vars [5] kill 34 makes false -/
def f44 : AFunc := ⟨42,[.tmp 4],false,
 (.seq (.region 1 [] [
 ⟨(some 2),.box (.tmp 0),none,0⟩,
 ⟨(some 4),.mov (.cst (.c (.int .i64 0))),none,1⟩])
 (.seq (.seq (.region 0 [] [
 ⟨(some 5),.mov (.cst (.c (.int .i64 0))),none,0⟩])
 (.block 0 (.loop ⟨[4,6,7,8,9,10,11,12,13,14,15,16,17,18,19,20,21,22,23,24,25,26,27,28,29,30,31,32,33,34,35,36,37,38],false,[]⟩
 (.seq (.seq (.region 0 [] [
 ⟨(some 6),.mov (.tmp 5),none,0⟩,
 ⟨(some 7),.mov (.tmp 1),none,0⟩,
 ⟨(some 8),.len (.tmp 7),none,0⟩,
 ⟨(some 9),.bin .lss (.tmp 6) (.tmp 8),none,0⟩])
 (.cond (.tmp 9)
 .skip
 (.exit 0)))
 (.seq (.block 1 (.seq (.region 0 [(3,6),(4,6),(5,6),(3,7),(4,7),(5,7),(14,15),(14,18),(15,18),(16,18),(17,18),(14,19),(15,19),(16,19),(17,19),(18,19),(14,20),(15,20),(16,20),(17,20),(18,20),(14,21),(15,21),(16,21),(17,21),(14,22),(15,22),(16,22),(17,22)] [
 ⟨(some 12),.mov (.tmp 5),none,0⟩,
 ⟨(some 13),.bin .eql (.tmp 12) (.cst (.c (.int .i64 0))),none,0⟩,
 ⟨(some 14),.mov (.tmp 13),none,0⟩,
 ⟨(some 15),.mov (.tmp 1),some (14,true),0⟩,
 ⟨(some 16),.iaddr 1 (.tmp 15) (.cst (.c (.int .i64 0))),some (14,true),0⟩,
 ⟨(some 17),.load none (.tmp 16),some (14,true),0⟩,
 ⟨(some 18),.faddr 1 (.tmp 2),some (14,true),0⟩,
 ⟨(some 19),.load none (.tmp 18),some (14,true),0⟩,
 ⟨(some 20),.bin .neq (.tmp 17) (.tmp 19),some (14,true),0⟩,
 ⟨(some 21),.pick (.tmp 14) (.tmp 20) (.cst (.c (.bool false))),none,0⟩,
 ⟨(some 22),.mov (.tmp 21),none,0⟩,
 ⟨(some 23),.mov (.tmp 5),some (22,false),0⟩,
 ⟨(some 24),.bin .gtr (.tmp 23) (.cst (.c (.int .i64 0))),some (22,false),0⟩,
 ⟨(some 25),.mov (.tmp 24),some (22,false),0⟩,
 ⟨(some 26),.mov (.tmp 1),some (25,true),0⟩,
 ⟨(some 27),.mov (.tmp 5),some (25,true),0⟩,
 ⟨(some 28),.iaddr 1 (.tmp 26) (.tmp 27),some (25,true),0⟩,
 ⟨(some 29),.load none (.tmp 28),some (25,true),0⟩,
 ⟨(some 30),.mov (.tmp 1),some (25,true),0⟩,
 ⟨(some 31),.mov (.tmp 5),some (25,true),0⟩,
 ⟨(some 32),.bin .sub (.tmp 31) (.cst (.c (.int .i64 1))),some (25,true),0⟩,
 ⟨(some 33),.iaddr 1 (.tmp 30) (.tmp 32),some (25,true),0⟩,
 ⟨(some 34),.load none (.tmp 33),some (25,true),0⟩,
 ⟨(some 35),.bin .neq (.tmp 29) (.tmp 34),some (25,true),0⟩,
 ⟨(some 36),.pick (.tmp 25) (.tmp 35) (.cst (.c (.bool false))),some (22,false),0⟩,
 ⟨(some 37),.pick (.tmp 22) (.cst (.c (.bool true))) (.tmp 36),none,0⟩])
 (.cond (.tmp 37)
 (.seq (.region 0 [] [
 ⟨(some 38),.mov (.tmp 5),none,0⟩,
 ⟨(some 4),.mov (.tmp 38),none,0⟩])
 .ret)
 .skip)))
 (.region 0 [] [
 ⟨(some 10),.mov (.tmp 5),none,0⟩,
 ⟨(some 11),.bin .add (.tmp 10) (.cst (.c (.int .i64 1))),none,0⟩,
 ⟨(some 5),.mov (.tmp 11),none,0⟩]))))))
 (.seq (.region 0 [] [
 ⟨(some 39),.faddr 0 (.tmp 2),none,0⟩,
 ⟨(some 40),.load none (.tmp 39),none,0⟩,
 ⟨(some 41),.bin .add (.tmp 40) (.cst (.c (.int .i64 1))),none,0⟩,
 ⟨(some 4),.mov (.tmp 41),none,0⟩])
 .ret)))⟩
/-- 45 isatis/move.ProvePlan -/
def f45 : AFunc := ⟨24,[.tmp 6],false,
 (.seq (.region 1 [] [
 ⟨(some 3),.box (.tmp 0),none,0⟩,
 ⟨(some 6),.mov (.cst (.c (.bool false))),none,1⟩])
 (.seq (.region 0 [] [
 ⟨(some 11),.load (some 7) (.tmp 3),none,0⟩,
 ⟨(some 12),.mov (.tmp 1),none,0⟩,
 ⟨(some 13),.call 39 true [(.tmp 11),(.tmp 12)],none,0⟩,
 ⟨(some 10),.mov (.tmp 13),none,0⟩,
 ⟨(some 14),.extract 0 (.tmp 10),none,0⟩,
 ⟨(some 15),.extract 1 (.tmp 10),none,0⟩,
 ⟨(some 16),.extract 2 (.tmp 10),none,0⟩,
 ⟨(some 7),.mov (.tmp 14),none,0⟩,
 ⟨(some 8),.mov (.tmp 15),none,0⟩,
 ⟨(some 9),.mov (.tmp 16),none,0⟩])
 (.seq (.region 0 [] [
 ⟨(some 17),.mov (.tmp 9),none,0⟩,
 ⟨(some 18),.bin .eql (.tmp 17) (.cst (.c (.int .i64 0))),none,0⟩,
 ⟨(some 19),.mov (.tmp 18),none,0⟩,
 ⟨(some 20),.mov (.tmp 7),some (19,true),0⟩,
 ⟨(some 21),.mov (.tmp 2),some (19,true),0⟩,
 ⟨(some 22),.bin .geq (.tmp 20) (.tmp 21),some (19,true),0⟩,
 ⟨(some 23),.pick (.tmp 19) (.tmp 22) (.cst (.c (.bool false))),none,0⟩,
 ⟨(some 6),.mov (.tmp 23),none,0⟩])
 .ret)))⟩
/-- 46 isatis/isatisref11.Sure | loop 0 vars [7,8,10] kill 51 makes false -/
def f46 : AFunc := ⟨63,[.tmp 4,.tmp 5,.tmp 6],false,
 (.seq (.region 1 [] [
 ⟨(some 2),.box (.tmp 0),none,0⟩,
 ⟨(some 4),.mov (.cst (.c (.int .i64 0))),none,1⟩,
 ⟨(some 5),.mov (.cst (.c .nils)),none,1⟩,
 ⟨(some 6),.mov (.cst (.c (.bool false))),none,1⟩])
 (.seq (.region 0 [] [
 ⟨(some 7),.mov (.cst (.c (.int .i64 1099511627776))),none,0⟩])
 (.seq (.region 0 [] [
 ⟨(some 8),.mov (.cst (.c .nils)),none,0⟩])
 (.seq (.region 0 [] [
 ⟨(some 14),.load (some 7) (.tmp 2),none,0⟩,
 ⟨(some 15),.call 70 true [(.tmp 14)],none,0⟩,
 ⟨(some 9),.mov (.tmp 15),none,0⟩])
 (.seq (.seq (.region 0 [] [
 ⟨(some 10),.mov (.cst (.c (.int .i64 0))),none,0⟩])
 (.block 0 (.loop ⟨[4,5,6,11,12,13,16,17,18,19,20,21,22,23,24,25,26,27,28,29,30,31,32,33,34,35,36,37,38,39,40,41,42,43,44,45,46,47,48,49,50,51,52,53,54,55,56,57,58,59,60],false,[]⟩
 (.seq (.seq (.region 0 [] [
 ⟨(some 16),.mov (.tmp 10),none,0⟩,
 ⟨(some 17),.mov (.tmp 9),none,0⟩,
 ⟨(some 18),.len (.tmp 17),none,0⟩,
 ⟨(some 19),.bin .lss (.tmp 16) (.tmp 18),none,0⟩])
 (.cond (.tmp 19)
 .skip
 (.exit 0)))
 (.seq (.block 1 (.seq (.region 0 [(0,1),(0,2),(1,2),(0,3),(1,3),(2,3),(0,4),(1,4),(0,5),(1,5),(8,9),(9,10)] [
 ⟨(some 23),.load (some 7) (.tmp 2),none,0⟩,
 ⟨(some 24),.mov (.tmp 1),none,0⟩,
 ⟨(some 25),.mov (.tmp 9),none,0⟩,
 ⟨(some 26),.mov (.tmp 10),none,0⟩,
 ⟨(some 27),.iaddr 1 (.tmp 25) (.tmp 26),none,0⟩,
 ⟨(some 28),.load none (.tmp 27),none,0⟩,
 ⟨(some 29),.call 25 true [(.tmp 23),(.tmp 24),(.tmp 28)],none,0⟩,
 ⟨(some 22),.mov (.tmp 29),none,0⟩,
 ⟨(some 30),.extract 0 (.tmp 22),none,0⟩,
 ⟨(some 31),.extract 1 (.tmp 22),none,0⟩,
 ⟨(some 11),.mov (.tmp 30),none,0⟩,
 ⟨(some 12),.mov (.tmp 31),none,0⟩])
 (.seq (.seq (.region 0 [] [
 ⟨(some 32),.mov (.tmp 12),none,0⟩,
 ⟨(some 33),.not (.tmp 32),none,0⟩])
 (.cond (.tmp 33)
 (.seq (.region 0 [] [
 ⟨(some 4),.mov (.cst (.c (.int .i64 0))),none,0⟩,
 ⟨(some 5),.mov (.cst (.c .nils)),none,0⟩,
 ⟨(some 6),.mov (.cst (.c (.bool false))),none,0⟩])
 .ret)
 .skip))
 (.seq (.region 0 [(0,1),(0,3),(1,3),(2,3),(0,4),(1,4),(2,4)] [
 ⟨(some 34),.load (some 7) (.tmp 2),none,0⟩,
 ⟨(some 35),.mov (.tmp 11),none,0⟩,
 ⟨(some 36),.call 69 true [(.tmp 34),(.tmp 35)],none,0⟩,
 ⟨(some 37),.faddr 2 (.tmp 2),none,0⟩,
 ⟨(some 38),.load none (.tmp 37),none,0⟩,
 ⟨(some 39),.bin .sub (.tmp 36) (.tmp 38),none,0⟩,
 ⟨(some 13),.mov (.tmp 39),none,0⟩])
 (.seq (.region 0 [] [
 ⟨(some 40),.mov (.tmp 13),none,0⟩,
 ⟨(some 41),.mov (.tmp 7),none,0⟩,
 ⟨(some 42),.bin .lss (.tmp 40) (.tmp 41),none,0⟩,
 ⟨(some 43),.mov (.tmp 42),none,0⟩,
 ⟨(some 44),.mov (.tmp 13),some (43,false),0⟩,
 ⟨(some 45),.mov (.tmp 7),some (43,false),0⟩,
 ⟨(some 46),.bin .eql (.tmp 44) (.tmp 45),some (43,false),0⟩,
 ⟨(some 47),.mov (.tmp 46),some (43,false),0⟩,
 ⟨(some 48),.mov (.tmp 9),some (47,true),0⟩,
 ⟨(some 49),.mov (.tmp 10),some (47,true),0⟩,
 ⟨(some 50),.iaddr 1 (.tmp 48) (.tmp 49),some (47,true),0⟩,
 ⟨(some 51),.load none (.tmp 50),some (47,true),0⟩,
 ⟨(some 52),.mov (.tmp 8),some (47,true),0⟩,
 ⟨(some 53),.call 71 true [(.tmp 51),(.tmp 52)],some (47,true),0⟩,
 ⟨(some 54),.pick (.tmp 47) (.tmp 53) (.cst (.c (.bool false))),some (43,false),0⟩,
 ⟨(some 55),.pick (.tmp 43) (.cst (.c (.bool true))) (.tmp 54),none,0⟩])
 (.cond (.tmp 55)
 (.region 0 [(0,1),(0,2),(1,2),(0,3),(0,4),(1,5),(2,5),(3,5),(4,5)] [
 ⟨(some 56),.mov (.tmp 13),none,0⟩,
 ⟨(some 57),.mov (.tmp 9),none,0⟩,
 ⟨(some 58),.mov (.tmp 10),none,0⟩,
 ⟨(some 59),.iaddr 1 (.tmp 57) (.tmp 58),none,0⟩,
 ⟨(some 60),.load none (.tmp 59),none,0⟩,
 ⟨(some 7),.mov (.tmp 56),none,0⟩,
 ⟨(some 8),.mov (.tmp 60),none,0⟩])
 .skip))))))
 (.region 0 [] [
 ⟨(some 20),.mov (.tmp 10),none,0⟩,
 ⟨(some 21),.bin .add (.tmp 20) (.cst (.c (.int .i64 1))),none,0⟩,
 ⟨(some 10),.mov (.tmp 21),none,0⟩]))))))
 (.seq (.region 0 [] [
 ⟨(some 61),.mov (.tmp 7),none,0⟩,
 ⟨(some 62),.mov (.tmp 8),none,0⟩,
 ⟨(some 4),.mov (.tmp 61),none,0⟩,
 ⟨(some 5),.mov (.tmp 62),none,0⟩,
 ⟨(some 6),.mov (.cst (.c (.bool true))),none,0⟩])
 .ret))))))⟩
/-- 47 isatis/isatislaw11.two -/
def f47 : AFunc := ⟨11,[.cell 2 (some 7)],false,
 (.seq (.region 1 [] [
 ⟨(some 2),.alloc [(.int .i64 0),(.int .i64 0),(.int .i64 0),(.int .i64 0),(.int .i64 0),.nils,.nils],none,0⟩])
 (.seq (.region 4 [] [
 ⟨(some 3),.mov (.tmp 0),none,0⟩,
 ⟨(some 4),.build [(.int .i64 0),(.int .i64 0),(.int .i64 0)] [(0,1,(.cst (.c (.int .i64 20)))),(1,1,(.cst (.c (.int .i64 12)))),(2,1,(.cst (.c (.int .i64 2))))],none,0⟩,
 ⟨(some 5),.build [(.int .i64 0),(.int .i64 0),(.int .i64 0)] [(0,1,(.cst (.c (.int .i64 30)))),(1,1,(.cst (.c (.int .i64 10)))),(2,1,(.cst (.c (.int .i64 4))))],none,0⟩,
 ⟨(some 6),.bslice 3 2 [(.int .i64 0),(.int .i64 0),(.int .i64 0)] [(0,(.tmp 4)),(1,(.tmp 5))],none,0⟩,
 ⟨(some 7),.bslice 1 2 [(.int .i64 0)] [(0,(.cst (.c (.int .i64 0)))),(1,(.cst (.c (.int .i64 5))))],none,1⟩,
 ⟨(some 8),.bslice 1 2 [(.int .i64 0)] [(0,(.cst (.c (.int .i64 5)))),(1,(.cst (.c (.int .i64 0))))],none,2⟩,
 ⟨(some 9),.bslice 1 2 [.nils] [(0,(.tmp 7)),(1,(.tmp 8))],none,3⟩,
 ⟨(some 10),.build [(.int .i64 0),(.int .i64 0),(.int .i64 0),(.int .i64 0),(.int .i64 0),.nils,.nils] [(0,1,(.cst (.c (.int .i64 2)))),(2,1,(.tmp 3)),(3,1,(.cst (.c (.int .i64 1)))),(4,1,(.cst (.c (.int .i64 2)))),(5,1,(.tmp 6)),(6,1,(.tmp 9))],none,4⟩,
 ⟨none,.store (some 7) (.tmp 2) (.tmp 10),none,4⟩])
 .ret))⟩
/-- 48 isatis/isatislaw11.year -/
def f48 : AFunc := ⟨11,[.cell 6 (some 3)],false,
 (.seq (.region 1 [] [
 ⟨(some 6),.alloc [(.int .i64 0),(.int .i64 0),(.int .i64 0)],none,0⟩])
 (.seq (.region 0 [] [
 ⟨(some 7),.mov (.tmp 0),none,0⟩,
 ⟨(some 8),.mov (.tmp 1),none,0⟩,
 ⟨(some 9),.mov (.tmp 2),none,0⟩,
 ⟨(some 10),.build [(.int .i64 0),(.int .i64 0),(.int .i64 0)] [(0,1,(.tmp 7)),(1,1,(.tmp 8)),(2,1,(.tmp 9))],none,0⟩,
 ⟨none,.store (some 3) (.tmp 6) (.tmp 10),none,0⟩])
 .ret))⟩
/-- 49 isatis/isatisref11.Fault | loop 0 vars [4] kill 67 makes true | loop 2 vars [6] kill 16 makes false -/
def f49 : AFunc := ⟨124,[.tmp 2],false,
 (.seq (.region 1 [] [
 ⟨(some 1),.box (.tmp 0),none,0⟩,
 ⟨(some 2),.mov (.cst (.c (.int .i64 0))),none,1⟩])
 (.seq (.region 0 [] [
 ⟨(some 7),.faddr 5 (.tmp 1),none,0⟩,
 ⟨(some 8),.load none (.tmp 7),none,0⟩,
 ⟨(some 9),.len (.tmp 8),none,0⟩,
 ⟨(some 3),.mov (.tmp 9),none,0⟩])
 (.seq (.seq (.region 0 [] [
 ⟨(some 10),.faddr 0 (.tmp 1),none,0⟩,
 ⟨(some 11),.load none (.tmp 10),none,0⟩,
 ⟨(some 12),.bin .gtr (.tmp 11) (.cst (.c (.int .i64 4))),none,0⟩,
 ⟨(some 13),.mov (.tmp 12),none,0⟩,
 ⟨(some 14),.mov (.tmp 3),some (13,false),0⟩,
 ⟨(some 15),.bin .gtr (.tmp 14) (.cst (.c (.int .i64 4))),some (13,false),0⟩,
 ⟨(some 16),.pick (.tmp 13) (.cst (.c (.bool true))) (.tmp 15),none,0⟩])
 (.cond (.tmp 16)
 (.seq (.region 0 [] [
 ⟨(some 2),.mov (.cst (.c (.int .i64 3))),none,0⟩])
 .ret)
 .skip))
 (.seq (.seq (.region 0 [] [
 ⟨(some 17),.faddr 0 (.tmp 1),none,0⟩,
 ⟨(some 18),.load none (.tmp 17),none,0⟩,
 ⟨(some 19),.bin .lss (.tmp 18) (.cst (.c (.int .i64 0))),none,0⟩,
 ⟨(some 20),.mov (.tmp 19),none,0⟩,
 ⟨(some 21),.mov (.tmp 3),some (20,false),0⟩,
 ⟨(some 22),.bin .eql (.tmp 21) (.cst (.c (.int .i64 0))),some (20,false),0⟩,
 ⟨(some 23),.pick (.tmp 20) (.cst (.c (.bool true))) (.tmp 22),none,0⟩,
 ⟨(some 24),.mov (.tmp 23),none,0⟩,
 ⟨(some 25),.faddr 1 (.tmp 1),some (24,false),0⟩,
 ⟨(some 26),.load none (.tmp 25),some (24,false),0⟩,
 ⟨(some 27),.mov (.tmp 3),some (24,false),0⟩,
 ⟨(some 28),.bin .sub (.tmp 27) (.cst (.c (.int .i64 1))),some (24,false),0⟩,
 ⟨(some 29),.call 32 true [(.tmp 26),(.cst (.c (.int .i64 0))),(.tmp 28)],some (24,false),0⟩,
 ⟨(some 30),.not (.tmp 29),some (24,false),0⟩,
 ⟨(some 31),.pick (.tmp 24) (.cst (.c (.bool true))) (.tmp 30),none,0⟩,
 ⟨(some 32),.mov (.tmp 31),none,0⟩,
 ⟨(some 33),.faddr 2 (.tmp 1),some (32,false),0⟩,
 ⟨(some 34),.load none (.tmp 33),some (32,false),0⟩,
 ⟨(some 35),.call 32 true [(.tmp 34),(.cst (.c (.int .i64 0))),(.cst (.c (.int .i64 999)))],some (32,false),0⟩,
 ⟨(some 36),.not (.tmp 35),some (32,false),0⟩,
 ⟨(some 37),.pick (.tmp 32) (.cst (.c (.bool true))) (.tmp 36),none,0⟩,
 ⟨(some 38),.mov (.tmp 37),none,0⟩,
 ⟨(some 39),.faddr 3 (.tmp 1),some (38,false),0⟩,
 ⟨(some 40),.load none (.tmp 39),some (38,false),0⟩,
 ⟨(some 41),.faddr 0 (.tmp 1),some (38,false),0⟩,
 ⟨(some 42),.load none (.tmp 41),some (38,false),0⟩,
 ⟨(some 43),.bin .add (.tmp 42) (.cst (.c (.int .i64 1))),some (38,false),0⟩,
 ⟨(some 44),.call 32 true [(.tmp 40),(.cst (.c (.int .i64 0))),(.tmp 43)],some (38,false),0⟩,
 ⟨(some 45),.not (.tmp 44),some (38,false),0⟩,
 ⟨(some 46),.pick (.tmp 38) (.cst (.c (.bool true))) (.tmp 45),none,0⟩,
 ⟨(some 47),.mov (.tmp 46),none,0⟩,
 ⟨(some 48),.faddr 4 (.tmp 1),some (47,false),0⟩,
 ⟨(some 49),.load none (.tmp 48),some (47,false),0⟩,
 ⟨(some 50),.call 32 true [(.tmp 49),(.cst (.c (.int .i64 1))),(.cst (.c (.int .i64 5)))],some (47,false),0⟩,
 ⟨(some 51),.not (.tmp 50),some (47,false),0⟩,
 ⟨(some 52),.pick (.tmp 47) (.cst (.c (.bool true))) (.tmp 51),none,0⟩,
 ⟨(some 53),.mov (.tmp 52),none,0⟩,
 ⟨(some 54),.faddr 6 (.tmp 1),some (53,false),0⟩,
 ⟨(some 55),.load none (.tmp 54),some (53,false),0⟩,
 ⟨(some 56),.len (.tmp 55),some (53,false),0⟩,
 ⟨(some 57),.mov (.tmp 3),some (53,false),0⟩,
 ⟨(some 58),.bin .neq (.tmp 56) (.tmp 57),some (53,false),0⟩,
 ⟨(some 59),.pick (.tmp 53) (.cst (.c (.bool true))) (.tmp 58),none,0⟩])
 (.cond (.tmp 59)
 (.seq (.region 0 [] [
 ⟨(some 2),.mov (.cst (.c (.int .i64 1))),none,0⟩])
 .ret)
 .skip))
 (.seq (.seq (.region 0 [] [
 ⟨(some 4),.mov (.cst (.c (.int .i64 0))),none,0⟩])
 (.block 0 (.loop ⟨[2,5,6,60,61,62,63,64,65,66,67,68,69,70,71,72,73,74,75,76,77,78,79,80,81,82,83,84,85,86,87,88,89,90,91,92,93,94,95,96,97,98,99,100,101,102,103,104,105,106,107,108,109,110,111,112,113,114,115,116,117,118,119,120,121,122,123],true,[]⟩
 (.seq (.seq (.region 0 [] [
 ⟨(some 60),.mov (.tmp 4),none,0⟩,
 ⟨(some 61),.mov (.tmp 3),none,0⟩,
 ⟨(some 62),.bin .lss (.tmp 60) (.tmp 61),none,0⟩])
 (.cond (.tmp 62)
 .skip
 (.exit 0)))
 (.seq (.block 1 (.seq (.region 1 [] [
 ⟨(some 65),.faddr 5 (.tmp 1),none,0⟩,
 ⟨(some 66),.load none (.tmp 65),none,0⟩,
 ⟨(some 67),.mov (.tmp 4),none,0⟩,
 ⟨(some 68),.iaddr 3 (.tmp 66) (.tmp 67),none,0⟩,
 ⟨(some 69),.load (some 3) (.tmp 68),none,0⟩,
 ⟨(some 5),.alloc [(.int .i64 0),(.int .i64 0),(.int .i64 0)],none,0⟩,
 ⟨none,.store (some 3) (.tmp 5) (.tmp 69),none,1⟩])
 (.seq (.seq (.region 0 [] [
 ⟨(some 70),.faddr 0 (.tmp 5),none,0⟩,
 ⟨(some 71),.load none (.tmp 70),none,0⟩,
 ⟨(some 72),.call 32 true [(.tmp 71),(.cst (.c (.int .i64 0))),(.cst (.c (.int .i64 99)))],none,0⟩,
 ⟨(some 73),.not (.tmp 72),none,0⟩,
 ⟨(some 74),.mov (.tmp 73),none,0⟩,
 ⟨(some 75),.faddr 1 (.tmp 5),some (74,false),0⟩,
 ⟨(some 76),.load none (.tmp 75),some (74,false),0⟩,
 ⟨(some 77),.faddr 0 (.tmp 5),some (74,false),0⟩,
 ⟨(some 78),.load none (.tmp 77),some (74,false),0⟩,
 ⟨(some 79),.call 32 true [(.tmp 76),(.cst (.c (.int .i64 0))),(.tmp 78)],some (74,false),0⟩,
 ⟨(some 80),.not (.tmp 79),some (74,false),0⟩,
 ⟨(some 81),.pick (.tmp 74) (.cst (.c (.bool true))) (.tmp 80),none,0⟩,
 ⟨(some 82),.mov (.tmp 81),none,0⟩,
 ⟨(some 83),.faddr 2 (.tmp 5),some (82,false),0⟩,
 ⟨(some 84),.load none (.tmp 83),some (82,false),0⟩,
 ⟨(some 85),.call 32 true [(.tmp 84),(.cst (.c (.int .i64 0))),(.cst (.c (.int .i64 99)))],some (82,false),0⟩,
 ⟨(some 86),.not (.tmp 85),some (82,false),0⟩,
 ⟨(some 87),.pick (.tmp 82) (.cst (.c (.bool true))) (.tmp 86),none,0⟩,
 ⟨(some 88),.mov (.tmp 87),none,0⟩,
 ⟨(some 89),.faddr 6 (.tmp 1),some (88,false),0⟩,
 ⟨(some 90),.load none (.tmp 89),some (88,false),0⟩,
 ⟨(some 91),.mov (.tmp 4),some (88,false),0⟩,
 ⟨(some 92),.iaddr 1 (.tmp 90) (.tmp 91),some (88,false),0⟩,
 ⟨(some 93),.load none (.tmp 92),some (88,false),0⟩,
 ⟨(some 94),.len (.tmp 93),some (88,false),0⟩,
 ⟨(some 95),.mov (.tmp 3),some (88,false),0⟩,
 ⟨(some 96),.bin .neq (.tmp 94) (.tmp 95),some (88,false),0⟩,
 ⟨(some 97),.pick (.tmp 88) (.cst (.c (.bool true))) (.tmp 96),none,0⟩,
 ⟨(some 98),.mov (.tmp 97),none,0⟩,
 ⟨(some 99),.faddr 6 (.tmp 1),some (98,false),0⟩,
 ⟨(some 100),.load none (.tmp 99),some (98,false),0⟩,
 ⟨(some 101),.mov (.tmp 4),some (98,false),0⟩,
 ⟨(some 102),.iaddr 1 (.tmp 100) (.tmp 101),some (98,false),0⟩,
 ⟨(some 103),.load none (.tmp 102),some (98,false),0⟩,
 ⟨(some 104),.mov (.tmp 4),some (98,false),0⟩,
 ⟨(some 105),.iaddr 1 (.tmp 103) (.tmp 104),some (98,false),0⟩,
 ⟨(some 106),.load none (.tmp 105),some (98,false),0⟩,
 ⟨(some 107),.bin .neq (.tmp 106) (.cst (.c (.int .i64 0))),some (98,false),0⟩,
 ⟨(some 108),.pick (.tmp 98) (.cst (.c (.bool true))) (.tmp 107),none,0⟩])
 (.cond (.tmp 108)
 (.seq (.region 0 [] [
 ⟨(some 2),.mov (.cst (.c (.int .i64 1))),none,0⟩])
 .ret)
 .skip))
 (.seq (.region 0 [] [
 ⟨(some 6),.mov (.cst (.c (.int .i64 0))),none,0⟩])
 (.block 2 (.loop ⟨[2,109,110,111,112,113,114,115,116,117,118,119,120,121,122,123],false,[]⟩
 (.seq (.seq (.region 0 [] [
 ⟨(some 109),.mov (.tmp 6),none,0⟩,
 ⟨(some 110),.mov (.tmp 3),none,0⟩,
 ⟨(some 111),.bin .lss (.tmp 109) (.tmp 110),none,0⟩])
 (.cond (.tmp 111)
 .skip
 (.exit 2)))
 (.seq (.block 3 (.seq (.region 0 [] [
 ⟨(some 114),.faddr 6 (.tmp 1),none,0⟩,
 ⟨(some 115),.load none (.tmp 114),none,0⟩,
 ⟨(some 116),.mov (.tmp 4),none,0⟩,
 ⟨(some 117),.iaddr 1 (.tmp 115) (.tmp 116),none,0⟩,
 ⟨(some 118),.load none (.tmp 117),none,0⟩,
 ⟨(some 119),.mov (.tmp 6),none,0⟩,
 ⟨(some 120),.iaddr 1 (.tmp 118) (.tmp 119),none,0⟩,
 ⟨(some 121),.load none (.tmp 120),none,0⟩,
 ⟨(some 122),.call 32 true [(.tmp 121),(.cst (.c (.int .i64 0))),(.cst (.c (.int .i64 99)))],none,0⟩,
 ⟨(some 123),.not (.tmp 122),none,0⟩])
 (.cond (.tmp 123)
 (.seq (.region 0 [] [
 ⟨(some 2),.mov (.cst (.c (.int .i64 1))),none,0⟩])
 .ret)
 .skip)))
 (.region 0 [] [
 ⟨(some 112),.mov (.tmp 6),none,0⟩,
 ⟨(some 113),.bin .add (.tmp 112) (.cst (.c (.int .i64 1))),none,0⟩,
 ⟨(some 6),.mov (.tmp 113),none,0⟩])))))))))
 (.region 0 [] [
 ⟨(some 63),.mov (.tmp 4),none,0⟩,
 ⟨(some 64),.bin .add (.tmp 63) (.cst (.c (.int .i64 1))),none,0⟩,
 ⟨(some 4),.mov (.tmp 64),none,0⟩]))))))
 (.seq (.region 0 [] [
 ⟨(some 2),.mov (.cst (.c (.int .i64 0))),none,0⟩])
 .ret))))))⟩
/-- 50 isatis/isatisref11.Plans | loop 0 vars [3,4] kill 11 makes false -/
def f50 : AFunc := ⟨17,[.tmp 2],false,
 (.seq (.region 1 [] [
 ⟨(some 1),.box (.tmp 0),none,0⟩,
 ⟨(some 2),.mov (.cst (.c (.int .i64 0))),none,1⟩])
 (.seq (.region 0 [] [
 ⟨(some 3),.mov (.cst (.c (.int .i64 1))),none,0⟩])
 (.seq (.seq (.region 0 [] [
 ⟨(some 4),.mov (.cst (.c (.int .i64 0))),none,0⟩])
 (.block 0 (.loop ⟨[5,6,7,8,9,10,11,12,13,14,15],false,[]⟩
 (.seq (.seq (.region 0 [] [
 ⟨(some 5),.mov (.tmp 4),none,0⟩,
 ⟨(some 6),.faddr 0 (.tmp 1),none,0⟩,
 ⟨(some 7),.load none (.tmp 6),none,0⟩,
 ⟨(some 8),.bin .leq (.tmp 5) (.tmp 7),none,0⟩])
 (.cond (.tmp 8)
 .skip
 (.exit 0)))
 (.seq (.block 1 (.region 0 [] [
 ⟨(some 11),.mov (.tmp 3),none,0⟩,
 ⟨(some 12),.faddr 5 (.tmp 1),none,0⟩,
 ⟨(some 13),.load none (.tmp 12),none,0⟩,
 ⟨(some 14),.len (.tmp 13),none,0⟩,
 ⟨(some 15),.bin .mul (.tmp 11) (.tmp 14),none,0⟩,
 ⟨(some 3),.mov (.tmp 15),none,0⟩]))
 (.region 0 [] [
 ⟨(some 9),.mov (.tmp 4),none,0⟩,
 ⟨(some 10),.bin .add (.tmp 9) (.cst (.c (.int .i64 1))),none,0⟩,
 ⟨(some 4),.mov (.tmp 10),none,0⟩]))))))
 (.seq (.region 0 [] [
 ⟨(some 16),.mov (.tmp 3),none,0⟩,
 ⟨(some 2),.mov (.tmp 16),none,0⟩])
 .ret))))⟩
/-- 51 (isatis/move.Land).isPlan -/
def f51 : AFunc := ⟨19,[.tmp 4],false,
 (.seq (.region 1 [] [
 ⟨(some 2),.box (.tmp 0),none,0⟩,
 ⟨(some 4),.mov (.cst (.c (.bool false))),none,1⟩])
 (.seq (.region 0 [] [
 ⟨(some 6),.load (some 7) (.tmp 2),none,0⟩,
 ⟨(some 7),.mkfn 55 (some (.tmp 6)) [],none,0⟩,
 ⟨(some 5),.mov (.tmp 7),none,0⟩])
 (.seq (.region 0 [] [
 ⟨(some 8),.mov (.tmp 1),none,0⟩,
 ⟨(some 9),.len (.tmp 8),none,0⟩,
 ⟨(some 10),.faddr 0 (.tmp 2),none,0⟩,
 ⟨(some 11),.load none (.tmp 10),none,0⟩,
 ⟨(some 12),.bin .add (.tmp 11) (.cst (.c (.int .i64 1))),none,0⟩,
 ⟨(some 13),.bin .eql (.tmp 9) (.tmp 12),none,0⟩,
 ⟨(some 14),.mov (.tmp 13),none,0⟩,
 ⟨(some 15),.mov (.tmp 1),some (14,true),0⟩,
 ⟨(some 16),.mov (.tmp 5),some (14,true),0⟩,
 ⟨(some 17),.call 67 false [(.tmp 15),(.tmp 16)],some (14,true),0⟩,
 ⟨(some 18),.pick (.tmp 14) (.tmp 17) (.cst (.c (.bool false))),none,0⟩,
 ⟨(some 4),.mov (.tmp 18),none,0⟩])
 .ret)))⟩
/-- 52 (isatis/move.Land).isWeather -/
def f52 : AFunc := ⟨18,[.tmp 6],false,
 (.seq (.region 2 [] [
 ⟨(some 3),.box (.tmp 0),none,0⟩,
 ⟨(some 5),.box (.tmp 2),none,1⟩,
 ⟨(some 6),.mov (.cst (.c (.bool false))),none,2⟩])
 (.seq (.region 1 [] [
 ⟨(some 7),.alloc [(.int .i64 0)],none,0⟩,
 ⟨none,.store none (.tmp 7) (.cst (.c (.int .i64 (-1)))),none,1⟩])
 (.seq (.region 0 [] [
 ⟨(some 8),.mov (.tmp 1),none,0⟩,
 ⟨(some 9),.len (.tmp 8),none,0⟩,
 ⟨(some 10),.faddr 3 (.tmp 3),none,0⟩,
 ⟨(some 11),.load none (.tmp 10),none,0⟩,
 ⟨(some 12),.bin .leq (.tmp 9) (.tmp 11),none,0⟩,
 ⟨(some 13),.mov (.tmp 12),none,0⟩,
 ⟨(some 14),.mov (.tmp 1),some (13,true),0⟩,
 ⟨(some 15),.mkfn 72 none [(.tmp 7),(.tmp 5)],some (13,true),0⟩,
 ⟨(some 16),.call 67 false [(.tmp 14),(.tmp 15)],some (13,true),0⟩,
 ⟨(some 17),.pick (.tmp 13) (.tmp 16) (.cst (.c (.bool false))),none,0⟩,
 ⟨(some 6),.mov (.tmp 17),none,0⟩])
 .ret)))⟩
/-- 53 (isatis/move.Land).play | loop 0 vars [6,18] kill 35 makes true reify [(6,(none,3))] -/
def f53 : AFunc := ⟨50,[.tmp 6,.cell 7 (some 11),.tmp 8],false,
 (.seq (.region 2 [] [
 ⟨(some 3),.box (.tmp 0),none,0⟩,
 ⟨(some 6),.mov (.cst (.c .nils)),none,1⟩,
 ⟨(some 7),.alloc [(.int .i64 0),(.int .i64 0),(.int .i64 0),(.int .i64 0),(.int .i64 0),(.int .i64 0),(.int .i64 0),(.int .i64 0),(.int .i64 0),(.int .i64 0),(.int .i64 0)],none,1⟩,
 ⟨(some 8),.mov (.cst (.c (.bool false))),none,2⟩])
 (.seq (.region 0 [] [
 ⟨(some 14),.load (some 7) (.tmp 3),none,0⟩,
 ⟨(some 15),.call 73 true [(.tmp 14)],none,0⟩,
 ⟨none,.store (some 11) (.tmp 7) (.tmp 15),none,0⟩])
 (.seq (.seq (.region 0 [] [
 ⟨(some 16),.mov (.tmp 1),none,0⟩,
 ⟨(some 17),.len (.tmp 16),none,0⟩,
 ⟨(some 18),.mov (.cst (.c (.int .i64 0))),none,0⟩])
 (.block 0 (.loop ⟨[8,9,10,11,12,13,19,20,21,22,23,24,25,26,27,28,29,30,31,32,33,34,35,36,37,38,39,40,41,42,43,44,45,46,47],true,[(6,none,3)]⟩
 (.seq (.region 0 [] [
 ⟨(some 19),.bin .lss (.tmp 18) (.tmp 17),none,0⟩])
 (.seq (.cond (.tmp 19)
 .skip
 (.exit 0))
 (.seq (.block 1 (.seq (.region 0 [] [
 ⟨(some 20),.mov (.tmp 18),none,0⟩,
 ⟨(some 21),.iaddr 1 (.tmp 16) (.tmp 18),none,0⟩,
 ⟨(some 22),.load none (.tmp 21),none,0⟩,
 ⟨(some 9),.mov (.tmp 20),none,0⟩,
 ⟨(some 10),.mov (.tmp 22),none,0⟩])
 (.seq (.seq (.region 0 [] [
 ⟨(some 24),.load (some 7) (.tmp 3),none,0⟩,
 ⟨(some 25),.load (some 11) (.tmp 7),none,0⟩,
 ⟨(some 26),.mov (.tmp 10),none,0⟩,
 ⟨(some 27),.call 74 true [(.tmp 24),(.tmp 25),(.tmp 26)],none,0⟩,
 ⟨(some 23),.mov (.tmp 27),none,0⟩,
 ⟨(some 28),.extract 0 (.tmp 23),none,0⟩,
 ⟨(some 29),.extract 1 (.tmp 23),none,0⟩,
 ⟨(some 11),.mov (.tmp 28),none,0⟩,
 ⟨(some 12),.mov (.tmp 29),none,0⟩])
 (.seq (.region 0 [] [
 ⟨(some 30),.mov (.tmp 12),none,0⟩,
 ⟨(some 31),.not (.tmp 30),none,0⟩])
 (.cond (.tmp 31)
 (.seq (.region 0 [(0,1)] [
 ⟨(some 32),.load (some 11) (.tmp 7),none,0⟩,
 ⟨(some 6),.mov (.cst (.c .nils)),none,0⟩,
 ⟨none,.store (some 11) (.tmp 7) (.tmp 32),none,0⟩,
 ⟨(some 8),.mov (.cst (.c (.bool false))),none,0⟩])
 .ret)
 .skip)))
 (.seq (.region 1 [] [
 ⟨(some 13),.alloc [(.int .i64 0),(.int .i64 0),(.int .i64 0)],none,0⟩])
 (.seq (.region 0 [(0,1),(0,2),(1,2),(0,3),(1,3),(2,3),(0,4),(1,4),(2,4),(3,4),(0,5),(1,5),(2,5),(8,9),(9,10)] [
 ⟨(some 34),.load (some 7) (.tmp 3),none,0⟩,
 ⟨(some 35),.load (some 11) (.tmp 7),none,0⟩,
 ⟨(some 36),.mov (.tmp 10),none,0⟩,
 ⟨(some 37),.mov (.tmp 2),none,0⟩,
 ⟨(some 38),.mov (.tmp 9),none,0⟩,
 ⟨(some 39),.call 76 true [(.tmp 37),(.tmp 38)],none,0⟩,
 ⟨(some 40),.call 75 true [(.tmp 34),(.tmp 35),(.tmp 36),(.tmp 39)],none,0⟩,
 ⟨(some 33),.mov (.tmp 40),none,0⟩,
 ⟨(some 41),.extract 0 (.tmp 33),none,0⟩,
 ⟨(some 42),.extract 1 (.tmp 33),none,0⟩,
 ⟨none,.store (some 11) (.tmp 7) (.tmp 41),none,0⟩,
 ⟨none,.store (some 3) (.tmp 13) (.tmp 42),none,0⟩])
 (.region 2 [] [
 ⟨(some 43),.mov (.tmp 6),none,0⟩,
 ⟨(some 44),.load (some 3) (.tmp 13),none,0⟩,
 ⟨(some 45),.bslice 3 1 [(.int .i64 0),(.int .i64 0),(.int .i64 0)] [(0,(.tmp 44))],none,0⟩,
 ⟨(some 46),.append 3 24 (.tmp 43) (.tmp 45),none,1⟩,
 ⟨(some 6),.mov (.tmp 46),none,2⟩]))))))
 (.region 0 [] [
 ⟨(some 47),.bin .add (.tmp 18) (.cst (.c (.int .i64 1))),none,0⟩,
 ⟨(some 18),.mov (.tmp 47),none,0⟩])))))))
 (.seq (.region 0 [(0,1),(1,2)] [
 ⟨(some 48),.mov (.tmp 6),none,0⟩,
 ⟨(some 49),.load (some 11) (.tmp 7),none,0⟩,
 ⟨(some 6),.mov (.tmp 48),none,0⟩,
 ⟨none,.store (some 11) (.tmp 7) (.tmp 49),none,0⟩,
 ⟨(some 8),.mov (.cst (.c (.bool true))),none,0⟩])
 .ret))))⟩
/-- 54 (isatis/move.Land).site -/
def f54 : AFunc := ⟨25,[.tmp 4],true,
 (.seq (.region 2 [] [
 ⟨(some 2),.box (.tmp 0),none,0⟩,
 ⟨(some 3),.box (.tmp 1),none,1⟩,
 ⟨(some 4),.mov (.cst (.c (.bool false))),none,2⟩])
 (.seq (.region 0 [] [
 ⟨(some 5),.faddr 0 (.tmp 3),none,0⟩,
 ⟨(some 6),.load none (.tmp 5),none,0⟩,
 ⟨(some 7),.call 77 true [(.tmp 6)],none,0⟩,
 ⟨(some 8),.mov (.tmp 7),none,0⟩,
 ⟨(some 9),.faddr 1 (.tmp 3),some (8,true),0⟩,
 ⟨(some 10),.load none (.tmp 9),some (8,true),0⟩,
 ⟨(some 11),.call 77 true [(.tmp 10)],some (8,true),0⟩,
 ⟨(some 12),.pick (.tmp 8) (.tmp 11) (.cst (.c (.bool false))),none,0⟩,
 ⟨(some 13),.mov (.tmp 12),none,0⟩,
 ⟨(some 14),.faddr 2 (.tmp 3),some (13,true),0⟩,
 ⟨(some 15),.load none (.tmp 14),some (13,true),0⟩,
 ⟨(some 16),.call 77 true [(.tmp 15)],some (13,true),0⟩,
 ⟨(some 17),.pick (.tmp 13) (.tmp 16) (.cst (.c (.bool false))),none,0⟩,
 ⟨(some 18),.mov (.tmp 17),none,0⟩,
 ⟨(some 19),.faddr 1 (.tmp 3),some (18,true),0⟩,
 ⟨(some 20),.load none (.tmp 19),some (18,true),0⟩,
 ⟨(some 21),.faddr 0 (.tmp 3),some (18,true),0⟩,
 ⟨(some 22),.load none (.tmp 21),some (18,true),0⟩,
 ⟨(some 23),.bin .leq (.tmp 20) (.tmp 22),some (18,true),0⟩,
 ⟨(some 24),.pick (.tmp 18) (.tmp 23) (.cst (.c (.bool false))),none,0⟩,
 ⟨(some 4),.mov (.tmp 24),none,0⟩])
 .ret))⟩
/-- 55 (isatis/move.Land).isSite -/
def f55 : AFunc := ⟨11,[.tmp 4],true,
 (.seq (.region 1 [] [
 ⟨(some 2),.box (.tmp 0),none,0⟩,
 ⟨(some 4),.mov (.cst (.c (.bool false))),none,1⟩])
 (.seq (.region 0 [] [
 ⟨(some 5),.mov (.tmp 1),none,0⟩,
 ⟨(some 6),.faddr 5 (.tmp 2),none,0⟩,
 ⟨(some 7),.load none (.tmp 6),none,0⟩,
 ⟨(some 8),.len (.tmp 7),none,0⟩,
 ⟨(some 9),.bin .sub (.tmp 8) (.cst (.c (.int .i64 1))),none,0⟩,
 ⟨(some 10),.call 56 true [(.tmp 5),(.cst (.c (.int .i64 0))),(.tmp 9)],none,0⟩,
 ⟨(some 4),.mov (.tmp 10),none,0⟩])
 .ret))⟩
/-- 56 isatis/move.within -/
def f56 : AFunc := ⟨15,[.tmp 6],false,
 (.seq (.region 0 [] [
 ⟨(some 6),.mov (.cst (.c (.bool false))),none,0⟩])
 (.seq (.region 0 [] [
 ⟨(some 7),.mov (.tmp 1),none,0⟩,
 ⟨(some 8),.mov (.tmp 0),none,0⟩,
 ⟨(some 9),.bin .leq (.tmp 7) (.tmp 8),none,0⟩,
 ⟨(some 10),.mov (.tmp 9),none,0⟩,
 ⟨(some 11),.mov (.tmp 0),some (10,true),0⟩,
 ⟨(some 12),.mov (.tmp 2),some (10,true),0⟩,
 ⟨(some 13),.bin .leq (.tmp 11) (.tmp 12),some (10,true),0⟩,
 ⟨(some 14),.pick (.tmp 10) (.tmp 13) (.cst (.c (.bool false))),none,0⟩,
 ⟨(some 6),.mov (.tmp 14),none,0⟩])
 .ret))⟩
/-- 57 isatis/move.all[isatis/move.Site] -/
def f57 : AFunc := ⟨9,[.tmp 4],false,
 (.seq (.region 1 [] [
 ⟨(some 3),.box (.tmp 1),none,0⟩,
 ⟨(some 4),.mov (.cst (.c (.bool false))),none,1⟩])
 (.seq (.region 0 [] [
 ⟨(some 5),.mov (.tmp 0),none,0⟩,
 ⟨(some 6),.mkfn 79 none [(.tmp 3)],none,0⟩,
 ⟨(some 7),.call 78 false [(.tmp 5),(.tmp 6)],none,0⟩,
 ⟨(some 8),.not (.tmp 7),none,0⟩,
 ⟨(some 4),.mov (.tmp 8),none,0⟩])
 .ret))⟩
/-- 58 (isatis/move.Land).roads | loop 0 vars [8] kill 30 makes true -/
def f58 : AFunc := ⟨43,[.tmp 2],false,
 (.seq (.region 1 [] [
 ⟨(some 1),.box (.tmp 0),none,0⟩,
 ⟨(some 2),.mov (.cst (.c (.bool false))),none,1⟩])
 (.seq (.seq (.region 0 [] [
 ⟨(some 5),.faddr 6 (.tmp 1),none,0⟩,
 ⟨(some 6),.load none (.tmp 5),none,0⟩,
 ⟨(some 7),.len (.tmp 6),none,0⟩,
 ⟨(some 8),.mov (.cst (.c (.int .i64 0))),none,0⟩])
 (.block 0 (.loop ⟨[2,3,4,9,10,11,12,13,14,15,16,17,18,19,20,21,22,23,24,25,26,27,28,29,30,31,32,33,34,35],true,[]⟩
 (.seq (.region 0 [] [
 ⟨(some 9),.bin .lss (.tmp 8) (.tmp 7),none,0⟩])
 (.seq (.cond (.tmp 9)
 .skip
 (.exit 0))
 (.seq (.block 1 (.seq (.region 0 [] [
 ⟨(some 10),.mov (.tmp 8),none,0⟩,
 ⟨(some 11),.iaddr 1 (.tmp 6) (.tmp 8),none,0⟩,
 ⟨(some 12),.load none (.tmp 11),none,0⟩,
 ⟨(some 3),.mov (.tmp 10),none,0⟩,
 ⟨(some 4),.mov (.tmp 12),none,0⟩])
 (.seq (.region 0 [] [
 ⟨(some 13),.mov (.tmp 4),none,0⟩,
 ⟨(some 14),.len (.tmp 13),none,0⟩,
 ⟨(some 15),.faddr 5 (.tmp 1),none,0⟩,
 ⟨(some 16),.load none (.tmp 15),none,0⟩,
 ⟨(some 17),.len (.tmp 16),none,0⟩,
 ⟨(some 18),.bin .neq (.tmp 14) (.tmp 17),none,0⟩,
 ⟨(some 19),.mov (.tmp 18),none,0⟩,
 ⟨(some 20),.mov (.tmp 4),some (19,false),0⟩,
 ⟨(some 21),.call 67 false [(.tmp 20),(.cst (.c (.fn 77 false [] [])))],some (19,false),0⟩,
 ⟨(some 22),.not (.tmp 21),some (19,false),0⟩,
 ⟨(some 23),.pick (.tmp 19) (.cst (.c (.bool true))) (.tmp 22),none,0⟩,
 ⟨(some 24),.mov (.tmp 23),none,0⟩,
 ⟨(some 25),.mov (.tmp 4),some (24,false),0⟩,
 ⟨(some 26),.mov (.tmp 3),some (24,false),0⟩,
 ⟨(some 27),.mov (.tmp 4),some (24,false),0⟩,
 ⟨(some 28),.len (.tmp 27),some (24,false),0⟩,
 ⟨(some 29),.bin .sub (.tmp 28) (.cst (.c (.int .i64 1))),some (24,false),0⟩,
 ⟨(some 30),.mm false (.tmp 26) (.tmp 29),some (24,false),0⟩,
 ⟨(some 31),.iaddr 1 (.tmp 25) (.tmp 30),some (24,false),0⟩,
 ⟨(some 32),.load none (.tmp 31),some (24,false),0⟩,
 ⟨(some 33),.bin .neq (.tmp 32) (.cst (.c (.int .i64 0))),some (24,false),0⟩,
 ⟨(some 34),.pick (.tmp 24) (.cst (.c (.bool true))) (.tmp 33),none,0⟩])
 (.cond (.tmp 34)
 (.seq (.region 0 [] [
 ⟨(some 2),.mov (.cst (.c (.bool false))),none,0⟩])
 .ret)
 .skip))))
 (.region 0 [] [
 ⟨(some 35),.bin .add (.tmp 8) (.cst (.c (.int .i64 1))),none,0⟩,
 ⟨(some 8),.mov (.tmp 35),none,0⟩])))))))
 (.seq (.region 0 [] [
 ⟨(some 36),.faddr 6 (.tmp 1),none,0⟩,
 ⟨(some 37),.load none (.tmp 36),none,0⟩,
 ⟨(some 38),.len (.tmp 37),none,0⟩,
 ⟨(some 39),.faddr 5 (.tmp 1),none,0⟩,
 ⟨(some 40),.load none (.tmp 39),none,0⟩,
 ⟨(some 41),.len (.tmp 40),none,0⟩,
 ⟨(some 42),.bin .eql (.tmp 38) (.tmp 41),none,0⟩,
 ⟨(some 2),.mov (.tmp 42),none,0⟩])
 .ret)))⟩
/-- 59 isatis/isatisref11.Cost -/
def f59 : AFunc := ⟨38,[.tmp 6],false,
 (.seq (.region 1 [] [
 ⟨(some 3),.box (.tmp 0),none,0⟩,
 ⟨(some 6),.mov (.cst (.c (.int .i64 0))),none,1⟩])
 (.seq (.region 0 [] [
 ⟨(some 8),.faddr 1 (.tmp 3),none,0⟩,
 ⟨(some 9),.load none (.tmp 8),none,0⟩,
 ⟨(some 7),.mov (.tmp 9),none,0⟩])
 (.seq (.seq (.region 0 [] [
 ⟨(some 10),.mov (.tmp 2),none,0⟩,
 ⟨(some 11),.bin .gtr (.tmp 10) (.cst (.c (.int .i64 0))),none,0⟩])
 (.cond (.tmp 11)
 (.region 0 [] [
 ⟨(some 12),.mov (.tmp 1),none,0⟩,
 ⟨(some 13),.mov (.tmp 2),none,0⟩,
 ⟨(some 14),.bin .sub (.tmp 13) (.cst (.c (.int .i64 1))),none,0⟩,
 ⟨(some 15),.iaddr 1 (.tmp 12) (.tmp 14),none,0⟩,
 ⟨(some 16),.load none (.tmp 15),none,0⟩,
 ⟨(some 7),.mov (.tmp 16),none,0⟩])
 .skip))
 (.seq (.region 0 [(0,2),(1,2),(0,5),(1,5),(2,5),(3,5),(4,5),(0,6),(1,6),(2,6),(3,6),(4,6),(5,6),(0,7),(1,7),(2,7),(3,7),(4,7),(0,8),(1,8),(2,8),(3,8),(4,8),(0,11),(1,11),(2,11),(3,11),(4,11),(5,11),(6,11),(7,11),(8,11),(9,11),(10,11),(0,12),(1,12),(2,12),(3,12),(4,12),(5,12),(6,12),(7,12),(8,12),(9,12),(10,12),(0,13),(1,13),(2,13),(3,13),(4,13),(5,13),(6,13),(7,13),(8,13),(9,13),(10,13),(11,13),(12,13),(0,14),(1,14),(2,14),(3,14),(4,14),(5,14),(6,14),(7,14),(8,14),(9,14),(10,14),(11,14),(12,14),(13,14),(0,15),(1,15),(2,15),(3,15),(4,15),(5,15),(6,15),(7,15),(8,15),(9,15),(10,15),(11,15),(12,15),(0,16),(1,16),(2,16),(3,16),(4,16),(5,16),(6,16),(7,16),(8,16),(9,16),(10,16),(11,16),(12,16),(0,17),(1,17),(2,17),(3,17),(4,17),(5,17),(6,17),(7,17),(8,17),(9,17),(10,17),(0,18),(1,18),(2,18),(3,18),(4,18),(5,18),(6,18),(7,18),(8,18),(9,18),(10,18),(0,19),(1,19),(2,19),(3,19),(4,19),(5,19),(6,19),(7,19),(8,19),(9,19),(10,19)] [
 ⟨(some 17),.faddr 6 (.tmp 3),none,0⟩,
 ⟨(some 18),.load none (.tmp 17),none,0⟩,
 ⟨(some 19),.mov (.tmp 7),none,0⟩,
 ⟨(some 20),.iaddr 1 (.tmp 18) (.tmp 19),none,0⟩,
 ⟨(some 21),.load none (.tmp 20),none,0⟩,
 ⟨(some 22),.mov (.tmp 1),none,0⟩,
 ⟨(some 23),.mov (.tmp 2),none,0⟩,
 ⟨(some 24),.iaddr 1 (.tmp 22) (.tmp 23),none,0⟩,
 ⟨(some 25),.load none (.tmp 24),none,0⟩,
 ⟨(some 26),.iaddr 1 (.tmp 21) (.tmp 25),none,0⟩,
 ⟨(some 27),.load none (.tmp 26),none,0⟩,
 ⟨(some 28),.faddr 5 (.tmp 3),none,0⟩,
 ⟨(some 29),.load none (.tmp 28),none,0⟩,
 ⟨(some 30),.mov (.tmp 1),none,0⟩,
 ⟨(some 31),.mov (.tmp 2),none,0⟩,
 ⟨(some 32),.iaddr 1 (.tmp 30) (.tmp 31),none,0⟩,
 ⟨(some 33),.load none (.tmp 32),none,0⟩,
 ⟨(some 34),.iaddr 3 (.tmp 29) (.tmp 33),none,0⟩,
 ⟨(some 35),.faddr 2 (.tmp 34),none,0⟩,
 ⟨(some 36),.load none (.tmp 35),none,0⟩,
 ⟨(some 37),.bin .add (.tmp 27) (.tmp 36),none,0⟩,
 ⟨(some 6),.mov (.tmp 37),none,0⟩])
 .ret))))⟩
/-- 60 isatis/isatisref11.Crop -/
def f60 : AFunc := ⟨39,[.tmp 8],false,
 (.seq (.region 1 [] [
 ⟨(some 4),.box (.tmp 0),none,0⟩,
 ⟨(some 8),.mov (.cst (.c (.int .i64 0))),none,1⟩])
 (.seq (.region 1 [(0,2),(1,2),(0,3),(1,3),(2,3),(0,4),(1,4),(0,5),(1,5),(0,8),(1,8),(2,8),(3,8),(4,8),(5,8),(6,8),(7,8)] [
 ⟨(some 11),.faddr 5 (.tmp 4),none,0⟩,
 ⟨(some 12),.load none (.tmp 11),none,0⟩,
 ⟨(some 13),.mov (.tmp 1),none,0⟩,
 ⟨(some 14),.mov (.tmp 2),none,0⟩,
 ⟨(some 15),.iaddr 1 (.tmp 13) (.tmp 14),none,0⟩,
 ⟨(some 16),.load none (.tmp 15),none,0⟩,
 ⟨(some 17),.iaddr 3 (.tmp 12) (.tmp 16),none,0⟩,
 ⟨(some 18),.load (some 3) (.tmp 17),none,0⟩,
 ⟨(some 9),.alloc [(.int .i64 0),(.int .i64 0),(.int .i64 0)],none,0⟩,
 ⟨none,.store (some 3) (.tmp 9) (.tmp 18),none,1⟩])
 (.seq (.region 0 [] [
 ⟨(some 10),.mov (.cst (.c (.int .i64 0))),none,0⟩])
 (.seq (.seq (.region 0 [(0,1),(0,2),(1,2),(0,3),(1,3),(2,3),(0,4),(1,4),(0,5),(1,5),(0,6),(1,6),(2,6),(3,6),(4,6),(5,6)] [
 ⟨(some 19),.load (some 7) (.tmp 4),none,0⟩,
 ⟨(some 20),.mov (.tmp 1),none,0⟩,
 ⟨(some 21),.mov (.tmp 1),none,0⟩,
 ⟨(some 22),.mov (.tmp 2),none,0⟩,
 ⟨(some 23),.iaddr 1 (.tmp 21) (.tmp 22),none,0⟩,
 ⟨(some 24),.load none (.tmp 23),none,0⟩,
 ⟨(some 25),.mov (.tmp 2),none,0⟩,
 ⟨(some 26),.call 80 true [(.tmp 19),(.tmp 20),(.tmp 24),(.tmp 25)],none,0⟩])
 (.block 0 (.seq (.region 0 [] [
 ⟨(some 28),.bin .eql (.tmp 26) (.cst (.c (.int .i64 0))),none,0⟩,
 ⟨(some 27),.mov (.tmp 28),none,0⟩])
 (.cond (.tmp 27)
 (.region 0 [] [
 ⟨(some 29),.faddr 0 (.tmp 9),none,0⟩,
 ⟨(some 30),.load none (.tmp 29),none,0⟩,
 ⟨(some 10),.mov (.tmp 30),none,0⟩])
 (.seq (.region 0 [] [
 ⟨(some 32),.bin .eql (.tmp 26) (.cst (.c (.int .i64 1))),none,0⟩,
 ⟨(some 31),.mov (.tmp 32),none,0⟩])
 (.cond (.tmp 31)
 (.region 0 [] [
 ⟨(some 33),.faddr 1 (.tmp 9),none,0⟩,
 ⟨(some 34),.load none (.tmp 33),none,0⟩,
 ⟨(some 10),.mov (.tmp 34),none,0⟩])
 .skip))))))
 (.seq (.seq (.region 0 [] [
 ⟨(some 35),.mov (.tmp 3),none,0⟩])
 (.cond (.tmp 35)
 (.seq (.region 0 [] [
 ⟨(some 36),.mov (.tmp 10),none,0⟩,
 ⟨(some 37),.bin .quo (.tmp 36) (.cst (.c (.int .i64 2))),none,0⟩,
 ⟨(some 8),.mov (.tmp 37),none,0⟩])
 .ret)
 .skip))
 (.seq (.region 0 [] [
 ⟨(some 38),.mov (.tmp 10),none,0⟩,
 ⟨(some 8),.mov (.tmp 38),none,0⟩])
 .ret))))))⟩
/-- 61 (isatis/move.Land).best -/
def f61 : AFunc := ⟨14,[.cell 4 none,.cell 5 none,.cell 6 none],false,
 (.seq (.region 4 [] [
 ⟨(some 2),.box (.tmp 0),none,0⟩,
 ⟨(some 4),.alloc [.nils],none,1⟩,
 ⟨(some 5),.alloc [(.int .i64 0)],none,2⟩,
 ⟨(some 6),.alloc [(.bool false)],none,3⟩])
 (.seq (.region 0 [] [
 ⟨(some 7),.load (some 7) (.tmp 2),none,0⟩,
 ⟨(some 8),.mov (.tmp 1),none,0⟩,
 ⟨(some 9),.mkfn 81 none [(.tmp 2),(.tmp 6),(.tmp 5),(.tmp 4)],none,0⟩,
 ⟨(some 10),.call 62 false [(.tmp 7),(.tmp 8),(.tmp 9)],none,0⟩])
 (.seq (.region 0 [(0,1),(0,2),(1,2),(1,3),(2,3),(2,4)] [
 ⟨(some 11),.load none (.tmp 4),none,0⟩,
 ⟨(some 12),.load none (.tmp 5),none,0⟩,
 ⟨(some 13),.load none (.tmp 6),none,0⟩,
 ⟨none,.store none (.tmp 4) (.tmp 11),none,0⟩,
 ⟨none,.store none (.tmp 5) (.tmp 12),none,0⟩,
 ⟨none,.store none (.tmp 6) (.tmp 13),none,0⟩])
 .ret)))⟩
/-- 62 (isatis/move.Land).plans -/
def f62 : AFunc := ⟨15,[],false,
 (.seq (.region 3 [] [
 ⟨(some 3),.box (.tmp 0),none,0⟩,
 ⟨(some 4),.box (.tmp 1),none,1⟩,
 ⟨(some 5),.box (.tmp 2),none,2⟩])
 (.seq (.region 2 [] [
 ⟨(some 8),.faddr 0 (.tmp 3),none,0⟩,
 ⟨(some 9),.load none (.tmp 8),none,0⟩,
 ⟨(some 10),.bin .add (.tmp 9) (.cst (.c (.int .i64 1))),none,0⟩,
 ⟨(some 11),.mkslice 1 8 [(.int .i64 0)] (.tmp 10),none,0⟩,
 ⟨(some 6),.alloc [.nils],none,1⟩,
 ⟨none,.store none (.tmp 6) (.tmp 11),none,2⟩])
 (.seq (.region 1 [] [
 ⟨(some 7),.alloc [.nilfn],none,0⟩])
 (.seq (.region 0 [] [
 ⟨(some 12),.mkfn 83 none [(.tmp 3),(.tmp 5),(.tmp 6),(.tmp 4),(.tmp 7)],none,0⟩,
 ⟨none,.store none (.tmp 7) (.tmp 12),none,0⟩])
 (.region 0 [] [
 ⟨(some 13),.load none (.tmp 7),none,0⟩,
 ⟨(some 14),.callv (.tmp 13) [(.cst (.c (.int .i64 0)))],none,0⟩])))))⟩
/-- 63 isatis/move.Late$1 -/
def f63 : AFunc := ⟨26,[],false,
 (.seq (.region 0 [] [
 ⟨(some 9),.load (some 7) (.tmp 1),none,0⟩,
 ⟨(some 10),.mov (.tmp 0),none,0⟩,
 ⟨(some 11),.call 64 true [(.tmp 9),(.tmp 10)],none,0⟩,
 ⟨(some 8),.mov (.tmp 11),none,0⟩,
 ⟨(some 12),.extract 0 (.tmp 8),none,0⟩,
 ⟨(some 13),.extract 1 (.tmp 8),none,0⟩,
 ⟨(some 14),.extract 2 (.tmp 8),none,0⟩,
 ⟨(some 5),.mov (.tmp 12),none,0⟩,
 ⟨(some 6),.mov (.tmp 13),none,0⟩,
 ⟨(some 7),.mov (.tmp 14),none,0⟩])
 (.seq (.region 0 [] [
 ⟨(some 15),.mov (.tmp 7),none,0⟩,
 ⟨(some 16),.mov (.tmp 15),none,0⟩,
 ⟨(some 17),.mov (.tmp 5),some (16,true),0⟩,
 ⟨(some 18),.load none (.tmp 2),some (16,true),0⟩,
 ⟨(some 19),.bin .eql (.tmp 17) (.tmp 18),some (16,true),0⟩,
 ⟨(some 20),.pick (.tmp 16) (.tmp 19) (.cst (.c (.bool false))),none,0⟩])
 (.cond (.tmp 20)
 (.region 0 [(0,1),(0,2),(1,2),(0,3)] [
 ⟨(some 21),.load none (.tmp 3),none,0⟩,
 ⟨(some 22),.load (some 7) (.tmp 1),none,0⟩,
 ⟨(some 23),.mov (.tmp 0),none,0⟩,
 ⟨(some 24),.call 65 true [(.tmp 22),(.tmp 23)],none,0⟩,
 ⟨(some 25),.mm true (.tmp 21) (.tmp 24),none,0⟩,
 ⟨none,.store none (.tmp 3) (.tmp 25),none,0⟩])
 .skip)))⟩
/-- 64 (isatis/move.Land).sure -/
def f64 : AFunc := ⟨42,[.cell 4 none,.cell 5 none,.cell 6 none],false,
 (.seq (.region 5 [] [
 ⟨(some 2),.box (.tmp 0),none,0⟩,
 ⟨(some 3),.box (.tmp 1),none,1⟩,
 ⟨(some 4),.alloc [(.int .i64 0)],none,2⟩,
 ⟨(some 5),.alloc [.nils],none,3⟩,
 ⟨(some 6),.alloc [(.bool false)],none,4⟩])
 (.seq .skip
 (.seq (.seq (.region 0 [] [
 ⟨(some 12),.load (some 7) (.tmp 2),none,0⟩,
 ⟨(some 13),.call 84 false [(.tmp 12)],none,0⟩])
 (.block 0 (.range (.tmp 13) [14]
 (.region 0 [] [
 ⟨(some 7),.mov (.tmp 14),none,0⟩])
 (.block 1 (.seq (.region 1 [] [
 ⟨(some 16),.load (some 7) (.tmp 2),none,0⟩,
 ⟨(some 17),.load none (.tmp 3),none,0⟩,
 ⟨(some 18),.mov (.tmp 7),none,0⟩,
 ⟨(some 19),.call 53 true [(.tmp 16),(.tmp 17),(.tmp 18)],none,0⟩,
 ⟨(some 15),.mov (.tmp 19),none,0⟩,
 ⟨(some 20),.extract 0 (.tmp 15),none,0⟩,
 ⟨(some 21),.extract 1 (.tmp 15),none,0⟩,
 ⟨(some 22),.extract 2 (.tmp 15),none,0⟩,
 ⟨(some 9),.alloc [(.int .i64 0),(.int .i64 0),(.int .i64 0),(.int .i64 0),(.int .i64 0),(.int .i64 0),(.int .i64 0),(.int .i64 0),(.int .i64 0),(.int .i64 0),(.int .i64 0)],none,0⟩,
 ⟨(some 8),.mov (.tmp 20),none,1⟩,
 ⟨none,.store (some 11) (.tmp 9) (.tmp 21),none,1⟩,
 ⟨(some 10),.mov (.tmp 22),none,1⟩])
 (.seq (.seq (.region 0 [] [
 ⟨(some 23),.mov (.tmp 10),none,0⟩,
 ⟨(some 24),.not (.tmp 23),none,0⟩])
 (.cond (.tmp 24)
 (.seq (.region 0 [] [
 ⟨none,.store none (.tmp 6) (.cst (.c (.bool false))),none,0⟩])
 (.exit 0))
 .skip))
 (.seq (.region 0 [] [
 ⟨(some 25),.faddr 2 (.tmp 9),none,0⟩,
 ⟨(some 26),.load none (.tmp 25),none,0⟩,
 ⟨(some 27),.faddr 2 (.tmp 2),none,0⟩,
 ⟨(some 28),.load none (.tmp 27),none,0⟩,
 ⟨(some 29),.bin .sub (.tmp 26) (.tmp 28),none,0⟩,
 ⟨(some 11),.mov (.tmp 29),none,0⟩])
 (.seq (.region 0 [] [
 ⟨(some 30),.load none (.tmp 6),none,0⟩,
 ⟨(some 31),.not (.tmp 30),none,0⟩,
 ⟨(some 32),.mov (.tmp 31),none,0⟩,
 ⟨(some 33),.mov (.tmp 11),some (32,false),0⟩,
 ⟨(some 34),.load none (.tmp 4),some (32,false),0⟩,
 ⟨(some 35),.bin .lss (.tmp 33) (.tmp 34),some (32,false),0⟩,
 ⟨(some 36),.pick (.tmp 32) (.cst (.c (.bool true))) (.tmp 35),none,0⟩])
 (.cond (.tmp 36)
 (.region 0 [] [
 ⟨(some 37),.mov (.tmp 11),none,0⟩,
 ⟨(some 38),.mov (.tmp 7),none,0⟩,
 ⟨none,.store none (.tmp 4) (.tmp 37),none,0⟩,
 ⟨none,.store none (.tmp 5) (.tmp 38),none,0⟩,
 ⟨none,.store none (.tmp 6) (.cst (.c (.bool true))),none,0⟩])
 .skip)))))))))
 (.seq (.region 0 [(0,1),(0,2),(1,2),(1,3),(2,3),(2,4)] [
 ⟨(some 39),.load none (.tmp 4),none,0⟩,
 ⟨(some 40),.load none (.tmp 5),none,0⟩,
 ⟨(some 41),.load none (.tmp 6),none,0⟩,
 ⟨none,.store none (.tmp 4) (.tmp 39),none,0⟩,
 ⟨none,.store none (.tmp 5) (.tmp 40),none,0⟩,
 ⟨none,.store none (.tmp 6) (.tmp 41),none,0⟩])
 .ret))))⟩
/-- 65 (isatis/move.Land).move | loop 0 vars [12] kill 12 makes false -/
def f65 : AFunc := ⟨25,[.tmp 4],false,
 (.seq (.region 1 [] [
 ⟨(some 2),.box (.tmp 0),none,0⟩,
 ⟨(some 4),.mov (.cst (.c (.int .i64 0))),none,1⟩])
 (.seq (.region 0 [] [
 ⟨(some 8),.faddr 1 (.tmp 2),none,0⟩,
 ⟨(some 9),.load none (.tmp 8),none,0⟩,
 ⟨(some 5),.mov (.tmp 9),none,0⟩])
 (.seq (.seq (.region 0 [] [
 ⟨(some 10),.mov (.tmp 1),none,0⟩,
 ⟨(some 11),.len (.tmp 10),none,0⟩,
 ⟨(some 12),.mov (.cst (.c (.int .i64 0))),none,0⟩])
 (.block 0 (.loop ⟨[4,6,7,13,14,15,16,17,18,19,20,21],false,[]⟩
 (.seq (.region 0 [] [
 ⟨(some 13),.bin .lss (.tmp 12) (.tmp 11),none,0⟩])
 (.seq (.cond (.tmp 13)
 .skip
 (.exit 0))
 (.seq (.block 1 (.seq (.region 0 [] [
 ⟨(some 14),.mov (.tmp 12),none,0⟩,
 ⟨(some 15),.iaddr 1 (.tmp 10) (.tmp 12),none,0⟩,
 ⟨(some 16),.load none (.tmp 15),none,0⟩,
 ⟨(some 6),.mov (.tmp 14),none,0⟩,
 ⟨(some 7),.mov (.tmp 16),none,0⟩])
 (.seq (.region 0 [] [
 ⟨(some 17),.mov (.tmp 7),none,0⟩,
 ⟨(some 18),.mov (.tmp 5),none,0⟩,
 ⟨(some 19),.bin .neq (.tmp 17) (.tmp 18),none,0⟩])
 (.cond (.tmp 19)
 (.seq (.region 0 [] [
 ⟨(some 20),.mov (.tmp 6),none,0⟩,
 ⟨(some 4),.mov (.tmp 20),none,0⟩])
 .ret)
 .skip))))
 (.region 0 [] [
 ⟨(some 21),.bin .add (.tmp 12) (.cst (.c (.int .i64 1))),none,0⟩,
 ⟨(some 12),.mov (.tmp 21),none,0⟩])))))))
 (.seq (.region 0 [] [
 ⟨(some 22),.faddr 0 (.tmp 2),none,0⟩,
 ⟨(some 23),.load none (.tmp 22),none,0⟩,
 ⟨(some 24),.bin .add (.tmp 23) (.cst (.c (.int .i64 1))),none,0⟩,
 ⟨(some 4),.mov (.tmp 24),none,0⟩])
 .ret))))⟩
/-- 66 isatis/isatisref11.Plan | loop 0 vars [1,6] kill 17 makes false -/
def f66 : AFunc := ⟨31,[.tmp 4],false,
 (.seq (.region 1 [] [
 ⟨(some 2),.box (.tmp 0),none,0⟩,
 ⟨(some 4),.mov (.cst (.c .nils)),none,1⟩])
 (.seq (.region 1 [] [
 ⟨(some 7),.faddr 0 (.tmp 2),none,0⟩,
 ⟨(some 8),.load none (.tmp 7),none,0⟩,
 ⟨(some 9),.bin .add (.tmp 8) (.cst (.c (.int .i64 1))),none,0⟩,
 ⟨(some 10),.mkslice 1 8 [(.int .i64 0)] (.tmp 9),none,0⟩,
 ⟨(some 5),.mov (.tmp 10),none,1⟩])
 (.seq (.seq (.region 0 [] [
 ⟨(some 11),.faddr 0 (.tmp 2),none,0⟩,
 ⟨(some 12),.load none (.tmp 11),none,0⟩,
 ⟨(some 6),.mov (.tmp 12),none,0⟩])
 (.block 0 (.loop ⟨[13,14,15,16,17,18,19,20,21,22,23,24,25,26,27,28,29],false,[]⟩
 (.seq (.seq (.region 0 [] [
 ⟨(some 13),.mov (.tmp 6),none,0⟩,
 ⟨(some 14),.bin .geq (.tmp 13) (.cst (.c (.int .i64 0))),none,0⟩])
 (.cond (.tmp 14)
 .skip
 (.exit 0)))
 (.seq (.block 1 (.region 0 [(0,1),(0,2),(1,2),(0,3),(1,3),(2,3),(0,4),(1,4),(2,4),(0,5),(1,5),(2,5),(0,6),(1,6),(0,7),(1,7),(2,7),(3,7),(4,7),(5,7),(6,7),(0,8),(1,8),(2,8),(3,8),(4,8),(5,8),(6,8),(7,8),(0,9),(1,9),(2,9),(3,9),(4,9),(5,9),(6,9),(7,9),(0,10),(1,10),(2,10),(3,10),(4,10),(5,10),(6,10),(7,10),(0,11),(1,11),(2,11),(3,11),(4,11),(5,11),(6,11),(7,12),(8,12),(9,12),(10,12),(11,12),(7,13),(8,13),(9,13),(10,13),(11,13)] [
 ⟨(some 17),.mov (.tmp 5),none,0⟩,
 ⟨(some 18),.mov (.tmp 6),none,0⟩,
 ⟨(some 19),.mov (.tmp 1),none,0⟩,
 ⟨(some 20),.faddr 5 (.tmp 2),none,0⟩,
 ⟨(some 21),.load none (.tmp 20),none,0⟩,
 ⟨(some 22),.len (.tmp 21),none,0⟩,
 ⟨(some 23),.bin .rem (.tmp 19) (.tmp 22),none,0⟩,
 ⟨(some 24),.mov (.tmp 1),none,0⟩,
 ⟨(some 25),.faddr 5 (.tmp 2),none,0⟩,
 ⟨(some 26),.load none (.tmp 25),none,0⟩,
 ⟨(some 27),.len (.tmp 26),none,0⟩,
 ⟨(some 28),.bin .quo (.tmp 24) (.tmp 27),none,0⟩,
 ⟨(some 29),.iaddr 1 (.tmp 17) (.tmp 18),none,0⟩,
 ⟨none,.store none (.tmp 29) (.tmp 23),none,0⟩,
 ⟨(some 1),.mov (.tmp 28),none,0⟩]))
 (.region 0 [] [
 ⟨(some 15),.mov (.tmp 6),none,0⟩,
 ⟨(some 16),.bin .sub (.tmp 15) (.cst (.c (.int .i64 1))),none,0⟩,
 ⟨(some 6),.mov (.tmp 16),none,0⟩]))))))
 (.seq (.region 0 [] [
 ⟨(some 30),.mov (.tmp 5),none,0⟩,
 ⟨(some 4),.mov (.tmp 30),none,0⟩])
 .ret))))⟩
/-- 67 isatis/move.all[int] -/
def f67 : AFunc := ⟨9,[.tmp 4],false,
 (.seq (.region 1 [] [
 ⟨(some 3),.box (.tmp 1),none,0⟩,
 ⟨(some 4),.mov (.cst (.c (.bool false))),none,1⟩])
 (.seq (.region 0 [] [
 ⟨(some 5),.mov (.tmp 0),none,0⟩,
 ⟨(some 6),.mkfn 86 none [(.tmp 3)],none,0⟩,
 ⟨(some 7),.call 85 false [(.tmp 5),(.tmp 6)],none,0⟩,
 ⟨(some 8),.not (.tmp 7),none,0⟩,
 ⟨(some 4),.mov (.tmp 8),none,0⟩])
 .ret))⟩
/-- 68 (*isatis/move.miller).from | loop 0 vars [44] kill 93 makes true -/
def f68 : AFunc := ⟨142,[.cell 4 (some 3)],false,
 (.seq (.region 2 [] [
 ⟨(some 3),.box (.tmp 1),none,0⟩,
 ⟨(some 4),.alloc [(.int .i64 0),(.int .i64 0),(.bool false)],none,1⟩])
 (.seq (.seq (.region 0 [(0,3),(1,3),(2,3),(0,4),(1,4),(2,4),(0,5),(1,5),(2,5),(0,6),(1,6),(2,6),(0,7),(1,7),(2,7)] [
 ⟨(some 14),.faddr 0 (.tmp 3),none,0⟩,
 ⟨(some 15),.faddr 0 (.tmp 14),none,0⟩,
 ⟨(some 16),.load none (.tmp 15),none,0⟩,
 ⟨(some 17),.mov (.tmp 0),none,0⟩,
 ⟨(some 18),.nilchk (.tmp 17),none,0⟩,
 ⟨(some 19),.faddr 0 (.tmp 18),none,0⟩,
 ⟨(some 20),.faddr 0 (.tmp 19),none,0⟩,
 ⟨(some 21),.load none (.tmp 20),none,0⟩,
 ⟨(some 22),.bin .gtr (.tmp 16) (.tmp 21),none,0⟩])
 (.cond (.tmp 22)
 (.seq (.region 0 [] [
 ⟨(some 23),.faddr 0 (.tmp 3),none,0⟩,
 ⟨(some 24),.faddr 2 (.tmp 23),none,0⟩,
 ⟨(some 25),.load none (.tmp 24),none,0⟩,
 ⟨(some 26),.build [(.int .i64 0),(.int .i64 0),(.bool false)] [(0,1,(.cst (.c (.int .i64 (-1))))),(1,1,(.tmp 25)),(2,1,(.cst (.c (.bool true))))],none,0⟩,
 ⟨none,.store (some 3) (.tmp 4) (.tmp 26),none,0⟩])
 .ret)
 .skip))
 (.seq (.seq (.region 1 [(0,4),(1,4),(2,4),(3,4),(7,8),(0,9),(1,9),(2,9),(3,9),(4,9),(5,9),(6,9),(7,9),(8,9),(8,10)] [
 ⟨(some 28),.mov (.tmp 0),none,0⟩,
 ⟨(some 29),.nilchk (.tmp 28),none,0⟩,
 ⟨(some 30),.faddr 7 (.tmp 29),none,0⟩,
 ⟨(some 31),.load none (.tmp 30),none,0⟩,
 ⟨(some 32),.load (some 12) (.tmp 3),none,0⟩,
 ⟨(some 33),.lookup true true [(some .i64),(some .i64),(some .i64),(some .i64),(some .i64),(some .i64),(some .i64),(some .i64),(some .i64),(some .i64),(some .i64),(some .i64)] (.agg [(.int .i64 0),(.int .i64 0),(.bool false)]) true (.tmp 31) (.tmp 32),none,0⟩,
 ⟨(some 27),.mov (.tmp 33),none,0⟩,
 ⟨(some 34),.extract 0 (.tmp 27),none,0⟩,
 ⟨(some 35),.extract 1 (.tmp 27),none,0⟩,
 ⟨(some 5),.alloc [(.int .i64 0),(.int .i64 0),(.bool false)],none,0⟩,
 ⟨none,.store (some 3) (.tmp 5) (.tmp 34),none,1⟩,
 ⟨(some 6),.mov (.tmp 35),none,1⟩])
 (.seq (.region 0 [] [
 ⟨(some 36),.mov (.tmp 6),none,0⟩])
 (.cond (.tmp 36)
 (.seq (.region 0 [] [
 ⟨(some 37),.load (some 3) (.tmp 5),none,0⟩,
 ⟨none,.store (some 3) (.tmp 4) (.tmp 37),none,0⟩])
 .ret)
 .skip)))
 (.seq (.seq (.region 0 [] [
 ⟨(some 38),.mov (.tmp 0),none,0⟩,
 ⟨(some 39),.nilchk (.tmp 38),none,0⟩,
 ⟨(some 40),.faddr 0 (.tmp 39),none,0⟩,
 ⟨(some 41),.faddr 5 (.tmp 40),none,0⟩,
 ⟨(some 42),.load none (.tmp 41),none,0⟩,
 ⟨(some 43),.len (.tmp 42),none,0⟩,
 ⟨(some 44),.mov (.cst (.c (.int .i64 0))),none,0⟩])
 (.block 0 (.loop ⟨[7,8,9,10,11,12,13,45,46,47,48,49,50,51,52,53,54,55,56,57,58,59,60,61,62,63,64,65,66,67,68,69,70,71,72,73,74,75,76,77,78,79,80,81,82,83,84,85,86,87,88,89,90,91,92,93,94,95,96,97,98,99,100,101,102,103,104,105,106,107,108,109,110,111,112,113,114,115,116,117,118,119,120,121,122,123,124,125,126,127,128,129,130],false,[]⟩
 (.seq (.region 0 [] [
 ⟨(some 45),.bin .lss (.tmp 44) (.tmp 43),none,0⟩])
 (.seq (.cond (.tmp 45)
 .skip
 (.exit 0))
 (.seq (.block 1 (.seq (.region 0 [] [
 ⟨(some 46),.mov (.tmp 44),none,0⟩,
 ⟨(some 7),.mov (.tmp 46),none,0⟩])
 (.seq (.seq (.region 0 [(0,4),(1,4),(2,4),(3,4),(0,5),(1,5),(2,5),(3,5),(0,6),(1,6),(2,6),(3,6),(4,6),(5,6),(9,10),(10,11)] [
 ⟨(some 48),.mov (.tmp 0),none,0⟩,
 ⟨(some 49),.nilchk (.tmp 48),none,0⟩,
 ⟨(some 50),.faddr 0 (.tmp 49),none,0⟩,
 ⟨(some 51),.load (some 7) (.tmp 50),none,0⟩,
 ⟨(some 52),.faddr 0 (.tmp 3),none,0⟩,
 ⟨(some 53),.load (some 11) (.tmp 52),none,0⟩,
 ⟨(some 54),.mov (.tmp 7),none,0⟩,
 ⟨(some 55),.call 74 true [(.tmp 51),(.tmp 53),(.tmp 54)],none,0⟩,
 ⟨(some 47),.mov (.tmp 55),none,0⟩,
 ⟨(some 56),.extract 0 (.tmp 47),none,0⟩,
 ⟨(some 57),.extract 1 (.tmp 47),none,0⟩,
 ⟨(some 8),.mov (.tmp 56),none,0⟩,
 ⟨(some 9),.mov (.tmp 57),none,0⟩])
 (.seq (.region 0 [] [
 ⟨(some 58),.mov (.tmp 9),none,0⟩,
 ⟨(some 59),.not (.tmp 58),none,0⟩])
 (.cond (.tmp 59)
 (.exit 1)
 .skip)))
 (.seq (.region 2 [(0,4),(1,4),(2,4),(3,4),(0,5),(1,5),(2,5),(3,5),(0,6),(1,6),(2,6),(3,6),(4,6),(5,6),(9,10),(0,11),(1,11),(2,11),(3,11),(4,11),(5,11),(6,11),(7,11),(8,11),(9,11),(10,11),(0,12),(1,12),(2,12),(3,12),(4,12),(5,12),(6,12),(7,12),(8,12),(9,12),(10,12),(11,12),(10,13)] [
 ⟨(some 61),.mov (.tmp 0),none,0⟩,
 ⟨(some 62),.nilchk (.tmp 61),none,0⟩,
 ⟨(some 63),.faddr 0 (.tmp 62),none,0⟩,
 ⟨(some 64),.load (some 7) (.tmp 63),none,0⟩,
 ⟨(some 65),.faddr 0 (.tmp 3),none,0⟩,
 ⟨(some 66),.load (some 11) (.tmp 65),none,0⟩,
 ⟨(some 67),.mov (.tmp 7),none,0⟩,
 ⟨(some 68),.call 75 true [(.tmp 64),(.tmp 66),(.tmp 67),(.cst (.c (.bool false)))],none,0⟩,
 ⟨(some 60),.mov (.tmp 68),none,0⟩,
 ⟨(some 69),.extract 0 (.tmp 60),none,0⟩,
 ⟨(some 70),.extract 1 (.tmp 60),none,0⟩,
 ⟨(some 10),.alloc [(.int .i64 0),(.int .i64 0),(.int .i64 0),(.int .i64 0),(.int .i64 0),(.int .i64 0),(.int .i64 0),(.int .i64 0),(.int .i64 0),(.int .i64 0),(.int .i64 0)],none,0⟩,
 ⟨(some 11),.alloc [(.int .i64 0),(.int .i64 0),(.int .i64 0)],none,1⟩,
 ⟨none,.store (some 11) (.tmp 10) (.tmp 69),none,2⟩,
 ⟨none,.store (some 3) (.tmp 11) (.tmp 70),none,2⟩])
 (.seq (.region 1 [] [
 ⟨(some 71),.mov (.tmp 0),none,0⟩,
 ⟨(some 72),.load (some 11) (.tmp 10),none,0⟩,
 ⟨(some 73),.faddr 11 (.tmp 3),none,0⟩,
 ⟨(some 74),.load none (.tmp 73),none,0⟩,
 ⟨(some 75),.build [(.int .i64 0),(.int .i64 0),(.int .i64 0),(.int .i64 0),(.int .i64 0),(.int .i64 0),(.int .i64 0),(.int .i64 0),(.int .i64 0),(.int .i64 0),(.int .i64 0),(.int .i64 0)] [(0,11,(.tmp 72)),(11,1,(.tmp 74))],none,0⟩,
 ⟨(some 76),.call 68 false [(.tmp 71),(.tmp 75)],none,0⟩,
 ⟨(some 12),.alloc [(.int .i64 0),(.int .i64 0),(.bool false)],none,0⟩,
 ⟨none,.store (some 3) (.tmp 12) (.tmp 76),none,1⟩])
 (.seq (.seq (.region 0 [] [
 ⟨(some 77),.faddr 2 (.tmp 12),none,0⟩,
 ⟨(some 78),.load none (.tmp 77),none,0⟩,
 ⟨(some 79),.mov (.tmp 78),none,0⟩,
 ⟨(some 80),.faddr 11 (.tmp 3),some (79,true),0⟩,
 ⟨(some 81),.load none (.tmp 80),some (79,true),0⟩,
 ⟨(some 82),.bin .gtr (.tmp 81) (.cst (.c (.int .i64 0))),some (79,true),0⟩,
 ⟨(some 83),.pick (.tmp 79) (.tmp 82) (.cst (.c (.bool false))),none,0⟩])
 (.cond (.tmp 83)
 (.seq (.region 0 [(0,4),(1,4),(2,4),(3,4),(0,5),(1,5),(2,5),(3,5),(0,6),(1,6),(2,6),(3,6),(4,6),(5,6),(9,10),(10,11)] [
 ⟨(some 85),.mov (.tmp 0),none,0⟩,
 ⟨(some 86),.nilchk (.tmp 85),none,0⟩,
 ⟨(some 87),.faddr 0 (.tmp 86),none,0⟩,
 ⟨(some 88),.load (some 7) (.tmp 87),none,0⟩,
 ⟨(some 89),.faddr 0 (.tmp 3),none,0⟩,
 ⟨(some 90),.load (some 11) (.tmp 89),none,0⟩,
 ⟨(some 91),.mov (.tmp 7),none,0⟩,
 ⟨(some 92),.call 75 true [(.tmp 88),(.tmp 90),(.tmp 91),(.cst (.c (.bool true)))],none,0⟩,
 ⟨(some 84),.mov (.tmp 92),none,0⟩,
 ⟨(some 93),.extract 0 (.tmp 84),none,0⟩,
 ⟨(some 94),.extract 1 (.tmp 84),none,0⟩,
 ⟨none,.store (some 11) (.tmp 10) (.tmp 93),none,0⟩])
 (.seq (.region 1 [] [
 ⟨(some 95),.mov (.tmp 0),none,0⟩,
 ⟨(some 96),.load (some 11) (.tmp 10),none,0⟩,
 ⟨(some 97),.faddr 11 (.tmp 3),none,0⟩,
 ⟨(some 98),.load none (.tmp 97),none,0⟩,
 ⟨(some 99),.bin .sub (.tmp 98) (.cst (.c (.int .i64 1))),none,0⟩,
 ⟨(some 100),.build [(.int .i64 0),(.int .i64 0),(.int .i64 0),(.int .i64 0),(.int .i64 0),(.int .i64 0),(.int .i64 0),(.int .i64 0),(.int .i64 0),(.int .i64 0),(.int .i64 0),(.int .i64 0)] [(0,11,(.tmp 96)),(11,1,(.tmp 99))],none,0⟩,
 ⟨(some 101),.call 68 false [(.tmp 95),(.tmp 100)],none,0⟩,
 ⟨(some 13),.alloc [(.int .i64 0),(.int .i64 0),(.bool false)],none,0⟩,
 ⟨none,.store (some 3) (.tmp 13) (.tmp 101),none,1⟩])
 (.region 1 [(0,1),(0,2),(0,3),(1,3),(2,3),(0,4),(1,4),(2,4),(0,5),(0,6),(0,7),(1,7),(2,7),(3,7),(4,7),(5,7),(6,7),(0,8),(1,8),(2,8),(3,8),(4,8),(5,8),(6,8)] [
 ⟨(some 102),.mov (.tmp 7),none,0⟩,
 ⟨(some 103),.faddr 1 (.tmp 12),none,0⟩,
 ⟨(some 104),.load none (.tmp 103),none,0⟩,
 ⟨(some 105),.faddr 1 (.tmp 13),none,0⟩,
 ⟨(some 106),.load none (.tmp 105),none,0⟩,
 ⟨(some 107),.bslice 1 2 [(.int .i64 0)] [(0,(.tmp 104)),(1,(.tmp 106))],none,0⟩,
 ⟨(some 108),.call 87 true [(.tmp 107)],none,1⟩,
 ⟨(some 109),.faddr 2 (.tmp 13),none,1⟩,
 ⟨(some 110),.load none (.tmp 109),none,1⟩,
 ⟨(some 111),.build [(.int .i64 0),(.int .i64 0),(.bool false)] [(0,1,(.tmp 102)),(1,1,(.tmp 108)),(2,1,(.tmp 110))],none,1⟩,
 ⟨none,.store (some 3) (.tmp 12) (.tmp 111),none,1⟩])))
 .skip))
 (.seq (.region 0 [] [
 ⟨(some 112),.faddr 2 (.tmp 12),none,0⟩,
 ⟨(some 113),.load none (.tmp 112),none,0⟩,
 ⟨(some 114),.mov (.tmp 113),none,0⟩,
 ⟨(some 115),.faddr 2 (.tmp 4),some (114,true),0⟩,
 ⟨(some 116),.load none (.tmp 115),some (114,true),0⟩,
 ⟨(some 117),.not (.tmp 116),some (114,true),0⟩,
 ⟨(some 118),.mov (.tmp 117),some (114,true),0⟩,
 ⟨(some 119),.faddr 1 (.tmp 12),some (118,false),0⟩,
 ⟨(some 120),.load none (.tmp 119),some (118,false),0⟩,
 ⟨(some 121),.faddr 1 (.tmp 4),some (118,false),0⟩,
 ⟨(some 122),.load none (.tmp 121),some (118,false),0⟩,
 ⟨(some 123),.bin .gtr (.tmp 120) (.tmp 122),some (118,false),0⟩,
 ⟨(some 124),.pick (.tmp 118) (.cst (.c (.bool true))) (.tmp 123),some (114,true),0⟩,
 ⟨(some 125),.pick (.tmp 114) (.tmp 124) (.cst (.c (.bool false))),none,0⟩])
 (.cond (.tmp 125)
 (.region 0 [] [
 ⟨(some 126),.mov (.tmp 7),none,0⟩,
 ⟨(some 127),.faddr 1 (.tmp 12),none,0⟩,
 ⟨(some 128),.load none (.tmp 127),none,0⟩,
 ⟨(some 129),.build [(.int .i64 0),(.int .i64 0),(.bool false)] [(0,1,(.tmp 126)),(1,1,(.tmp 128)),(2,1,(.cst (.c (.bool true))))],none,0⟩,
 ⟨none,.store (some 3) (.tmp 4) (.tmp 129),none,0⟩])
 .skip))))))))
 (.region 0 [] [
 ⟨(some 130),.bin .add (.tmp 44) (.cst (.c (.int .i64 1))),none,0⟩,
 ⟨(some 44),.mov (.tmp 130),none,0⟩])))))))
 (.seq (.seq (.region 0 [] [
 ⟨(some 131),.faddr 2 (.tmp 4),none,0⟩,
 ⟨(some 132),.load none (.tmp 131),none,0⟩,
 ⟨(some 133),.not (.tmp 132),none,0⟩])
 (.cond (.tmp 133)
 (.region 0 [] [
 ⟨(some 134),.build [(.int .i64 0),(.int .i64 0),(.bool false)] [],none,0⟩,
 ⟨none,.store (some 3) (.tmp 4) (.tmp 134),none,0⟩])
 .skip))
 (.seq (.region 0 [(0,4),(1,4),(2,4),(3,4),(0,5),(1,5),(2,5),(3,5),(4,5)] [
 ⟨(some 135),.mov (.tmp 0),none,0⟩,
 ⟨(some 136),.nilchk (.tmp 135),none,0⟩,
 ⟨(some 137),.faddr 7 (.tmp 136),none,0⟩,
 ⟨(some 138),.load none (.tmp 137),none,0⟩,
 ⟨(some 139),.load (some 12) (.tmp 3),none,0⟩,
 ⟨(some 140),.load (some 3) (.tmp 4),none,0⟩,
 ⟨none,.mapupd true true [(some .i64),(some .i64),(some .i64),(some .i64),(some .i64),(some .i64),(some .i64),(some .i64),(some .i64),(some .i64),(some .i64),(some .i64)] (.tmp 138) (.tmp 139) (.tmp 140),none,0⟩])
 (.seq (.region 0 [] [
 ⟨(some 141),.load (some 3) (.tmp 4),none,0⟩,
 ⟨none,.store (some 3) (.tmp 4) (.tmp 141),none,0⟩])
 .ret)))))))⟩
/-- 69 isatis/isatisref11.Money -/
def f69 : AFunc := ⟨17,[.tmp 4],false,
 (.seq (.region 1 [] [
 ⟨(some 2),.box (.tmp 0),none,0⟩,
 ⟨(some 4),.mov (.cst (.c (.int .i64 0))),none,1⟩])
 (.seq (.seq (.region 0 [] [
 ⟨(some 5),.mov (.tmp 1),none,0⟩,
 ⟨(some 6),.len (.tmp 5),none,0⟩,
 ⟨(some 7),.bin .eql (.tmp 6) (.cst (.c (.int .i64 0))),none,0⟩])
 (.cond (.tmp 7)
 (.seq (.region 0 [] [
 ⟨(some 8),.faddr 2 (.tmp 2),none,0⟩,
 ⟨(some 9),.load none (.tmp 8),none,0⟩,
 ⟨(some 4),.mov (.tmp 9),none,0⟩])
 .ret)
 .skip))
 (.seq (.region 0 [] [
 ⟨(some 10),.mov (.tmp 1),none,0⟩,
 ⟨(some 11),.mov (.tmp 1),none,0⟩,
 ⟨(some 12),.len (.tmp 11),none,0⟩,
 ⟨(some 13),.bin .sub (.tmp 12) (.cst (.c (.int .i64 1))),none,0⟩,
 ⟨(some 14),.iaddr 3 (.tmp 10) (.tmp 13),none,0⟩,
 ⟨(some 15),.faddr 2 (.tmp 14),none,0⟩,
 ⟨(some 16),.load none (.tmp 15),none,0⟩,
 ⟨(some 4),.mov (.tmp 16),none,0⟩])
 .ret)))⟩
/-- 70 isatis/isatisref11.Weathers | loop 0 vars [3,4] kill 21 makes true reify [(3,(none,1))] -/
def f70 : AFunc := ⟨27,[.tmp 2],false,
 (.seq (.region 1 [] [
 ⟨(some 1),.box (.tmp 0),none,0⟩,
 ⟨(some 2),.mov (.cst (.c .nils)),none,1⟩])
 (.seq (.region 0 [] [
 ⟨(some 3),.mov (.cst (.c .nils)),none,0⟩])
 (.seq (.seq (.region 0 [] [
 ⟨(some 4),.mov (.cst (.c (.int .i64 0))),none,0⟩])
 (.block 0 (.loop ⟨[5,6,7,8,9,10,11,12,13,14,15,16,17,18,19,20,21,22,23,24,25],true,[(3,none,1)]⟩
 (.seq (.seq (.region 0 [] [
 ⟨(some 6),.mov (.tmp 4),none,0⟩,
 ⟨(some 7),.faddr 0 (.tmp 1),none,0⟩,
 ⟨(some 8),.load none (.tmp 7),none,0⟩,
 ⟨(some 9),.bin .add (.tmp 8) (.cst (.c (.int .i64 1))),none,0⟩,
 ⟨(some 10),.conv .u64 (.tmp 9),none,0⟩,
 ⟨(some 11),.bin .shl (.cst (.c (.int .i64 1))) (.tmp 10),none,0⟩,
 ⟨(some 12),.bin .lss (.tmp 6) (.tmp 11),none,0⟩])
 (.cond (.tmp 12)
 .skip
 (.exit 0)))
 (.seq (.block 1 (.seq (.region 0 [] [
 ⟨(some 15),.mov (.tmp 4),none,0⟩,
 ⟨(some 16),.call 88 true [(.tmp 15)],none,0⟩,
 ⟨(some 5),.mov (.tmp 16),none,0⟩])
 (.seq (.region 0 [] [
 ⟨(some 17),.mov (.tmp 5),none,0⟩,
 ⟨(some 18),.len (.tmp 17),none,0⟩,
 ⟨(some 19),.faddr 3 (.tmp 1),none,0⟩,
 ⟨(some 20),.load none (.tmp 19),none,0⟩,
 ⟨(some 21),.bin .leq (.tmp 18) (.tmp 20),none,0⟩])
 (.cond (.tmp 21)
 (.region 2 [] [
 ⟨(some 22),.mov (.tmp 3),none,0⟩,
 ⟨(some 23),.mov (.tmp 5),none,0⟩,
 ⟨(some 24),.bslice 1 1 [.nils] [(0,(.tmp 23))],none,0⟩,
 ⟨(some 25),.append 1 24 (.tmp 22) (.tmp 24),none,1⟩,
 ⟨(some 3),.mov (.tmp 25),none,2⟩])
 .skip))))
 (.region 0 [] [
 ⟨(some 13),.mov (.tmp 4),none,0⟩,
 ⟨(some 14),.bin .add (.tmp 13) (.cst (.c (.int .i64 1))),none,0⟩,
 ⟨(some 4),.mov (.tmp 14),none,0⟩]))))))
 (.seq (.region 0 [] [
 ⟨(some 26),.mov (.tmp 3),none,0⟩,
 ⟨(some 2),.mov (.tmp 26),none,0⟩])
 .ret))))⟩
/-- 71 isatis/isatisref11.Shorter -/
def f71 : AFunc := ⟨22,[.tmp 4],false,
 (.seq (.region 0 [] [
 ⟨(some 4),.mov (.cst (.c (.bool false))),none,0⟩])
 (.seq (.region 0 [] [
 ⟨(some 5),.mov (.tmp 0),none,0⟩,
 ⟨(some 6),.len (.tmp 5),none,0⟩,
 ⟨(some 7),.mov (.tmp 1),none,0⟩,
 ⟨(some 8),.len (.tmp 7),none,0⟩,
 ⟨(some 9),.bin .lss (.tmp 6) (.tmp 8),none,0⟩,
 ⟨(some 10),.mov (.tmp 9),none,0⟩,
 ⟨(some 11),.mov (.tmp 0),some (10,false),0⟩,
 ⟨(some 12),.len (.tmp 11),some (10,false),0⟩,
 ⟨(some 13),.mov (.tmp 1),some (10,false),0⟩,
 ⟨(some 14),.len (.tmp 13),some (10,false),0⟩,
 ⟨(some 15),.bin .eql (.tmp 12) (.tmp 14),some (10,false),0⟩,
 ⟨(some 16),.mov (.tmp 15),some (10,false),0⟩,
 ⟨(some 17),.mov (.tmp 0),some (16,true),0⟩,
 ⟨(some 18),.mov (.tmp 1),some (16,true),0⟩,
 ⟨(some 19),.call 41 true [(.tmp 17),(.tmp 18)],some (16,true),0⟩,
 ⟨(some 20),.pick (.tmp 16) (.tmp 19) (.cst (.c (.bool false))),some (10,false),0⟩,
 ⟨(some 21),.pick (.tmp 10) (.cst (.c (.bool true))) (.tmp 20),none,0⟩,
 ⟨(some 4),.mov (.tmp 21),none,0⟩])
 .ret))⟩
/-- 72 (isatis/move.Land).isWeather$1 -/
def f72 : AFunc := ⟨14,[.tmp 4],false,
 (.seq (.region 0 [] [
 ⟨(some 4),.mov (.cst (.c (.bool false))),none,0⟩])
 (.seq (.region 0 [] [
 ⟨(some 6),.mov (.tmp 0),none,0⟩,
 ⟨(some 7),.load none (.tmp 1),none,0⟩,
 ⟨(some 8),.bin .add (.tmp 7) (.cst (.c (.int .i64 1))),none,0⟩,
 ⟨(some 9),.load none (.tmp 2),none,0⟩,
 ⟨(some 10),.bin .sub (.tmp 9) (.cst (.c (.int .i64 1))),none,0⟩,
 ⟨(some 11),.call 56 true [(.tmp 6),(.tmp 8),(.tmp 10)],none,0⟩,
 ⟨(some 5),.mov (.tmp 11),none,0⟩])
 (.seq (.region 0 [] [
 ⟨(some 12),.mov (.tmp 0),none,0⟩,
 ⟨none,.store none (.tmp 1) (.tmp 12),none,0⟩])
 (.seq (.region 0 [] [
 ⟨(some 13),.mov (.tmp 5),none,0⟩,
 ⟨(some 4),.mov (.tmp 13),none,0⟩])
 .ret))))⟩
/-- 73 (isatis/move.Land).start -/
def f73 : AFunc := ⟨8,[.cell 2 (some 11)],false,
 (.seq (.region 2 [] [
 ⟨(some 1),.box (.tmp 0),none,0⟩,
 ⟨(some 2),.alloc [(.int .i64 0),(.int .i64 0),(.int .i64 0),(.int .i64 0),(.int .i64 0),(.int .i64 0),(.int .i64 0),(.int .i64 0),(.int .i64 0),(.int .i64 0),(.int .i64 0)],none,1⟩])
 (.seq (.region 0 [] [
 ⟨(some 3),.faddr 1 (.tmp 1),none,0⟩,
 ⟨(some 4),.load none (.tmp 3),none,0⟩,
 ⟨(some 5),.faddr 2 (.tmp 1),none,0⟩,
 ⟨(some 6),.load none (.tmp 5),none,0⟩,
 ⟨(some 7),.build [(.int .i64 0),(.int .i64 0),(.int .i64 0),(.int .i64 0),(.int .i64 0),(.int .i64 0),(.int .i64 0),(.int .i64 0),(.int .i64 0),(.int .i64 0),(.int .i64 0)] [(1,1,(.tmp 4)),(2,1,(.tmp 6))],none,0⟩,
 ⟨none,.store (some 11) (.tmp 2) (.tmp 7),none,0⟩])
 .ret))⟩
/-- 74 (isatis/move.Land).pays -/
def f74 : AFunc := ⟨29,[.tmp 6,.tmp 7],false,
 (.seq (.region 2 [] [
 ⟨(some 3),.box (.tmp 0),none,0⟩,
 ⟨(some 4),.box (.tmp 1),none,1⟩,
 ⟨(some 6),.mov (.cst (.c (.int .i64 0))),none,2⟩,
 ⟨(some 7),.mov (.cst (.c (.bool false))),none,2⟩])
 (.seq (.region 0 [(0,2),(1,2),(0,3),(1,3),(0,6),(1,6),(2,6),(3,6),(4,6),(5,6),(0,9),(1,9),(2,9),(3,9),(4,9),(5,9),(6,9),(7,9),(8,9),(0,10),(1,10),(2,10),(3,10),(4,10),(5,10),(6,10),(7,10),(8,10),(0,11),(1,11),(2,11),(3,11),(4,11),(5,11),(6,11),(7,11),(8,11),(9,11),(10,11),(0,12),(1,12),(2,12),(3,12),(4,12),(5,12),(6,12),(7,12),(8,12),(0,13),(1,13),(2,13),(3,13),(4,13),(5,13),(6,13),(7,13),(8,13),(0,14),(1,14),(2,14),(3,14),(4,14),(5,14),(6,14),(7,14),(8,14)] [
 ⟨(some 8),.faddr 6 (.tmp 3),none,0⟩,
 ⟨(some 9),.load none (.tmp 8),none,0⟩,
 ⟨(some 10),.faddr 1 (.tmp 4),none,0⟩,
 ⟨(some 11),.load none (.tmp 10),none,0⟩,
 ⟨(some 12),.iaddr 1 (.tmp 9) (.tmp 11),none,0⟩,
 ⟨(some 13),.load none (.tmp 12),none,0⟩,
 ⟨(some 14),.mov (.tmp 2),none,0⟩,
 ⟨(some 15),.iaddr 1 (.tmp 13) (.tmp 14),none,0⟩,
 ⟨(some 16),.load none (.tmp 15),none,0⟩,
 ⟨(some 17),.faddr 5 (.tmp 3),none,0⟩,
 ⟨(some 18),.load none (.tmp 17),none,0⟩,
 ⟨(some 19),.mov (.tmp 2),none,0⟩,
 ⟨(some 20),.iaddr 3 (.tmp 18) (.tmp 19),none,0⟩,
 ⟨(some 21),.faddr 2 (.tmp 20),none,0⟩,
 ⟨(some 22),.load none (.tmp 21),none,0⟩,
 ⟨(some 23),.bin .add (.tmp 16) (.tmp 22),none,0⟩,
 ⟨(some 6),.mov (.tmp 23),none,0⟩])
 (.seq (.region 0 [(0,1),(0,2),(1,2),(0,3),(1,3),(0,4),(2,5),(3,5),(4,5)] [
 ⟨(some 24),.mov (.tmp 6),none,0⟩,
 ⟨(some 25),.mov (.tmp 6),none,0⟩,
 ⟨(some 26),.faddr 2 (.tmp 4),none,0⟩,
 ⟨(some 27),.load none (.tmp 26),none,0⟩,
 ⟨(some 28),.bin .leq (.tmp 25) (.tmp 27),none,0⟩,
 ⟨(some 6),.mov (.tmp 24),none,0⟩,
 ⟨(some 7),.mov (.tmp 28),none,0⟩])
 .ret)))⟩
/-- 75 (isatis/move.Land).next -/
def f75 : AFunc := ⟨52,[.cell 8 (some 11),.cell 9 (some 3)],false,
 (.seq (.region 4 [] [
 ⟨(some 4),.box (.tmp 0),none,0⟩,
 ⟨(some 5),.box (.tmp 1),none,1⟩,
 ⟨(some 8),.alloc [(.int .i64 0),(.int .i64 0),(.int .i64 0),(.int .i64 0),(.int .i64 0),(.int .i64 0),(.int .i64 0),(.int .i64 0),(.int .i64 0),(.int .i64 0),(.int .i64 0)],none,2⟩,
 ⟨(some 9),.alloc [(.int .i64 0),(.int .i64 0),(.int .i64 0)],none,3⟩])
 (.seq (.region 1 [] [
 ⟨(some 11),.load (some 7) (.tmp 4),none,0⟩,
 ⟨(some 12),.faddr 3 (.tmp 5),none,0⟩,
 ⟨(some 13),.load (some 8) (.tmp 12),none,0⟩,
 ⟨(some 14),.mov (.tmp 2),none,0⟩,
 ⟨(some 15),.call 89 true [(.tmp 11),(.tmp 13),(.tmp 14)],none,0⟩,
 ⟨(some 16),.build [(.int .i64 0),(.int .i64 0),(.int .i64 0)] [(0,1,(.tmp 15))],none,0⟩,
 ⟨(some 10),.alloc [(.int .i64 0),(.int .i64 0),(.int .i64 0)],none,0⟩,
 ⟨none,.store (some 3) (.tmp 10) (.tmp 16),none,1⟩])
 (.seq (.region 0 [] [
 ⟨(some 18),.load (some 7) (.tmp 4),none,0⟩,
 ⟨(some 19),.load (some 11) (.tmp 5),none,0⟩,
 ⟨(some 20),.mov (.tmp 2),none,0⟩,
 ⟨(some 21),.call 74 true [(.tmp 18),(.tmp 19),(.tmp 20)],none,0⟩,
 ⟨(some 17),.mov (.tmp 21),none,0⟩,
 ⟨(some 22),.extract 0 (.tmp 17),none,0⟩,
 ⟨(some 23),.extract 1 (.tmp 17),none,0⟩,
 ⟨(some 24),.faddr 1 (.tmp 10),none,0⟩,
 ⟨none,.store none (.tmp 24) (.tmp 22),none,0⟩])
 (.seq (.seq (.region 0 [] [
 ⟨(some 25),.mov (.tmp 3),none,0⟩])
 (.cond (.tmp 25)
 (.region 0 [] [
 ⟨(some 26),.faddr 0 (.tmp 10),none,0⟩,
 ⟨(some 27),.load none (.tmp 26),none,0⟩,
 ⟨(some 28),.bin .quo (.tmp 27) (.cst (.c (.int .i64 2))),none,0⟩,
 ⟨(some 29),.faddr 0 (.tmp 10),none,0⟩,
 ⟨none,.store none (.tmp 29) (.tmp 28),none,0⟩])
 .skip))
 (.seq (.region 0 [] [
 ⟨(some 30),.faddr 2 (.tmp 5),none,0⟩,
 ⟨(some 31),.load none (.tmp 30),none,0⟩,
 ⟨(some 32),.faddr 1 (.tmp 10),none,0⟩,
 ⟨(some 33),.load none (.tmp 32),none,0⟩,
 ⟨(some 34),.bin .sub (.tmp 31) (.tmp 33),none,0⟩,
 ⟨(some 35),.faddr 0 (.tmp 10),none,0⟩,
 ⟨(some 36),.load none (.tmp 35),none,0⟩,
 ⟨(some 37),.bin .add (.tmp 34) (.tmp 36),none,0⟩,
 ⟨(some 38),.faddr 2 (.tmp 10),none,0⟩,
 ⟨none,.store none (.tmp 38) (.tmp 37),none,0⟩])
 (.seq (.region 0 [(0,3),(1,3),(2,3),(0,4),(1,4),(2,4),(3,4),(0,5),(1,5),(2,5),(3,5),(0,6),(1,6),(2,6),(3,6),(4,6),(5,6),(0,7),(1,7),(2,7),(3,7),(4,7),(5,7),(0,8),(1,8),(2,8),(3,8),(4,8),(5,8),(6,8),(7,8),(0,9),(1,9),(2,9),(3,9),(4,9),(5,9),(6,9),(7,9),(8,9),(0,10),(1,10),(2,10),(3,10),(4,10),(5,10),(0,12),(1,12),(2,12),(3,12),(4,12),(5,12),(6,12),(7,12),(8,12),(9,12),(10,12),(11,12),(12,13)] [
 ⟨(some 39),.faddr 0 (.tmp 5),none,0⟩,
 ⟨(some 40),.load none (.tmp 39),none,0⟩,
 ⟨(some 41),.bin .add (.tmp 40) (.cst (.c (.int .i64 1))),none,0⟩,
 ⟨(some 42),.mov (.tmp 2),none,0⟩,
 ⟨(some 43),.faddr 2 (.tmp 10),none,0⟩,
 ⟨(some 44),.load none (.tmp 43),none,0⟩,
 ⟨(some 45),.faddr 3 (.tmp 5),none,0⟩,
 ⟨(some 46),.load (some 8) (.tmp 45),none,0⟩,
 ⟨(some 47),.load (some 7) (.tmp 4),none,0⟩,
 ⟨(some 48),.mov (.tmp 2),none,0⟩,
 ⟨(some 49),.call 90 true [(.tmp 46),(.tmp 47),(.tmp 48)],none,0⟩,
 ⟨(some 50),.build [(.int .i64 0),(.int .i64 0),(.int .i64 0),(.int .i64 0),(.int .i64 0),(.int .i64 0),(.int .i64 0),(.int .i64 0),(.int .i64 0),(.int .i64 0),(.int .i64 0)] [(0,1,(.tmp 41)),(1,1,(.tmp 42)),(2,1,(.tmp 44)),(3,8,(.tmp 49))],none,0⟩,
 ⟨(some 51),.load (some 3) (.tmp 10),none,0⟩,
 ⟨none,.store (some 11) (.tmp 8) (.tmp 50),none,0⟩,
 ⟨none,.store (some 3) (.tmp 9) (.tmp 51),none,0⟩])
 .ret))))))⟩
/-- 76 slices.Contains[[]int,int] -/
def f76 : AFunc := ⟨9,[.tmp 4],false,
 (.seq (.region 0 [] [
 ⟨(some 4),.mov (.cst (.c (.bool false))),none,0⟩])
 (.seq (.region 0 [] [
 ⟨(some 5),.mov (.tmp 0),none,0⟩,
 ⟨(some 6),.mov (.tmp 1),none,0⟩,
 ⟨(some 7),.call 91 true [(.tmp 5),(.tmp 6)],none,0⟩,
 ⟨(some 8),.bin .geq (.tmp 7) (.cst (.c (.int .i64 0))),none,0⟩,
 ⟨(some 4),.mov (.tmp 8),none,0⟩])
 .ret))⟩
/-- 77 isatis/move.cost -/
def f77 : AFunc := ⟨5,[.tmp 2],false,
 (.seq (.region 0 [] [
 ⟨(some 2),.mov (.cst (.c (.bool false))),none,0⟩])
 (.seq (.region 0 [] [
 ⟨(some 3),.mov (.tmp 0),none,0⟩,
 ⟨(some 4),.call 56 true [(.tmp 3),(.cst (.c (.int .i64 0))),(.cst (.c (.int .i64 99)))],none,0⟩,
 ⟨(some 2),.mov (.tmp 4),none,0⟩])
 .ret))⟩
/-- 78 slices.ContainsFunc[[]isatis/move.Site,isatis/move.Site] -/
def f78 : AFunc := ⟨9,[.tmp 4],false,
 (.seq (.region 0 [] [
 ⟨(some 4),.mov (.cst (.c (.bool false))),none,0⟩])
 (.seq (.region 0 [] [
 ⟨(some 5),.mov (.tmp 0),none,0⟩,
 ⟨(some 6),.mov (.tmp 1),none,0⟩,
 ⟨(some 7),.call 92 false [(.tmp 5),(.tmp 6)],none,0⟩,
 ⟨(some 8),.bin .geq (.tmp 7) (.cst (.c (.int .i64 0))),none,0⟩,
 ⟨(some 4),.mov (.tmp 8),none,0⟩])
 .ret))⟩
/-- 79 isatis/move.all[isatis/move.Site]$1 -/
def f79 : AFunc := ⟨8,[.tmp 3],true,
 (.seq (.region 1 [] [
 ⟨(some 2),.box (.tmp 0),none,0⟩,
 ⟨(some 3),.mov (.cst (.c (.bool false))),none,1⟩])
 (.seq (.region 0 [] [
 ⟨(some 4),.load none (.tmp 1),none,0⟩,
 ⟨(some 5),.load (some 3) (.tmp 2),none,0⟩,
 ⟨(some 6),.callv (.tmp 4) [(.tmp 5)],none,0⟩,
 ⟨(some 7),.not (.tmp 6),none,0⟩,
 ⟨(some 3),.mov (.tmp 7),none,0⟩])
 .ret))⟩
/-- 80 isatis/isatisref11.Taken | loop 0 vars [9,10,11] kill 19 makes false -/
def f80 : AFunc := ⟨32,[.tmp 8],false,
 (.seq (.region 1 [] [
 ⟨(some 4),.box (.tmp 0),none,0⟩,
 ⟨(some 8),.mov (.cst (.c (.int .i64 0))),none,1⟩])
 (.seq (.region 0 [] [
 ⟨(some 9),.mov (.cst (.c (.int .i64 0))),none,0⟩,
 ⟨(some 10),.mov (.cst (.c (.int .i64 0))),none,0⟩])
 (.seq (.seq (.region 0 [] [
 ⟨(some 11),.mov (.cst (.c (.int .i64 0))),none,0⟩])
 (.block 0 (.loop ⟨[12,13,14,15,16,17,18,19,20,21,22,23,24,25,26,27,28,29,30],false,[]⟩
 (.seq (.seq (.region 0 [] [
 ⟨(some 12),.mov (.tmp 11),none,0⟩,
 ⟨(some 13),.mov (.tmp 3),none,0⟩,
 ⟨(some 14),.bin .lss (.tmp 12) (.tmp 13),none,0⟩])
 (.cond (.tmp 14)
 .skip
 (.exit 0)))
 (.seq (.block 1 (.seq (.seq (.region 0 [] [
 ⟨(some 17),.mov (.tmp 1),none,0⟩,
 ⟨(some 18),.mov (.tmp 11),none,0⟩,
 ⟨(some 19),.iaddr 1 (.tmp 17) (.tmp 18),none,0⟩,
 ⟨(some 20),.load none (.tmp 19),none,0⟩,
 ⟨(some 21),.mov (.tmp 2),none,0⟩,
 ⟨(some 22),.bin .eql (.tmp 20) (.tmp 21),none,0⟩])
 (.cond (.tmp 22)
 (.seq (.region 0 [] [
 ⟨(some 23),.mov (.tmp 9),none,0⟩,
 ⟨(some 24),.bin .add (.tmp 23) (.cst (.c (.int .i64 1))),none,0⟩,
 ⟨(some 9),.mov (.tmp 24),none,0⟩,
 ⟨(some 10),.mov (.cst (.c (.int .i64 0))),none,0⟩])
 (.exit 1))
 .skip))
 (.seq (.region 0 [] [
 ⟨(some 25),.mov (.tmp 10),none,0⟩,
 ⟨(some 26),.bin .add (.tmp 25) (.cst (.c (.int .i64 1))),none,0⟩,
 ⟨(some 10),.mov (.tmp 26),none,0⟩])
 (.seq (.region 0 [] [
 ⟨(some 27),.mov (.tmp 10),none,0⟩,
 ⟨(some 28),.faddr 4 (.tmp 4),none,0⟩,
 ⟨(some 29),.load none (.tmp 28),none,0⟩,
 ⟨(some 30),.bin .geq (.tmp 27) (.tmp 29),none,0⟩])
 (.cond (.tmp 30)
 (.region 0 [] [
 ⟨(some 9),.mov (.cst (.c (.int .i64 0))),none,0⟩])
 .skip)))))
 (.region 0 [] [
 ⟨(some 15),.mov (.tmp 11),none,0⟩,
 ⟨(some 16),.bin .add (.tmp 15) (.cst (.c (.int .i64 1))),none,0⟩,
 ⟨(some 11),.mov (.tmp 16),none,0⟩]))))))
 (.seq (.region 0 [] [
 ⟨(some 31),.mov (.tmp 9),none,0⟩,
 ⟨(some 8),.mov (.tmp 31),none,0⟩])
 .ret))))⟩
/-- 81 (isatis/move.Land).best$1 -/
def f81 : AFunc := ⟨29,[],false,
 (.seq (.region 0 [] [
 ⟨(some 10),.load (some 7) (.tmp 1),none,0⟩,
 ⟨(some 11),.mov (.tmp 0),none,0⟩,
 ⟨(some 12),.call 64 true [(.tmp 10),(.tmp 11)],none,0⟩,
 ⟨(some 9),.mov (.tmp 12),none,0⟩,
 ⟨(some 13),.extract 0 (.tmp 9),none,0⟩,
 ⟨(some 14),.extract 1 (.tmp 9),none,0⟩,
 ⟨(some 15),.extract 2 (.tmp 9),none,0⟩,
 ⟨(some 6),.mov (.tmp 13),none,0⟩,
 ⟨(some 7),.mov (.tmp 14),none,0⟩,
 ⟨(some 8),.mov (.tmp 15),none,0⟩])
 (.seq (.region 0 [] [
 ⟨(some 16),.mov (.tmp 8),none,0⟩,
 ⟨(some 17),.mov (.tmp 16),none,0⟩,
 ⟨(some 18),.load none (.tmp 2),some (17,true),0⟩,
 ⟨(some 19),.not (.tmp 18),some (17,true),0⟩,
 ⟨(some 20),.mov (.tmp 19),some (17,true),0⟩,
 ⟨(some 21),.mov (.tmp 6),some (20,false),0⟩,
 ⟨(some 22),.load none (.tmp 3),some (20,false),0⟩,
 ⟨(some 23),.bin .gtr (.tmp 21) (.tmp 22),some (20,false),0⟩,
 ⟨(some 24),.pick (.tmp 20) (.cst (.c (.bool true))) (.tmp 23),some (17,true),0⟩,
 ⟨(some 25),.pick (.tmp 17) (.tmp 24) (.cst (.c (.bool false))),none,0⟩])
 (.cond (.tmp 25)
 (.region 1 [] [
 ⟨(some 26),.mov (.tmp 0),none,0⟩,
 ⟨(some 27),.clone 82 1 8 (.tmp 26),none,0⟩,
 ⟨(some 28),.mov (.tmp 6),none,1⟩,
 ⟨none,.store none (.tmp 4) (.tmp 27),none,1⟩,
 ⟨none,.store none (.tmp 3) (.tmp 28),none,1⟩,
 ⟨none,.store none (.tmp 2) (.cst (.c (.bool true))),none,1⟩])
 .skip)))⟩
/-- 82 slices.Clone[[]int,int] -/
def f82 : AFunc := ⟨8,[.tmp 2],false,
 (.seq (.region 0 [] [
 ⟨(some 2),.mov (.cst (.c .nils)),none,0⟩])
 (.seq (.seq (.region 0 [] [
 ⟨(some 3),.mov (.tmp 0),none,0⟩,
 ⟨(some 4),.isnil false (.tmp 3),none,0⟩])
 (.cond (.tmp 4)
 (.seq (.region 0 [] [
 ⟨(some 2),.mov (.cst (.c .nils)),none,0⟩])
 .ret)
 .skip))
 (.seq (.region 2 [] [
 ⟨(some 5),.bslice 1 0 [(.int .i64 0)] [],none,0⟩,
 ⟨(some 6),.mov (.tmp 0),none,1⟩,
 ⟨(some 7),.append 1 8 (.tmp 5) (.tmp 6),none,1⟩,
 ⟨(some 2),.mov (.tmp 7),none,2⟩])
 .ret)))⟩
/-- 83 (isatis/move.Land).plans$1 | loop 0 vars [18] kill 15 makes true -/
def f83 : AFunc := ⟨33,[],false,
 (.seq (.seq (.region 0 [] [
 ⟨(some 8),.mov (.tmp 0),none,0⟩,
 ⟨(some 9),.faddr 0 (.tmp 1),none,0⟩,
 ⟨(some 10),.load none (.tmp 9),none,0⟩,
 ⟨(some 11),.bin .gtr (.tmp 8) (.tmp 10),none,0⟩])
 (.cond (.tmp 11)
 (.seq (.region 0 [] [
 ⟨(some 12),.load none (.tmp 2),none,0⟩,
 ⟨(some 13),.load none (.tmp 3),none,0⟩,
 ⟨(some 14),.callv (.tmp 12) [(.tmp 13)],none,0⟩])
 .ret)
 .skip))
 (.seq (.region 0 [] [
 ⟨(some 15),.faddr 5 (.tmp 1),none,0⟩,
 ⟨(some 16),.load none (.tmp 15),none,0⟩,
 ⟨(some 17),.len (.tmp 16),none,0⟩,
 ⟨(some 18),.mov (.cst (.c (.int .i64 0))),none,0⟩])
 (.block 0 (.loop ⟨[7,19,20,21,22,23,24,25,26,27,28,29,30,31,32],false,[]⟩
 (.seq (.region 0 [] [
 ⟨(some 19),.bin .lss (.tmp 18) (.tmp 17),none,0⟩])
 (.seq (.cond (.tmp 19)
 .skip
 (.exit 0))
 (.seq (.block 1 (.seq (.region 0 [] [
 ⟨(some 20),.mov (.tmp 18),none,0⟩,
 ⟨(some 7),.mov (.tmp 20),none,0⟩])
 (.seq (.region 0 [] [
 ⟨(some 21),.load none (.tmp 3),none,0⟩,
 ⟨(some 22),.mov (.tmp 0),none,0⟩,
 ⟨(some 23),.mov (.tmp 7),none,0⟩,
 ⟨(some 24),.iaddr 1 (.tmp 21) (.tmp 22),none,0⟩,
 ⟨none,.store none (.tmp 24) (.tmp 23),none,0⟩])
 (.seq (.region 0 [] [
 ⟨(some 25),.mov (.tmp 7),none,0⟩,
 ⟨(some 26),.load none (.tmp 4),none,0⟩,
 ⟨(some 27),.bin .neq (.tmp 25) (.tmp 26),none,0⟩])
 (.cond (.tmp 27)
 (.region 0 [] [
 ⟨(some 28),.load none (.tmp 5),none,0⟩,
 ⟨(some 29),.mov (.tmp 0),none,0⟩,
 ⟨(some 30),.bin .add (.tmp 29) (.cst (.c (.int .i64 1))),none,0⟩,
 ⟨(some 31),.callv (.tmp 28) [(.tmp 30)],none,0⟩])
 .skip)))))
 (.region 0 [] [
 ⟨(some 32),.bin .add (.tmp 18) (.cst (.c (.int .i64 1))),none,0⟩,
 ⟨(some 18),.mov (.tmp 32),none,0⟩]))))))))⟩
/-- 84 (isatis/move.Land).weathers -/
def f84 : AFunc := ⟨4,[.tmp 2],false,
 (.seq (.region 1 [] [
 ⟨(some 1),.box (.tmp 0),none,0⟩,
 ⟨(some 2),.mov (.cst (.c .nilfn)),none,1⟩])
 (.seq (.region 0 [] [
 ⟨(some 3),.mkfn 93 none [(.tmp 1)],none,0⟩,
 ⟨(some 2),.mov (.tmp 3),none,0⟩])
 .ret))⟩
/-- 85 slices.ContainsFunc[[]int,int] -/
def f85 : AFunc := ⟨9,[.tmp 4],false,
 (.seq (.region 0 [] [
 ⟨(some 4),.mov (.cst (.c (.bool false))),none,0⟩])
 (.seq (.region 0 [] [
 ⟨(some 5),.mov (.tmp 0),none,0⟩,
 ⟨(some 6),.mov (.tmp 1),none,0⟩,
 ⟨(some 7),.call 95 false [(.tmp 5),(.tmp 6)],none,0⟩,
 ⟨(some 8),.bin .geq (.tmp 7) (.cst (.c (.int .i64 0))),none,0⟩,
 ⟨(some 4),.mov (.tmp 8),none,0⟩])
 .ret))⟩
/-- 86 isatis/move.all[int]$1 -/
def f86 : AFunc := ⟨8,[.tmp 3],false,
 (.seq (.region 0 [] [
 ⟨(some 3),.mov (.cst (.c (.bool false))),none,0⟩])
 (.seq (.region 0 [] [
 ⟨(some 4),.load none (.tmp 1),none,0⟩,
 ⟨(some 5),.mov (.tmp 0),none,0⟩,
 ⟨(some 6),.callv (.tmp 4) [(.tmp 5)],none,0⟩,
 ⟨(some 7),.not (.tmp 6),none,0⟩,
 ⟨(some 3),.mov (.tmp 7),none,0⟩])
 .ret))⟩
/-- 87 isatis/move.minimum -/
def f87 : AFunc := ⟨5,[.tmp 2],false,
 (.seq (.region 0 [] [
 ⟨(some 2),.mov (.cst (.c (.int .i64 0))),none,0⟩])
 (.seq (.region 0 [] [
 ⟨(some 3),.mov (.tmp 0),none,0⟩,
 ⟨(some 4),.call 96 true [(.tmp 3)],none,0⟩,
 ⟨(some 2),.mov (.tmp 4),none,0⟩])
 .ret))⟩
/-- 88 isatis/isatisref11.Bits | loop 0 vars [3,4] kill 17 makes true reify [(3,(none,1))] -/
def f88 : AFunc := ⟨23,[.tmp 2],false,
 (.seq (.region 0 [] [
 ⟨(some 2),.mov (.cst (.c .nils)),none,0⟩])
 (.seq (.region 0 [] [
 ⟨(some 3),.mov (.cst (.c .nils)),none,0⟩])
 (.seq (.seq (.region 0 [] [
 ⟨(some 4),.mov (.cst (.c (.int .i64 0))),none,0⟩])
 (.block 0 (.loop ⟨[5,6,7,8,9,10,11,12,13,14,15,16,17,18,19,20,21],true,[(3,none,1)]⟩
 (.seq (.seq (.region 0 [] [
 ⟨(some 5),.mov (.tmp 0),none,0⟩,
 ⟨(some 6),.mov (.tmp 4),none,0⟩,
 ⟨(some 7),.conv .u64 (.tmp 6),none,0⟩,
 ⟨(some 8),.bin .shr (.tmp 5) (.tmp 7),none,0⟩,
 ⟨(some 9),.bin .gtr (.tmp 8) (.cst (.c (.int .i64 0))),none,0⟩])
 (.cond (.tmp 9)
 .skip
 (.exit 0)))
 (.seq (.block 1 (.seq (.region 0 [] [
 ⟨(some 12),.mov (.tmp 0),none,0⟩,
 ⟨(some 13),.mov (.tmp 4),none,0⟩,
 ⟨(some 14),.conv .u64 (.tmp 13),none,0⟩,
 ⟨(some 15),.bin .shr (.tmp 12) (.tmp 14),none,0⟩,
 ⟨(some 16),.bin .rem (.tmp 15) (.cst (.c (.int .i64 2))),none,0⟩,
 ⟨(some 17),.bin .eql (.tmp 16) (.cst (.c (.int .i64 1))),none,0⟩])
 (.cond (.tmp 17)
 (.region 2 [] [
 ⟨(some 18),.mov (.tmp 3),none,0⟩,
 ⟨(some 19),.mov (.tmp 4),none,0⟩,
 ⟨(some 20),.bslice 1 1 [(.int .i64 0)] [(0,(.tmp 19))],none,0⟩,
 ⟨(some 21),.append 1 8 (.tmp 18) (.tmp 20),none,1⟩,
 ⟨(some 3),.mov (.tmp 21),none,2⟩])
 .skip)))
 (.region 0 [] [
 ⟨(some 10),.mov (.tmp 4),none,0⟩,
 ⟨(some 11),.bin .add (.tmp 10) (.cst (.c (.int .i64 1))),none,0⟩,
 ⟨(some 4),.mov (.tmp 11),none,0⟩]))))))
 (.seq (.region 0 [] [
 ⟨(some 22),.mov (.tmp 3),none,0⟩,
 ⟨(some 2),.mov (.tmp 22),none,0⟩])
 .ret))))⟩
/-- 89 (isatis/move.Land).crop -/
def f89 : AFunc := ⟨36,[.tmp 6],false,
 (.seq (.region 2 [] [
 ⟨(some 3),.box (.tmp 0),none,0⟩,
 ⟨(some 4),.box (.tmp 1),none,1⟩,
 ⟨(some 6),.mov (.cst (.c (.int .i64 0))),none,2⟩])
 (.seq (.seq (.region 0 [] [
 ⟨(some 8),.load (some 8) (.tmp 4),none,0⟩,
 ⟨(some 9),.build [(.int .i64 0),(.int .i64 0),(.int .i64 0),(.int .i64 0),(.int .i64 0),(.int .i64 0),(.int .i64 0),(.int .i64 0)] [],none,0⟩,
 ⟨(some 10),.eqA false [(some .i64),(some .i64),(some .i64),(some .i64),(some .i64),(some .i64),(some .i64),(some .i64)] (.tmp 8) (.tmp 9),none,0⟩])
 (.cond (.tmp 10)
 (.seq (.region 0 [] [
 ⟨(some 11),.faddr 5 (.tmp 3),none,0⟩,
 ⟨(some 12),.load none (.tmp 11),none,0⟩,
 ⟨(some 13),.mov (.tmp 2),none,0⟩,
 ⟨(some 14),.iaddr 3 (.tmp 12) (.tmp 13),none,0⟩,
 ⟨(some 15),.faddr 0 (.tmp 14),none,0⟩,
 ⟨(some 16),.load none (.tmp 15),none,0⟩,
 ⟨(some 6),.mov (.tmp 16),none,0⟩])
 .ret)
 .skip))
 (.seq (.region 1 [] [
 ⟨(some 17),.build [.nilfn] [(0,1,(.cst (.c (.fn 97 false [] []))))],none,0⟩,
 ⟨(some 18),.build [.nilfn] [(0,1,(.cst (.c (.fn 98 false [] []))))],none,0⟩,
 ⟨(some 19),.build [.nilfn] [(0,1,(.cst (.c (.fn 99 false [] []))))],none,0⟩,
 ⟨(some 20),.build [.nilfn,.nilfn,.nilfn] [(0,1,(.tmp 17)),(1,1,(.tmp 18)),(2,1,(.tmp 19))],none,0⟩,
 ⟨(some 7),.alloc [.nilfn,.nilfn,.nilfn],none,0⟩,
 ⟨none,.store (some 3) (.tmp 7) (.tmp 20),none,1⟩])
 (.seq (.region 1 [(0,9),(1,9),(2,9),(3,9),(4,9),(5,9),(6,9),(7,9),(8,9),(0,10),(1,10),(2,10),(3,10),(4,10),(5,10),(6,10),(7,10),(8,10),(0,11),(1,11),(2,11),(3,11),(4,11),(5,11),(6,11),(7,11),(8,11),(9,11),(10,11),(0,12),(1,12),(2,12),(3,12),(4,12),(5,12),(6,12),(7,12),(8,12),(0,13),(1,13),(2,13),(3,13),(4,13),(5,13),(6,13),(7,13),(8,13)] [
 ⟨(some 21),.mov (.tmp 2),none,0⟩,
 ⟨(some 22),.iaddrA 4 2 (.tmp 4) (.tmp 21),none,0⟩,
 ⟨(some 23),.faddr 0 (.tmp 22),none,0⟩,
 ⟨(some 24),.load none (.tmp 23),none,0⟩,
 ⟨(some 25),.bslice 1 2 [(.int .i64 0)] [(0,(.tmp 24)),(1,(.cst (.c (.int .i64 2))))],none,0⟩,
 ⟨(some 26),.call 87 true [(.tmp 25)],none,1⟩,
 ⟨(some 27),.iaddrA 3 1 (.tmp 7) (.tmp 26),none,1⟩,
 ⟨(some 28),.faddr 0 (.tmp 27),none,1⟩,
 ⟨(some 29),.load none (.tmp 28),none,1⟩,
 ⟨(some 30),.faddr 5 (.tmp 3),none,1⟩,
 ⟨(some 31),.load none (.tmp 30),none,1⟩,
 ⟨(some 32),.mov (.tmp 2),none,1⟩,
 ⟨(some 33),.iaddr 3 (.tmp 31) (.tmp 32),none,1⟩,
 ⟨(some 34),.load (some 3) (.tmp 33),none,1⟩,
 ⟨(some 35),.callv (.tmp 29) [(.tmp 34)],none,1⟩,
 ⟨(some 6),.mov (.tmp 35),none,1⟩])
 .ret))))⟩
/-- 90 (isatis/move.soils).after | loop 0 vars [8] kill 32 makes false -/
def f90 : AFunc := ⟨41,[.cell 6 (some 8)],false,
 (.seq (.region 3 [] [
 ⟨(some 3),.box (.tmp 0),none,0⟩,
 ⟨(some 4),.box (.tmp 1),none,1⟩,
 ⟨(some 6),.alloc [(.int .i64 0),(.int .i64 0),(.int .i64 0),(.int .i64 0),(.int .i64 0),(.int .i64 0),(.int .i64 0),(.int .i64 0)],none,2⟩])
 (.seq (.seq (.region 0 [] [
 ⟨(some 8),.mov (.cst (.c (.int .i64 0))),none,0⟩])
 (.block 0 (.loop ⟨[7,9,10,11,12,13,14,15,16,17,18,19,20,21,22,23,24,25,26,27,28,29,30,31,32,33,34,35,36,37,38,39],false,[]⟩
 (.seq (.region 0 [] [
 ⟨(some 9),.bin .lss (.tmp 8) (.cst (.c (.int .i64 4))),none,0⟩])
 (.seq (.cond (.tmp 9)
 .skip
 (.exit 0))
 (.seq (.block 1 (.seq (.region 0 [] [
 ⟨(some 10),.mov (.tmp 8),none,0⟩,
 ⟨(some 7),.mov (.tmp 10),none,0⟩])
 (.seq (.seq (.region 0 [] [
 ⟨(some 11),.mov (.tmp 7),none,0⟩,
 ⟨(some 12),.mov (.tmp 2),none,0⟩,
 ⟨(some 13),.bin .eql (.tmp 11) (.tmp 12),none,0⟩])
 (.cond (.tmp 13)
 (.seq (.region 0 [] [
 ⟨(some 14),.mov (.tmp 7),none,0⟩,
 ⟨(some 15),.mov (.tmp 7),none,0⟩,
 ⟨(some 16),.iaddrA 4 2 (.tmp 3) (.tmp 15),none,0⟩,
 ⟨(some 17),.faddr 0 (.tmp 16),none,0⟩,
 ⟨(some 18),.load none (.tmp 17),none,0⟩,
 ⟨(some 19),.bin .add (.tmp 18) (.cst (.c (.int .i64 1))),none,0⟩,
 ⟨(some 20),.build [(.int .i64 0),(.int .i64 0)] [(0,1,(.tmp 19)),(1,1,(.cst (.c (.int .i64 0))))],none,0⟩,
 ⟨(some 21),.iaddrA 4 2 (.tmp 3) (.tmp 14),none,0⟩,
 ⟨none,.store (some 2) (.tmp 21) (.tmp 20),none,0⟩])
 (.exit 1))
 .skip))
 (.seq (.region 0 [] [
 ⟨(some 22),.mov (.tmp 7),none,0⟩,
 ⟨(some 23),.iaddrA 4 2 (.tmp 3) (.tmp 22),none,0⟩,
 ⟨(some 24),.faddr 1 (.tmp 23),none,0⟩,
 ⟨(some 25),.load none (.tmp 24),none,0⟩,
 ⟨(some 26),.bin .add (.tmp 25) (.cst (.c (.int .i64 1))),none,0⟩,
 ⟨(some 27),.iaddrA 4 2 (.tmp 3) (.tmp 22),none,0⟩,
 ⟨(some 28),.faddr 1 (.tmp 27),none,0⟩,
 ⟨none,.store none (.tmp 28) (.tmp 26),none,0⟩])
 (.seq (.region 0 [(0,4),(1,4),(2,4),(3,4),(0,5),(1,5),(2,5),(3,5)] [
 ⟨(some 29),.mov (.tmp 7),none,0⟩,
 ⟨(some 30),.iaddrA 4 2 (.tmp 3) (.tmp 29),none,0⟩,
 ⟨(some 31),.faddr 1 (.tmp 30),none,0⟩,
 ⟨(some 32),.load none (.tmp 31),none,0⟩,
 ⟨(some 33),.faddr 4 (.tmp 4),none,0⟩,
 ⟨(some 34),.load none (.tmp 33),none,0⟩,
 ⟨(some 35),.bin .geq (.tmp 32) (.tmp 34),none,0⟩])
 (.cond (.tmp 35)
 (.region 0 [] [
 ⟨(some 36),.mov (.tmp 7),none,0⟩,
 ⟨(some 37),.iaddrA 4 2 (.tmp 3) (.tmp 36),none,0⟩,
 ⟨(some 38),.faddr 0 (.tmp 37),none,0⟩,
 ⟨none,.store none (.tmp 38) (.cst (.c (.int .i64 0))),none,0⟩])
 .skip))))))
 (.region 0 [] [
 ⟨(some 39),.bin .add (.tmp 8) (.cst (.c (.int .i64 1))),none,0⟩,
 ⟨(some 8),.mov (.tmp 39),none,0⟩])))))))
 (.seq (.region 0 [] [
 ⟨(some 40),.load (some 8) (.tmp 3),none,0⟩,
 ⟨none,.store (some 8) (.tmp 6) (.tmp 40),none,0⟩])
 .ret)))⟩
/-- 91 slices.Index[[]int,int] | loop 0 vars [8] kill 12 makes false -/
def f91 : AFunc := ⟨19,[.tmp 4],false,
 (.seq (.region 0 [] [
 ⟨(some 4),.mov (.cst (.c (.int .i64 0))),none,0⟩])
 (.seq (.seq (.region 0 [] [
 ⟨(some 6),.mov (.tmp 0),none,0⟩,
 ⟨(some 7),.len (.tmp 6),none,0⟩,
 ⟨(some 8),.mov (.cst (.c (.int .i64 0))),none,0⟩])
 (.block 0 (.loop ⟨[4,5,9,10,11,12,13,14,15,16,17,18],false,[]⟩
 (.seq (.region 0 [] [
 ⟨(some 9),.bin .lss (.tmp 8) (.tmp 7),none,0⟩])
 (.seq (.cond (.tmp 9)
 .skip
 (.exit 0))
 (.seq (.block 1 (.seq (.region 0 [] [
 ⟨(some 10),.mov (.tmp 8),none,0⟩,
 ⟨(some 5),.mov (.tmp 10),none,0⟩])
 (.seq (.region 0 [] [
 ⟨(some 11),.mov (.tmp 1),none,0⟩,
 ⟨(some 12),.mov (.tmp 0),none,0⟩,
 ⟨(some 13),.mov (.tmp 5),none,0⟩,
 ⟨(some 14),.iaddr 1 (.tmp 12) (.tmp 13),none,0⟩,
 ⟨(some 15),.load none (.tmp 14),none,0⟩,
 ⟨(some 16),.bin .eql (.tmp 11) (.tmp 15),none,0⟩])
 (.cond (.tmp 16)
 (.seq (.region 0 [] [
 ⟨(some 17),.mov (.tmp 5),none,0⟩,
 ⟨(some 4),.mov (.tmp 17),none,0⟩])
 .ret)
 .skip))))
 (.region 0 [] [
 ⟨(some 18),.bin .add (.tmp 8) (.cst (.c (.int .i64 1))),none,0⟩,
 ⟨(some 8),.mov (.tmp 18),none,0⟩])))))))
 (.seq (.region 0 [] [
 ⟨(some 4),.mov (.cst (.c (.int .i64 (-1)))),none,0⟩])
 .ret)))⟩
/-- 92 slices.IndexFunc[[]isatis/move.Site,isatis/move.Site] | loop 0 vars [8] kill 12 makes true -/
def f92 : AFunc := ⟨19,[.tmp 4],false,
 (.seq (.region 0 [] [
 ⟨(some 4),.mov (.cst (.c (.int .i64 0))),none,0⟩])
 (.seq (.seq (.region 0 [] [
 ⟨(some 6),.mov (.tmp 0),none,0⟩,
 ⟨(some 7),.len (.tmp 6),none,0⟩,
 ⟨(some 8),.mov (.cst (.c (.int .i64 0))),none,0⟩])
 (.block 0 (.loop ⟨[4,5,9,10,11,12,13,14,15,16,17,18],false,[]⟩
 (.seq (.region 0 [] [
 ⟨(some 9),.bin .lss (.tmp 8) (.tmp 7),none,0⟩])
 (.seq (.cond (.tmp 9)
 .skip
 (.exit 0))
 (.seq (.block 1 (.seq (.region 0 [] [
 ⟨(some 10),.mov (.tmp 8),none,0⟩,
 ⟨(some 5),.mov (.tmp 10),none,0⟩])
 (.seq (.region 0 [] [
 ⟨(some 11),.mov (.tmp 1),none,0⟩,
 ⟨(some 12),.mov (.tmp 0),none,0⟩,
 ⟨(some 13),.mov (.tmp 5),none,0⟩,
 ⟨(some 14),.iaddr 3 (.tmp 12) (.tmp 13),none,0⟩,
 ⟨(some 15),.load (some 3) (.tmp 14),none,0⟩,
 ⟨(some 16),.callv (.tmp 11) [(.tmp 15)],none,0⟩])
 (.cond (.tmp 16)
 (.seq (.region 0 [] [
 ⟨(some 17),.mov (.tmp 5),none,0⟩,
 ⟨(some 4),.mov (.tmp 17),none,0⟩])
 .ret)
 .skip))))
 (.region 0 [] [
 ⟨(some 18),.bin .add (.tmp 8) (.cst (.c (.int .i64 1))),none,0⟩,
 ⟨(some 8),.mov (.tmp 18),none,0⟩])))))))
 (.seq (.region 0 [] [
 ⟨(some 4),.mov (.cst (.c (.int .i64 (-1)))),none,0⟩])
 .ret)))⟩
/-- 93 (isatis/move.Land).weathers$1 | loop 0 vars [9] kill 8 makes true -/
def f93 : AFunc := ⟨17,[],false,
 (.seq (.region 1 [] [
 ⟨(some 2),.box (.tmp 0),none,0⟩])
 (.seq (.region 1 [] [
 ⟨(some 3),.alloc [.nilfn],none,0⟩])
 (.seq (.region 0 [] [
 ⟨(some 5),.mkfn 94 none [(.tmp 2),(.tmp 1),(.tmp 3)],none,0⟩,
 ⟨none,.store none (.tmp 3) (.tmp 5),none,0⟩])
 (.seq (.region 0 [] [
 ⟨(some 6),.faddr 3 (.tmp 1),none,0⟩,
 ⟨(some 7),.load none (.tmp 6),none,0⟩,
 ⟨(some 8),.bin .add (.tmp 7) (.cst (.c (.int .i64 1))),none,0⟩,
 ⟨(some 9),.mov (.cst (.c (.int .i64 0))),none,0⟩])
 (.block 0 (.loop ⟨[4,10,11,12,13,14,15,16],false,[]⟩
 (.seq (.region 0 [] [
 ⟨(some 10),.bin .lss (.tmp 9) (.tmp 8),none,0⟩])
 (.seq (.cond (.tmp 10)
 .skip
 (.exit 0))
 (.seq (.block 1 (.seq (.region 0 [] [
 ⟨(some 11),.mov (.tmp 9),none,0⟩,
 ⟨(some 4),.mov (.tmp 11),none,0⟩])
 (.seq (.region 0 [] [
 ⟨(some 12),.load none (.tmp 3),none,0⟩,
 ⟨(some 13),.mov (.tmp 4),none,0⟩,
 ⟨(some 14),.callv (.tmp 12) [(.cst (.c .nils)),(.cst (.c (.int .i64 0))),(.tmp 13)],none,0⟩,
 ⟨(some 15),.not (.tmp 14),none,0⟩])
 (.cond (.tmp 15)
 .ret
 .skip))))
 (.region 0 [] [
 ⟨(some 16),.bin .add (.tmp 9) (.cst (.c (.int .i64 1))),none,0⟩,
 ⟨(some 9),.mov (.tmp 16),none,0⟩]))))))))))⟩
/-- 94 (isatis/move.Land).weathers$1$1 | loop 0 vars [10] kill 22 makes true -/
def f94 : AFunc := ⟨38,[.tmp 9],false,
 (.seq (.region 0 [] [
 ⟨(some 9),.mov (.cst (.c (.bool false))),none,0⟩])
 (.seq (.seq (.region 0 [] [
 ⟨(some 11),.mov (.tmp 2),none,0⟩,
 ⟨(some 12),.bin .eql (.tmp 11) (.cst (.c (.int .i64 0))),none,0⟩])
 (.cond (.tmp 12)
 (.seq (.region 0 [] [
 ⟨(some 13),.load none (.tmp 3),none,0⟩,
 ⟨(some 14),.mov (.tmp 0),none,0⟩,
 ⟨(some 15),.callv (.tmp 13) [(.tmp 14)],none,0⟩,
 ⟨(some 9),.mov (.tmp 15),none,0⟩])
 .ret)
 .skip))
 (.seq (.seq (.region 0 [] [
 ⟨(some 16),.mov (.tmp 1),none,0⟩,
 ⟨(some 10),.mov (.tmp 16),none,0⟩])
 (.block 0 (.loop ⟨[9,17,18,19,20,21,22,23,24,25,26,27,28,29,30,31,32,33,34,35,36,37],false,[]⟩
 (.seq (.seq (.region 0 [] [
 ⟨(some 17),.mov (.tmp 10),none,0⟩,
 ⟨(some 18),.faddr 0 (.tmp 4),none,0⟩,
 ⟨(some 19),.load none (.tmp 18),none,0⟩,
 ⟨(some 20),.bin .add (.tmp 19) (.cst (.c (.int .i64 1))),none,0⟩,
 ⟨(some 21),.mov (.tmp 2),none,0⟩,
 ⟨(some 22),.bin .sub (.tmp 20) (.tmp 21),none,0⟩,
 ⟨(some 23),.bin .leq (.tmp 17) (.tmp 22),none,0⟩])
 (.cond (.tmp 23)
 .skip
 (.exit 0)))
 (.seq (.block 1 (.seq (.region 3 [(0,1),(0,2),(0,3),(1,3),(2,3),(0,4),(1,4),(2,4),(0,5),(0,6),(1,6),(2,6),(3,6),(4,6),(5,6),(0,7),(1,7),(2,7),(3,7),(4,7),(5,7),(0,8),(1,8),(2,8),(3,8),(4,8),(5,8),(6,8),(7,8),(0,9),(1,9),(2,9),(3,9),(4,9),(5,9),(6,9),(7,9)] [
 ⟨(some 26),.load none (.tmp 5),none,0⟩,
 ⟨(some 27),.mov (.tmp 0),none,0⟩,
 ⟨(some 28),.clone 82 1 8 (.tmp 27),none,0⟩,
 ⟨(some 29),.mov (.tmp 10),none,1⟩,
 ⟨(some 30),.bslice 1 1 [(.int .i64 0)] [(0,(.tmp 29))],none,1⟩,
 ⟨(some 31),.append 1 8 (.tmp 28) (.tmp 30),none,2⟩,
 ⟨(some 32),.mov (.tmp 10),none,3⟩,
 ⟨(some 33),.bin .add (.tmp 32) (.cst (.c (.int .i64 1))),none,3⟩,
 ⟨(some 34),.mov (.tmp 2),none,3⟩,
 ⟨(some 35),.bin .sub (.tmp 34) (.cst (.c (.int .i64 1))),none,3⟩,
 ⟨(some 36),.callv (.tmp 26) [(.tmp 31),(.tmp 33),(.tmp 35)],none,3⟩,
 ⟨(some 37),.not (.tmp 36),none,3⟩])
 (.cond (.tmp 37)
 (.seq (.region 0 [] [
 ⟨(some 9),.mov (.cst (.c (.bool false))),none,0⟩])
 .ret)
 .skip)))
 (.region 0 [] [
 ⟨(some 24),.mov (.tmp 10),none,0⟩,
 ⟨(some 25),.bin .add (.tmp 24) (.cst (.c (.int .i64 1))),none,0⟩,
 ⟨(some 10),.mov (.tmp 25),none,0⟩]))))))
 (.seq (.region 0 [] [
 ⟨(some 9),.mov (.cst (.c (.bool true))),none,0⟩])
 .ret))))⟩
/-- 95 slices.IndexFunc[[]int,int] | loop 0 vars [8] kill 12 makes true -/
def f95 : AFunc := ⟨19,[.tmp 4],false,
 (.seq (.region 0 [] [
 ⟨(some 4),.mov (.cst (.c (.int .i64 0))),none,0⟩])
 (.seq (.seq (.region 0 [] [
 ⟨(some 6),.mov (.tmp 0),none,0⟩,
 ⟨(some 7),.len (.tmp 6),none,0⟩,
 ⟨(some 8),.mov (.cst (.c (.int .i64 0))),none,0⟩])
 (.block 0 (.loop ⟨[4,5,9,10,11,12,13,14,15,16,17,18],false,[]⟩
 (.seq (.region 0 [] [
 ⟨(some 9),.bin .lss (.tmp 8) (.tmp 7),none,0⟩])
 (.seq (.cond (.tmp 9)
 .skip
 (.exit 0))
 (.seq (.block 1 (.seq (.region 0 [] [
 ⟨(some 10),.mov (.tmp 8),none,0⟩,
 ⟨(some 5),.mov (.tmp 10),none,0⟩])
 (.seq (.region 0 [] [
 ⟨(some 11),.mov (.tmp 1),none,0⟩,
 ⟨(some 12),.mov (.tmp 0),none,0⟩,
 ⟨(some 13),.mov (.tmp 5),none,0⟩,
 ⟨(some 14),.iaddr 1 (.tmp 12) (.tmp 13),none,0⟩,
 ⟨(some 15),.load none (.tmp 14),none,0⟩,
 ⟨(some 16),.callv (.tmp 11) [(.tmp 15)],none,0⟩])
 (.cond (.tmp 16)
 (.seq (.region 0 [] [
 ⟨(some 17),.mov (.tmp 5),none,0⟩,
 ⟨(some 4),.mov (.tmp 17),none,0⟩])
 .ret)
 .skip))))
 (.region 0 [] [
 ⟨(some 18),.bin .add (.tmp 8) (.cst (.c (.int .i64 1))),none,0⟩,
 ⟨(some 8),.mov (.tmp 18),none,0⟩])))))))
 (.seq (.region 0 [] [
 ⟨(some 4),.mov (.cst (.c (.int .i64 (-1)))),none,0⟩])
 .ret)))⟩
/-- 96 slices.Min[[]int,int] | loop 0 vars [3,4] kill 12 makes false -/
def f96 : AFunc := ⟨25,[.tmp 2],false,
 (.seq (.region 0 [] [
 ⟨(some 2),.mov (.cst (.c (.int .i64 0))),none,0⟩])
 (.seq (.seq (.region 0 [] [
 ⟨(some 5),.mov (.tmp 0),none,0⟩,
 ⟨(some 6),.len (.tmp 5),none,0⟩,
 ⟨(some 7),.bin .lss (.tmp 6) (.cst (.c (.int .i64 1))),none,0⟩])
 (.cond (.tmp 7)
 (.region 0 [] [
 ⟨(some 8),.pick (.cst (.c .any)) (.cst (.c .any)) (.cst (.c .any)),none,0⟩,
 ⟨none,.pick (.cst (.c .any)) (.cst (.c .any)) (.cst (.c .any)),none,0⟩])
 .skip))
 (.seq (.region 0 [] [
 ⟨(some 9),.mov (.tmp 0),none,0⟩,
 ⟨(some 10),.iaddr 1 (.tmp 9) (.cst (.c (.int .i64 0))),none,0⟩,
 ⟨(some 11),.load none (.tmp 10),none,0⟩,
 ⟨(some 3),.mov (.tmp 11),none,0⟩])
 (.seq (.seq (.region 0 [] [
 ⟨(some 4),.mov (.cst (.c (.int .i64 1))),none,0⟩])
 (.block 0 (.loop ⟨[12,13,14,15,16,17,18,19,20,21,22,23],false,[]⟩
 (.seq (.seq (.region 0 [] [
 ⟨(some 12),.mov (.tmp 4),none,0⟩,
 ⟨(some 13),.mov (.tmp 0),none,0⟩,
 ⟨(some 14),.len (.tmp 13),none,0⟩,
 ⟨(some 15),.bin .lss (.tmp 12) (.tmp 14),none,0⟩])
 (.cond (.tmp 15)
 .skip
 (.exit 0)))
 (.seq (.block 1 (.region 0 [] [
 ⟨(some 18),.mov (.tmp 3),none,0⟩,
 ⟨(some 19),.mov (.tmp 0),none,0⟩,
 ⟨(some 20),.mov (.tmp 4),none,0⟩,
 ⟨(some 21),.iaddr 1 (.tmp 19) (.tmp 20),none,0⟩,
 ⟨(some 22),.load none (.tmp 21),none,0⟩,
 ⟨(some 23),.mm false (.tmp 18) (.tmp 22),none,0⟩,
 ⟨(some 3),.mov (.tmp 23),none,0⟩]))
 (.region 0 [] [
 ⟨(some 16),.mov (.tmp 4),none,0⟩,
 ⟨(some 17),.bin .add (.tmp 16) (.cst (.c (.int .i64 1))),none,0⟩,
 ⟨(some 4),.mov (.tmp 17),none,0⟩]))))))
 (.seq (.region 0 [] [
 ⟨(some 24),.mov (.tmp 3),none,0⟩,
 ⟨(some 2),.mov (.tmp 24),none,0⟩])
 .ret)))))⟩
/-- 97 (isatis/move.Site).first -/
def f97 : AFunc := ⟨5,[.tmp 2],true,
 (.seq (.region 1 [] [
 ⟨(some 1),.box (.tmp 0),none,0⟩,
 ⟨(some 2),.mov (.cst (.c (.int .i64 0))),none,1⟩])
 (.seq (.region 0 [] [
 ⟨(some 3),.faddr 0 (.tmp 1),none,0⟩,
 ⟨(some 4),.load none (.tmp 3),none,0⟩,
 ⟨(some 2),.mov (.tmp 4),none,0⟩])
 .ret))⟩
/-- 98 (isatis/move.Site).second -/
def f98 : AFunc := ⟨5,[.tmp 2],true,
 (.seq (.region 1 [] [
 ⟨(some 1),.box (.tmp 0),none,0⟩,
 ⟨(some 2),.mov (.cst (.c (.int .i64 0))),none,1⟩])
 (.seq (.region 0 [] [
 ⟨(some 3),.faddr 1 (.tmp 1),none,0⟩,
 ⟨(some 4),.load none (.tmp 3),none,0⟩,
 ⟨(some 2),.mov (.tmp 4),none,0⟩])
 .ret))⟩
/-- 99 (isatis/move.Site).none -/
def f99 : AFunc := ⟨3,[.tmp 2],true,
 (.seq (.region 1 [] [
 ⟨(some 1),.box (.tmp 0),none,0⟩,
 ⟨(some 2),.mov (.cst (.c (.int .i64 0))),none,1⟩])
 (.seq (.region 0 [] [
 ⟨(some 2),.mov (.cst (.c (.int .i64 0))),none,0⟩])
 .ret))⟩
def tabL : List (Option AFunc) := [none,none,some f2,some f3,some f4,some f5,some f6,some f7,some f8,some f9,some f10,some f11,some f12,some f13,some f14,none,some f16,some f17,some f18,some f19,some f20,some f21,some f22,some f23,some f24,some f25,some f26,some f27,some f28,some f29,some f30,some f31,some f32,some f33,some f34,some f35,some f36,some f37,some f38,some f39,some f40,some f41,some f42,some f43,some f44,some f45,some f46,some f47,some f48,some f49,some f50,some f51,some f52,some f53,some f54,some f55,some f56,some f57,some f58,some f59,some f60,some f61,some f62,some f63,some f64,some f65,some f66,some f67,some f68,some f69,some f70,some f71,some f72,some f73,some f74,some f75,some f76,some f77,some f78,some f79,some f80,some f81,some f82,some f83,some f84,some f85,some f86,some f87,some f88,some f89,some f90,some f91,some f92,some f93,some f94,some f95,some f96,some f97,some f98,some f99,none,none,none,none,none,none,none,none,none,none,none,none,none,none,none,none,none]
def tab (k : Nat) : Option AFunc := (nth tabL k).join
def annL : List (Nat × Nat × Ann) := [(6,0,⟨[4,90,91,92,93,94,95,96,97,98,99,100,101,102,103,104,105,106,107,108,109,110,111,112,113,114,115,116,117,118,119,120,121,122,123,124,125,126,127,128,129,130,131,132,133,134,135,136,137,138,139,140,141,142,143,144],false,[]⟩),(7,0,⟨[61,62,63,64,65,66,67,68,69,70,71,72,73,74,75,76,77,78,79,80,81],false,[]⟩),(7,2,⟨[15,16,91,92,93,94,95,96,97,98,99,100,101,102,103,104,105,106,107,108,109,110,111,112,113,114,115,116,117,118,119,120,121],false,[]⟩),(7,4,⟨[97,98,99,100,101,102,103,104,105,106,107,108,109,110,111,112],false,[]⟩),(9,0,⟨[4,15,16,17,68,69,70,71,72,73,74,75,76,77,78,79,80,81,82,83,84,85,86,87,88,89,90,91,92,93,94,95,96,97,98,99,100,101,102,103,104,105,106,107,108,109,110,111,112],true,[(11,none,1),(12,none,1)]⟩),(11,0,⟨[58,59,60,61,62,63,64,65,66,67,68,69,70,71,72,73,74,75],true,[(12,(some 6),1)]⟩),(11,2,⟨[8,228,229,230,231,232,233,234,235,236,237,238,239,240,241,242,243,244,245,246,247,248,249,250,251,252,253,254,255,256,257,258,259,260,261,262,263,264,265,266,267,268,269,270],false,[]⟩),(13,0,⟨[52,53,54,55,56,57,58,59,60,61,62,63,64,65,66,67],true,[(13,(some 6),1)]⟩),(16,0,⟨[2,14,15,16,17,18,19,20,21,22,23,24,25,26,27],false,[]⟩),(19,0,⟨[5,18,19,20,21,22,23,24,25,26,27,28,29,30,31,32,33,34,35,36,37,38,39,40,41],true,[(3,(some 5),3)]⟩),(19,2,⟨[42,43,44,45,46,47,48,49,50,51,52,53,54,55,56,57,58,59],true,[(3,(some 6),1)]⟩),(24,0,⟨[6,8,9,10,11,12,13,14,15,16,17,18,19,20,21,22,23,24,25,26,27,28,29,30,31,32,33,34,35,36,37],false,[]⟩),(25,0,⟨[6,7,11,12,15,16,17,18,19,20,21,22,23,24,25,26,27,28,29,30,31,32,33,34,35,36,37,38,39,40,41,42,43,44,45,46],true,[(8,none,3)]⟩),(26,0,⟨[4,11,12,13,14,15,16,17,18,19,20,21,22,23,24,25,26,27,28,29,30,31,32,33,34,35,36,37],false,[]⟩),(30,0,⟨[13,14,15,16,17,18,19,20,21,22,23,24,25,26,27,28,29,30,31,32,33,34,35,36,37,38,39,40,41,42,43,44,45,46,47,48,49,50,51,52,53,54,55,56,57],false,[]⟩),(31,0,⟨[4,11,12,13,14,15,16,17,18,19,20,21,22,23,24,25],false,[]⟩),(35,0,⟨[15,16,17,18,19,20,21,42,43,44,45,46,47,48,49,50,51,52,53,54,55,56,57,58,59,60,61,62,63,64,65,66,67,68,69,70,71,72,73,74,75,76,77,78,79,80,81,82,83,84,85,86,87,88,89,90,91,92,93,94,95,96,97,98,99,100],true,[]⟩),(36,0,⟨[4,6,7,8,9,10,11,12,13,14,15,16,17,18,19,20,21],false,[]⟩),(41,0,⟨[4,6,7,8,9,10,11,12,13,14,15,16,17,18,19,20,21,22,23,24,25,26,27,28,29,30,31,32,33,34,35],false,[]⟩),(42,0,⟨[4,6,7,8,9,10,11,12,13,14,15,16,17],false,[]⟩),(44,0,⟨[4,6,7,8,9,10,11,12,13,14,15,16,17,18,19,20,21,22,23,24,25,26,27,28,29,30,31,32,33,34,35,36,37,38],false,[]⟩),(46,0,⟨[4,5,6,11,12,13,16,17,18,19,20,21,22,23,24,25,26,27,28,29,30,31,32,33,34,35,36,37,38,39,40,41,42,43,44,45,46,47,48,49,50,51,52,53,54,55,56,57,58,59,60],false,[]⟩),(49,0,⟨[2,5,6,60,61,62,63,64,65,66,67,68,69,70,71,72,73,74,75,76,77,78,79,80,81,82,83,84,85,86,87,88,89,90,91,92,93,94,95,96,97,98,99,100,101,102,103,104,105,106,107,108,109,110,111,112,113,114,115,116,117,118,119,120,121,122,123],true,[]⟩),(49,2,⟨[2,109,110,111,112,113,114,115,116,117,118,119,120,121,122,123],false,[]⟩),(50,0,⟨[5,6,7,8,9,10,11,12,13,14,15],false,[]⟩),(53,0,⟨[8,9,10,11,12,13,19,20,21,22,23,24,25,26,27,28,29,30,31,32,33,34,35,36,37,38,39,40,41,42,43,44,45,46,47],true,[(6,none,3)]⟩),(58,0,⟨[2,3,4,9,10,11,12,13,14,15,16,17,18,19,20,21,22,23,24,25,26,27,28,29,30,31,32,33,34,35],true,[]⟩),(65,0,⟨[4,6,7,13,14,15,16,17,18,19,20,21],false,[]⟩),(66,0,⟨[13,14,15,16,17,18,19,20,21,22,23,24,25,26,27,28,29],false,[]⟩),(68,0,⟨[7,8,9,10,11,12,13,45,46,47,48,49,50,51,52,53,54,55,56,57,58,59,60,61,62,63,64,65,66,67,68,69,70,71,72,73,74,75,76,77,78,79,80,81,82,83,84,85,86,87,88,89,90,91,92,93,94,95,96,97,98,99,100,101,102,103,104,105,106,107,108,109,110,111,112,113,114,115,116,117,118,119,120,121,122,123,124,125,126,127,128,129,130],false,[]⟩),(70,0,⟨[5,6,7,8,9,10,11,12,13,14,15,16,17,18,19,20,21,22,23,24,25],true,[(3,none,1)]⟩),(80,0,⟨[12,13,14,15,16,17,18,19,20,21,22,23,24,25,26,27,28,29,30],false,[]⟩),(83,0,⟨[7,19,20,21,22,23,24,25,26,27,28,29,30,31,32],false,[]⟩),(88,0,⟨[5,6,7,8,9,10,11,12,13,14,15,16,17,18,19,20,21],true,[(3,none,1)]⟩),(90,0,⟨[7,9,10,11,12,13,14,15,16,17,18,19,20,21,22,23,24,25,26,27,28,29,30,31,32,33,34,35,36,37,38,39],false,[]⟩),(91,0,⟨[4,5,9,10,11,12,13,14,15,16,17,18],false,[]⟩),(92,0,⟨[4,5,9,10,11,12,13,14,15,16,17,18],false,[]⟩),(93,0,⟨[4,10,11,12,13,14,15,16],false,[]⟩),(94,0,⟨[9,17,18,19,20,21,22,23,24,25,26,27,28,29,30,31,32,33,34,35,36,37],false,[]⟩),(95,0,⟨[4,5,9,10,11,12,13,14,15,16,17,18],false,[]⟩),(96,0,⟨[12,13,14,15,16,17,18,19,20,21,22,23],false,[]⟩)]
def dropL : List Nat := [54,55,79,97,98,99]
def cloneL : List (Nat × Nat) := [(82,3)]
def pureL : List Nat := [0,1,2,3,4,5,6,7,8,9,10,11,12,13,14,15,16,17,18,19,20,21,22,23,24,25,26,27,28,29,30,31,32,33,34,35,36,37,38,39,40,41,42,43,44,45,46,47,48,49,50,51,52,53,54,55,56,58,59,60,61,64,65,66,69,70,71,73,74,75,76,77,80,87,88,89,90,91,96,97,98,99,101]
end Am.Mv
