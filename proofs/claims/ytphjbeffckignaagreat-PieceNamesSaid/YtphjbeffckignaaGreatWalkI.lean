/-
  A part of the proof: the texts PX, QP, PY, L1, L6, L4, L7, N1, N2, N3 of this seat, joined.
-/
import Derived.Test.YtphjbeffckignaaGreatWalkH
import Derived.KernelRfl
namespace Am.Vt
open Go Am
set_option maxRecDepth 100000
set_option maxHeartbeats 4000000
set_option linter.unusedSimpArgs false
set_option linter.unusedVariables false
variable {j:Job} {v:Vat} {plan:List Stp} {t:Truth} {s:Sh} {S:List Sh}
end Am.Vt
namespace Am.Vt
open Go Am
set_option maxRecDepth 100000
set_option maxHeartbeats 4000000
set_option linter.unusedSimpArgs false
set_option linter.unusedVariables false
variable {g1 g2 g3 g4 g5 g gt gd:Bool × Bool} {j:Job} {v:Vat} {plan:List Stp} {t:Truth} {s:Sh} {S:List Sh}
structure Wb where
  n:Nat
  h:n<256
instance : Inhabited Wb:=⟨⟨0,by decide⟩⟩
instance : Row Wb:=⟨1,fun s=>[.int .u8 s.n],fun _=>rfl⟩
instance : Scal Wb:=⟨fun _=>rfl⟩
@[go_sem] theorem sz_wb : Row.sz Wb=1:=rfl
@[go_sem] theorem row_wb {s:Wb}:Row.row s=[.int .u8 s.n]:=rfl
structure PlanOk (n:Nat) (l:List Stp) (left:Int):Prop where
  rng:∀s∈l,0≤s.piece∧s.piece<n∧0≤s.dips∧s.dips≤20
  dis:l.Pairwise fun a b=>a.piece≠b.piece
  sum:sumD l+left=20
  left:0≤left
end Am.Vt
namespace Am.Vt
open Go Am
set_option maxRecDepth 100000
set_option maxHeartbeats 4000000
set_option linter.unusedSimpArgs false
set_option linter.unusedVariables false
variable {j:Job} {v:Vat} {plan:List Stp} {t:Truth} {s:Sh} {S:List Sh}
end Am.Vt
namespace Am.Vt
open Go Am
set_option maxRecDepth 100000
set_option maxHeartbeats 4000000
set_option linter.unusedSimpArgs false
set_option linter.unusedVariables false
variable {g1 g2 g3 g4 g5 g gt gd:Bool × Bool} {j:Job} {v:Vat} {plan:List Stp} {t:Truth} {s:Sh} {S:List Sh}
end Am.Vt
namespace Am.Vt
open Go Am
set_option maxRecDepth 100000
set_option maxHeartbeats 4000000
set_option linter.unusedSimpArgs false
set_option linter.unusedVariables false
variable {g1 g2 g3 g4 g5 g gt gd:Bool × Bool} {j:Job} {v:Vat} {plan:List Stp} {t:Truth} {s:Sh} {S:List Sh}
end Am.Vt
namespace Am.Vt
open Go Am
set_option maxRecDepth 100000
set_option maxHeartbeats 4000000
set_option linter.unusedSimpArgs false
set_option linter.unusedVariables false
variable {g1 g2 g3 g4 g5 g gt gd:Bool × Bool} {j:Job} {v:Vat} {plan:List Stp} {t:Truth} {s:Sh} {S:List Sh}
end Am.Vt
namespace Am.Vt
open Go Am
set_option maxRecDepth 100000
set_option maxHeartbeats 4000000
set_option linter.unusedSimpArgs false
set_option linter.unusedVariables false
variable {g1 g2 g3 g4 g5 g gt gd:Bool × Bool} {j:Job} {v:Vat} {plan:List Stp} {t:Truth} {s:Sh} {S:List Sh}
theorem mem_hope {i:Nat}:(i:Int)∈hopeL j↔i<j.pieces.length∧∀b d,rightW j i b d=false:=by
  have e:hopeL j=((List.range j.pieces.length).filter (hopeB j)).map Int.ofNat:=rfl
  rw [e]
  simp only [List.mem_map,List.mem_filter,List.mem_range]
  have key:hopeB j i=true↔∀b d,rightW j i b d=false:=by
    simp only [hopeB,noB,List.all_eq_true,List.mem_range,Bool.not_eq_true']
    constructor
    · intro h b d
      by_cases hbd:b+d≤20
      · exact h b (by omega) d (by omega)
      · rw [rightW,decide_eq_false hbd,Bool.false_and]
    · intro h b _ d _;exact h b d
  constructor
  · rintro ⟨a,⟨h1,h2⟩,h3⟩
    have:a=i:=Int.ofNat.inj h3
    subst this
    exact ⟨h1,key.1 h2⟩
  · rintro ⟨h1,h2⟩
    exact ⟨i,⟨h1,key.2 h2⟩,rfl⟩
theorem hope_nat : ∀x∈hopeL j,∃i:Nat,x=i:=by
  intro x hx
  have e:hopeL j=((List.range j.pieces.length).filter (hopeB j)).map Int.ofNat:=rfl
  rw [e,List.mem_map] at hx
  obtain ⟨a,_,rfl⟩:=hx
  exact ⟨a,rfl⟩
def bestE (j:Job):Int:=if (frJ j 20 0 0).many<j.pieces.length then 10 else 0
theorem best_val (h0:checkJob j=0):∃c n,BestR j = .tup [.c c,.c (.int .i64 n),.c (.int .i64 (bestE j))]:=by
  have ha:askJ j true=0:=by rw [askJ,if_neg (by rw [h0];simp),if_neg (by decide)]
  rw [BestR,if_neg (by rw [ha];simp)]
  unfold bestE
  by_cases hm:(frJ j 20 0 0).many<j.pieces.length
  · rw [if_pos hm,if_pos hm];exact ⟨_,_,rfl⟩
  · rw [if_neg hm,if_neg hm];exact ⟨_,_,rfl⟩
theorem hope_best (h:(hopeL j).length>0):bestE j=10:=by
  obtain ⟨x,hx⟩:=List.exists_mem_of_ne_nil _ (List.length_pos_iff.1 h)
  obtain ⟨i,rfl⟩:=hope_nat x hx
  obtain ⟨h1,h2⟩:=mem_hope.1 hx
  have hl:=fromF_less (g:=gnJ j) (n:=j.pieces.length) (most:=20) (h:=i) h2 (f:=und j.pieces.length 0) (done:=0) (b:=0) (Nat.le_refl _)
  have hu:=und_or (n:=j.pieces.length) (done:=0) h1 (by simp)
  rw [und_0] at hu
  have:(frJ j 20 0 0).many≤(und j.pieces.length (0 ||| 2^i):Nat):=hl
  rw [bestE,if_pos (by omega)]
end Am.Vt
namespace Am.Vt
open Go Am
set_option maxRecDepth 1000000
set_option maxHeartbeats 4000000
set_option linter.unusedSimpArgs false
set_option linter.unusedVariables false
theorem ex_dips {i b:Int} {d:Nat} (h0:dipsOk (exJ []) i b=true) (h:(List.range (21-b.toNat)).find? (fun d=>exR [] i.toNat b.toNat d)=some d):DipsR (exJ []) i b = .tup [.c (.int .i64 (d:Int)),.c (.int .i64 0)]:=by
  have e:dipsO (exJ []) i.toNat b.toNat=some d:=by
    rw [dipsO];simp only [ex_right];exact h
  rw [DipsR,if_neg (by rw [h0,ask_true];simp),e]
theorem ex_dips0 {i b:Int} (h0:dipsOk (exJ []) i b=true) (h:(List.range (21-b.toNat)).find? (fun d=>exR [] i.toNat b.toNat d)=none):DipsR (exJ []) i b = .tup [.c (.int .i64 0),.c (.int .i64 10)]:=by
  have e:dipsO (exJ []) i.toNat b.toNat=none:=by
    rw [dipsO];simp only [ex_right];exact h
  rw [DipsR,if_neg (by rw [h0,ask_true];simp),e]
theorem n1 : DipsR (exJ []) 0 0 = .tup [.c (.int .i64 2),.c (.int .i64 0)]:=ex_dips (d:=2) (by kernel_rfl) (by kernel_rfl)
theorem n2 : DipsR (exJ []) 1 0 = .tup [.c (.int .i64 4),.c (.int .i64 0)]:=ex_dips (d:=4) (by kernel_rfl) (by kernel_rfl)
theorem n3 : DipsR (exJ []) 1 2 = .tup [.c (.int .i64 4),.c (.int .i64 0)]:=ex_dips (d:=4) (by kernel_rfl) (by kernel_rfl)
theorem n4 : DipsR (exJ []) 2 2 = .tup [.c (.int .i64 2),.c (.int .i64 0)]:=ex_dips (d:=2) (by kernel_rfl) (by kernel_rfl)
theorem n5 : DipsR (exJ []) 2 6 = .tup [.c (.int .i64 3),.c (.int .i64 0)]:=ex_dips (d:=3) (by kernel_rfl) (by kernel_rfl)
theorem n6 : DipsR (exJ []) 2 0 = .tup [.c (.int .i64 0),.c (.int .i64 10)]:=ex_dips0 (by kernel_rfl) (by kernel_rfl)
theorem ask_false : askJ (exJ []) false=2:=by rw [askJ,ex_check];decide
theorem ex_dipsN {i b:Int} (h0:dipsOk (exJ []) i b=false):DipsR (exJ []) i b = .tup [.c (.int .i64 0),.c (.int .i64 2)]:=by
  rw [DipsR,h0,ask_false,if_pos (by decide)]
theorem n7 : DipsR (exJ []) 3 0 = .tup [.c (.int .i64 0),.c (.int .i64 2)]:=ex_dipsN (by kernel_rfl)
theorem n8 : DipsR (exJ []) 0 21 = .tup [.c (.int .i64 0),.c (.int .i64 2)]:=ex_dipsN (by kernel_rfl)
theorem ex_judge {p:List Stp} {l:List Int} {ys ms:Sh→Nat} {n:Int} (e:judgeOk (exJ []) p l=true) (h:vd (sumN ys [exS]) (sumN ms [exS])=n):JudgeR (exJ []) p l ys ms = .tup [.c (.int .i64 n),.c (.int .i64 0)]:=by
  rw [JudgeR,e,if_neg (by rw [ask_true];simp),ex_work,h]
theorem ex_judgeN {p:List Stp} {l:List Int} {ys ms:Sh→Nat} (e:judgeOk (exJ []) p l=false):JudgeR (exJ []) p l ys ms = .tup [.c (.int .i64 0),.c (.int .i64 2)]:=by
  rw [JudgeR,e,ask_false,if_pos (by decide)]
theorem r0 : JudgeR (exJ []) exPl [0] (fun s=>b2n (rightP (exJ []) exPl 0 s)) (fun _=>1) = .tup [.c (.int .i64 1),.c (.int .i64 0)]:=ex_judge (by kernel_rfl) (by kernel_rfl)
theorem r1 : JudgeR (exJ []) exPl [1] (fun s=>b2n (rightP (exJ []) exPl 1 s)) (fun _=>1) = .tup [.c (.int .i64 1),.c (.int .i64 0)]:=ex_judge (by kernel_rfl) (by kernel_rfl)
theorem r2 : JudgeR (exJ []) exPl [2] (fun s=>b2n (rightP (exJ []) exPl 2 s)) (fun _=>1) = .tup [.c (.int .i64 1),.c (.int .i64 0)]:=ex_judge (by kernel_rfl) (by kernel_rfl)
theorem o1 : JudgeR (exJ []) exPl [1] (oldN (exJ []) exPl 1) (fun _=>3) = .tup [.c (.int .i64 2),.c (.int .i64 0)]:=ex_judge (by kernel_rfl) (by kernel_rfl)
theorem o2 : JudgeR (exJ []) exPl [2] (oldN (exJ []) exPl 2) (fun _=>3) = .tup [.c (.int .i64 2),.c (.int .i64 0)]:=ex_judge (by kernel_rfl) (by kernel_rfl)
theorem m1 : JudgeR (exJ []) exPl [0,1] (fun s=>b2n (matchP (exJ []) exPl 0 1 s)) (fun _=>1) = .tup [.c (.int .i64 2),.c (.int .i64 0)]:=ex_judge (by kernel_rfl) (by kernel_rfl)
theorem m2 {ys ms:Sh→Nat}:JudgeR (exJ []) exPl [0,3] ys ms = .tup [.c (.int .i64 0),.c (.int .i64 2)]:=ex_judgeN (by kernel_rfl)
theorem r9 {ys ms:Sh→Nat}:JudgeR (exJ []) [⟨0,21⟩] [0] ys ms = .tup [.c (.int .i64 0),.c (.int .i64 2)]:=ex_judgeN (by kernel_rfl)
def lateJ : Job:=⟨exV,2,[⟨8,9⟩,⟨30,34⟩,⟨16,17⟩],2,⟨20,21⟩⟩
theorem late_check : checkJob lateJ=0:=by kernel_rfl
theorem late_judge : JudgeR lateJ [⟨0,1⟩] [0] (fun s=>b2n (rightP lateJ [⟨0,1⟩] 0 s)) (fun _=>1) = .tup [.c (.int .i64 3),.c (.int .i64 0)]:=by
  have e:judgeOk lateJ [⟨0,1⟩] [0]=true:=by kernel_rfl
  have a:askJ lateJ true=0:=by rw [askJ,late_check];decide
  have v:vd (sumN (fun s=>b2n (rightP lateJ [⟨0,1⟩] 0 s)) (workL lateJ)) (sumN (fun _=>1) (workL lateJ))=3:=by kernel_rfl
  rw [JudgeR,e,if_neg (by rw [a];simp),v]
theorem ex_f1' : fromF exG 3 1 3 0 0=res0:=by kernel_rfl
theorem k1 : MostR (exJ []) 1 = .tup [.c (L (false,false) (planJ (exJ []) 1)),.c (.int .i64 0),.c (.int .i64 0)]:=by
  have h:frJ (exJ []) 1 0 0=res0:=(ex_fr (by decide)).trans ex_f1'
  have e:mostOk 1=true:=rfl
  rw [MostR,e,if_neg (by rw [ask_true];simp)]
  show V.tup [_,.c (.int .i64 (frJ (exJ []) 1 0 0).many),_]=_
  rw [h];rfl
theorem k2 : MostR (exJ []) (-1) = .tup [.c .nils,.c (.int .i64 0),.c (.int .i64 2)]:=by
  have e:mostOk (-1)=false:=rfl
  rw [MostR,e,ask_false,if_pos (by decide)]
theorem ex_hope0 : (((List.range 3).filter fun i=>(List.range 21).all fun b=>(List.range (21-b)).all fun d=>!exR [] i b d).map Int.ofNat)=[]:=by kernel_rfl
theorem h0 : HopeR (exJ []) = .tup [.c (L (false,false) ([]:List Int)),.c (.int .i64 0)]:=by
  have h:hopeL (exJ [])=[]:=by
    unfold hopeL hopeK
    have:hopeB (exJ [])=fun i=>(List.range 21).all fun b=>(List.range (21-b)).all fun d=>!exR [] i b d:=by
      funext i
      unfold hopeB noB
      simp only [ex_right]
    rw [this]
    exact ex_hope0
  rw [HopeR,if_neg (by rw [ask_true];simp),h]
theorem ex_prove {p:List Stp} {d m:Int} {b:Bool} {t:Int} {c:Nat} (h1:totalB (exJ []) p=true) (h2:totalD (exJ []) p=t) (h3:((List.range 3).countP fun i=>exR [] i (ofB p i 0).1 (ofB p i 0).2)=c) (h:(decide (t≤d)&&decide (m≤(c:Int)))=b):(decide (checkJob (exJ [])=0)&&(totalB (exJ []) p&&(decide (totalD (exJ []) p≤d)&&decide (m≤countR (exJ []) p))))=b:=by
  have e:countR (exJ []) p=c:=by
    unfold countR
    have:rightB7 (exJ []) p=fun i=>exR [] i (ofB p i 0).1 (ofB p i 0).2:=by
      funext i
      exact ex_right
    rw [this]
    exact h3
  rw [ex_check,h1,h2,e,←h]
  rfl
def exQ : List Stp:=[⟨0,2⟩,⟨2,2⟩]
theorem p1 : (decide (checkJob (exJ [])=0)&&(totalB (exJ []) exPl&&(decide (totalD (exJ []) exPl≤8)&&decide ((((exJ []).pieces.length:Nat):Int)≤countR (exJ []) exPl))))=false:=ex_prove (t:=9) (c:=3) (by kernel_rfl) (by kernel_rfl) (by kernel_rfl) (by decide)
theorem p2 : (decide (checkJob (exJ [])=0)&&(totalB (exJ []) exPl&&(decide (totalD (exJ []) exPl≤9)&&decide (3≤(countR (exJ []) exPl:Int)))))=true:=ex_prove (t:=9) (c:=3) (by kernel_rfl) (by kernel_rfl) (by kernel_rfl) (by decide)
theorem p3 : (decide (checkJob (exJ [])=0)&&(totalB (exJ []) exQ&&(decide (totalD (exJ []) exQ≤9)&&decide (3≤(countR (exJ []) exQ:Int)))))=false:=ex_prove (t:=4) (c:=2) (by kernel_rfl) (by kernel_rfl) (by kernel_rfl) (by decide)
theorem p4 : (decide (checkJob (exJ [])=0)&&(totalB (exJ []) exQ&&(decide (totalD (exJ []) exQ≤4)&&decide (2≤(countR (exJ []) exQ:Int)))))=true:=ex_prove (t:=4) (c:=2) (by kernel_rfl) (by kernel_rfl) (by kernel_rfl) (by decide)
def exPt : List Stp:=[⟨0,2⟩,⟨2,2⟩,⟨1,5⟩,⟨1,0⟩]
theorem p5 : (decide (checkJob (exJ [])=0)&&(totalB (exJ []) exPt&&(decide (totalD (exJ []) exPt≤20)&&decide ((((exJ []).pieces.length:Nat):Int)≤countR (exJ []) exPt))))=false:=by
  have h:totalB (exJ []) exPt=false:=by kernel_rfl
  rw [h];simp
theorem y1 : PlayRP (exJ []) exPl ⟨3,100,[2,1,3,0]⟩ = .tup [.c .nils,.c (.int .i64 2)]:=by kernel_rfl
theorem ex_hopeL : hopeL (exJ [⟨91,99⟩])=[3]:=by
  unfold hopeL hopeK
  have:hopeB (exJ [⟨91,99⟩])=fun i=>(List.range 21).all fun b=>(List.range (21-b)).all fun d=>!exR [⟨91,99⟩] i b d:=by
    funext i
    unfold hopeB noB
    simp only [ex_right']
  rw [this]
  exact ex_hope
theorem ck1 : checkJob { exJ [] with day:=4 }=1:=by kernel_rfl
theorem ck2 : checkJob { exJ [] with eye:=-1 }=1:=by kernel_rfl
theorem ck3 : checkJob { exJ [] with old:=⟨0,10000⟩ }=1:=by kernel_rfl
theorem ck4 : checkJob (exJ [⟨0,0⟩,⟨0,0⟩])=3:=by kernel_rfl
theorem ck5 : checkJob (exJ [⟨5,4⟩])=1:=by kernel_rfl
theorem ck6 : checkJob { exJ [] with vat:={ exV with looks:=[⟨0,true,⟨9,9⟩⟩] } }=11:=by kernel_rfl
theorem ck7 : checkJob ⟨⟨0,0,⟨0,0⟩,⟨0,0⟩,0,0,[],[],[],[]⟩,0,[],0,⟨0,0⟩⟩=1:=by kernel_rfl
end Am.Vt
namespace Am.Vt
open Go Am
set_option maxRecDepth 1000000
set_option maxHeartbeats 4000000
set_option linter.unusedSimpArgs false
set_option linter.unusedVariables false
theorem FThree {H:List Obj} {Q:V→List Obj→Prop}:Fn tab (.f 46 [.c .nils] H) Q↔Q (.agg [C.int .i64 3,.int .i64 4,.int .i64 0,.int .i64 2,.int .i64 100,.int .i64 100,.int .i64 10,.int .i64 5,L (false,false) exV.drift,L (false,false) exV.feeds,L (false,false) exV.dips,.nils,.int .i64 0,.sl (H.length+1) 1 0 3,.int .i64 2,.int .i64 20,.int .i64 21]) (H++[.cells [C.int .i64 3,.int .i64 4,.int .i64 0,.int .i64 2,.int .i64 100,.int .i64 100,.int .i64 10,.int .i64 5,L (false,false) exV.drift,L (false,false) exV.feeds,L (false,false) exV.dips,.nils,.int .i64 0,.sl (H.length+1) 1 0 3,.int .i64 2,.int .i64 20,.int .i64 21],.arr false 1 2 [[.int .i64 18,.int .i64 18],[.int .i64 30,.int .i64 34],[.int .i64 16,.int .i64 17]],.none]):=Fn_iff (by
  refine Fn_X (fn:=f46) rfl rfl ?_
  simp only [go_sem,f46,mone,mbetween,disj_nil])
theorem FPlan {H:List Obj} {Q:V→List Obj→Prop}:Fn tab (.f 47 [] H) Q↔Q (.c (.sl H.length 0 0 3)) (H++[.arr false 0 2 [[.int .i64 0,.int .i64 2],[.int .i64 2,.int .i64 2],[.int .i64 1,.int .i64 5]]]):=Fn_iff (by
  refine Fn_X (fn:=f47) rfl rfl ?_
  simp only [go_sem,f47])
theorem mthree2 {t:Bool} {a b c d:Int} {Q:V→Prop}:CallP tab 46 [.c (.lst t [[.int .i64 a,.int .i64 b],[.int .i64 c,.int .i64 d]])] Q↔Q (jobX [⟨a,b⟩,⟨c,d⟩]):=CallP_of (by
  refine Val_X (fn:=f46) rfl ?_
  have hs:∀H,sliceRows H (.lst t [[.int .i64 a,.int .i64 b],[.int .i64 c,.int .i64 d]])=some [[.int .i64 a,.int .i64 b],[.int .i64 c,.int .i64 d]]:=fun H=>by cases t<;>rfl
  have hh:headLen 2 [[D.int .i64 a,.int .i64 b],[D.int .i64 c,.int .i64 d]]=true:=rfl
  have hb:(3+2)*16≤2^40:=by decide
  have hu:C.under 2 (.lst t [[.int .i64 a,.int .i64 b],[.int .i64 c,.int .i64 d]])=true:=rfl
  simp only [go_sem,f46,mone,mbetween,disj_nil,hs,hh,hb,List.length_cons,List.length_nil]
  rfl)
end Am.Vt
namespace Am.Vt
open Go Am
set_option maxRecDepth 1000000
set_option maxHeartbeats 4000000
set_option linter.unusedSimpArgs false
set_option linter.unusedVariables false
abbrev jobL (day:Int) (looks pcs:C) (eye lo hi:Int):V:=.agg [C.int .i64 3,.int .i64 4,.int .i64 0,.int .i64 2,.int .i64 100,.int .i64 100,.int .i64 10,.int .i64 5,L (false,false) exV.drift,L (false,false) exV.feeds,L (false,false) exV.dips,looks,.int .i64 day,pcs,.int .i64 eye,.int .i64 lo,.int .i64 hi]
abbrev pc3 (t:Bool):C:=.lst t [[.int .i64 18,.int .i64 18],[.int .i64 30,.int .i64 34],[.int .i64 16,.int .i64 17]]
abbrev pl3 (t:Bool):V:=.c (.lst t [[.int .i64 0,.int .i64 2],[.int .i64 2,.int .i64 2],[.int .i64 1,.int .i64 5]])
abbrev pl2 (t:Bool):V:=.c (.lst t [[.int .i64 0,.int .i64 2],[.int .i64 2,.int .i64 2]])
abbrev pl4 (t:Bool):V:=.c (.lst t [[.int .i64 0,.int .i64 2],[.int .i64 2,.int .i64 2],[.int .i64 1,.int .i64 5],[.int .i64 1,.int .i64 0]])
abbrev job0 : V:=jobL 0 .nils (pc3 false) 2 20 21
theorem three0L {Q:V→Prop}:CallP tab 46 [.c .nils] Q↔Q job0:=mthree0
theorem three1L {t:Bool} {a b:Int} {Q:V→Prop}:CallP tab 46 [.c (.lst t [[.int .i64 a,.int .i64 b]])] Q↔Q (jobL 0 .nils (.lst false [[.int .i64 18,.int .i64 18],[.int .i64 30,.int .i64 34],[.int .i64 16,.int .i64 17],[.int .i64 a,.int .i64 b]]) 2 20 21):=mthree1
theorem three2L {t:Bool} {a b c d:Int} {Q:V→Prop}:CallP tab 46 [.c (.lst t [[.int .i64 a,.int .i64 b],[.int .i64 c,.int .i64 d]])] Q↔Q (jobL 0 .nils (.lst false [[.int .i64 18,.int .i64 18],[.int .i64 30,.int .i64 34],[.int .i64 16,.int .i64 17],[.int .i64 a,.int .i64 b],[.int .i64 c,.int .i64 d]]) 2 20 21):=mthree2
theorem planL {Q:V→Prop}:CallP tab 47 [] Q↔Q (pl3 false):=mplan
theorem fitsL (v:Vat) (d e:Int) (o:Rg) (l:List Rg) (h1:v.drift.length≤10) (h2:v.feeds.length≤10) (h3:v.dips.length≤10) (h4:v.looks.length≤10) (h5:l.length≤10):(Job.mk v d l e o).Fits:=⟨⟨Nat.le_trans h1 (by decide),Nat.le_trans h2 (by decide),Nat.le_trans h3 (by decide),Nat.le_trans h4 (by decide)⟩,Nat.le_trans h5 (by decide)⟩
theorem late_call {t u:Bool} {Q:V→Prop}:CallP tab 41 [jobL 2 .nils (.lst t [[.int .i64 8,.int .i64 9],[.int .i64 30,.int .i64 34],[.int .i64 16,.int .i64 17]]) 2 20 21,.c (.lst u [[.int .i64 0,.int .i64 1]]),.c (.int .i64 0)] Q↔Q (.tup [.c (.int .i64 3),.c (.int .i64 0)]):=by
  have h:=pRight (j:=lateJ) (plan:=[⟨0,1⟩]) (i:=0) (g:=(false,u)) (g1:=(false,false)) (g2:=(false,false)) (g3:=(false,false)) (g4:=(true,false)) (g5:=(false,t)) (fitsL _ _ _ _ _ (by decide) (by decide) (by decide) (by decide) (by decide)) (big_of (by decide)) (Q:=Q)
  rw [late_judge] at h
  exact h
theorem right_call {u:Bool} {Q:V→Prop}:CallP tab 41 [job0,.c (.lst u [[.int .i64 0,.int .i64 21]]),.c (.int .i64 0)] Q↔Q (.tup [.c (.int .i64 0),.c (.int .i64 2)]):=by
  have h:=pRight (j:=exJ []) (plan:=[⟨0,21⟩]) (i:=0) (g:=(false,u)) (g1:=(false,false)) (g2:=(false,false)) (g3:=(false,false)) (g4:=(true,false)) (g5:=(false,false)) (exJ_fits (by simp)) (big_of (by decide)) (Q:=Q)
  rw [r9] at h
  exact h
theorem match_call1 {u:Bool} {Q:V→Prop}:CallP tab 39 [job0,pl3 u,.c (.int .i64 0),.c (.int .i64 1)] Q↔Q (.tup [.c (.int .i64 2),.c (.int .i64 0)]):=by
  have h:=pMatch (j:=exJ []) (plan:=exPl) (a:=0) (b:=1) (g:=(false,u)) (g1:=(false,false)) (g2:=(false,false)) (g3:=(false,false)) (g4:=(true,false)) (g5:=(false,false)) (exJ_fits (by simp)) (big_of (by decide)) (Q:=Q)
  rw [m1] at h
  exact h
theorem match_call2 {u:Bool} {Q:V→Prop}:CallP tab 39 [job0,pl3 u,.c (.int .i64 0),.c (.int .i64 3)] Q↔Q (.tup [.c (.int .i64 0),.c (.int .i64 2)]):=by
  have h:=pMatch (j:=exJ []) (plan:=exPl) (a:=0) (b:=3) (g:=(false,u)) (g1:=(false,false)) (g2:=(false,false)) (g3:=(false,false)) (g4:=(true,false)) (g5:=(false,false)) (exJ_fits (by simp)) (big_of (by decide)) (Q:=Q)
  rw [m2] at h
  exact h
theorem most_call1 {Q:V→Prop}:CallP tab 49 [job0,.c (.int .i64 1)] Q↔Q (.tup [.c (L (false,false) (planJ (exJ []) 1)),.c (.int .i64 0),.c (.int .i64 0)]):=by
  have h:=pMost (j:=exJ []) (d:=1) (g1:=(false,false)) (g2:=(false,false)) (g3:=(false,false)) (g4:=(true,false)) (g5:=(false,false)) (exJ_fits (by simp)) (Q:=Q)
  rw [k1] at h
  exact h
theorem most_call2 {Q:V→Prop}:CallP tab 49 [job0,.c (.int .i64 (-1))] Q↔Q (.tup [.c .nils,.c (.int .i64 0),.c (.int .i64 2)]):=by
  have h:=pMost (j:=exJ []) (d:=-1) (g1:=(false,false)) (g2:=(false,false)) (g3:=(false,false)) (g4:=(true,false)) (g5:=(false,false)) (exJ_fits (by simp)) (Q:=Q)
  rw [k2] at h
  exact h
theorem hope_call {Q:V→Prop}:CallP tab 50 [job0] Q↔Q (.tup [.c (L (false,false) ([]:List Int)),.c (.int .i64 0)]):=by
  have h:=pHopeless (j:=exJ []) (g1:=(false,false)) (g2:=(false,false)) (g3:=(false,false)) (g4:=(true,false)) (g5:=(false,false)) (exJ_fits (by simp)) (Q:=Q)
  rw [h0] at h
  exact h
theorem dips_call {i b:Int} {Q:V→Prop}:CallP tab 28 [job0,.c (.int .i64 i),.c (.int .i64 b)] Q↔Q (DipsR (exJ []) i b):=
  pDips (j:=exJ []) (i:=i) (b:=b) (g1:=(false,false)) (g2:=(false,false)) (g3:=(false,false)) (g4:=(true,false)) (g5:=(false,false)) (exJ_fits (by simp)) (Q:=Q)
theorem prove_call1 {u:Bool} {Q:V→Prop}:CallP tab 34 [job0,pl3 u,.c (.int .i64 8)] Q↔Q (.c (.bool false)):=by
  have h:=pProvePlan (j:=exJ []) (plan:=exPl) (d:=8) (g:=(false,u)) (g1:=(false,false)) (g2:=(false,false)) (g3:=(false,false)) (g4:=(true,false)) (g5:=(false,false)) (exJ_fits (by simp)) (big_of (by decide)) (Q:=Q)
  rw [p1] at h
  exact h
theorem prove_call5 {u:Bool} {Q:V→Prop}:CallP tab 34 [job0,pl4 u,.c (.int .i64 20)] Q↔Q (.c (.bool false)):=by
  have h:=pProvePlan (j:=exJ []) (plan:=exPt) (d:=20) (g:=(false,u)) (g1:=(false,false)) (g2:=(false,false)) (g3:=(false,false)) (g4:=(true,false)) (g5:=(false,false)) (exJ_fits (by simp)) (big_of (by decide)) (Q:=Q)
  rw [p5] at h
  exact h
theorem prove_call2 {u:Bool} {Q:V→Prop}:CallP tab 35 [job0,pl3 u,.c (.int .i64 9),.c (.int .i64 3)] Q↔Q (.c (.bool true)):=by
  have h:=pProveMost (j:=exJ []) (plan:=exPl) (d:=9) (m:=3) (g:=(false,u)) (g1:=(false,false)) (g2:=(false,false)) (g3:=(false,false)) (g4:=(true,false)) (g5:=(false,false)) (exJ_fits (by simp)) (big_of (by decide)) (Q:=Q)
  rw [p2] at h
  exact h
theorem prove_call3 {u:Bool} {Q:V→Prop}:CallP tab 35 [job0,pl2 u,.c (.int .i64 9),.c (.int .i64 3)] Q↔Q (.c (.bool false)):=by
  have h:=pProveMost (j:=exJ []) (plan:=exQ) (d:=9) (m:=3) (g:=(false,u)) (g1:=(false,false)) (g2:=(false,false)) (g3:=(false,false)) (g4:=(true,false)) (g5:=(false,false)) (exJ_fits (by simp)) (big_of (by decide)) (Q:=Q)
  rw [p3] at h
  exact h
theorem prove_call4 {u:Bool} {Q:V→Prop}:CallP tab 35 [job0,pl2 u,.c (.int .i64 4),.c (.int .i64 2)] Q↔Q (.c (.bool true)):=by
  have h:=pProveMost (j:=exJ []) (plan:=exQ) (d:=4) (m:=2) (g:=(false,u)) (g1:=(false,false)) (g2:=(false,false)) (g3:=(false,false)) (g4:=(true,false)) (g5:=(false,false)) (exJ_fits (by simp)) (big_of (by decide)) (Q:=Q)
  rw [p4] at h
  exact h
theorem play_call {t u:Bool} {Q:V→Prop}:CallP tab 17 [job0,pl3 u,.agg [.int .i64 3,.int .i64 100,.lst t [[.int .i64 2],[.int .i64 1],[.int .i64 3],[.int .i64 0]]]] Q↔Q (.tup [.c .nils,.c (.int .i64 2)]):=by
  have h:=pPlay (j:=exJ []) (plan:=exPl) (t:=⟨3,100,[2,1,3,0]⟩) (g:=(false,u)) (gt:=(false,t)) (g1:=(false,false)) (g2:=(false,false)) (g3:=(false,false)) (g4:=(true,false)) (g5:=(false,false)) (exJ_fits (by simp)) (big_of (by decide)) (Q:=Q)
  rw [y1] at h
  exact h
theorem best_call : ∃c n,∀{Q:V→Prop},CallP tab 51 [jobL 0 .nils (.lst false [[.int .i64 18,.int .i64 18],[.int .i64 30,.int .i64 34],[.int .i64 16,.int .i64 17],[.int .i64 91,.int .i64 99]]) 2 20 21] Q↔Q (.tup [.c c,.c (.int .i64 n),.c (.int .i64 10)]):=by
  obtain ⟨c,n,e⟩:=best_val (j:=exJ [⟨91,99⟩]) ex_check'
  have hb:bestE (exJ [⟨91,99⟩])=10:=hope_best (by rw [ex_hopeL];decide)
  rw [hb] at e
  refine ⟨c,n,fun {Q}=>?_⟩
  have h:=pBest (j:=exJ [⟨91,99⟩]) (g1:=(false,false)) (g2:=(false,false)) (g3:=(false,false)) (g4:=(true,false)) (g5:=(false,false)) (exJ_fits (by simp)) (Q:=Q)
  rw [e] at h
  exact h
theorem chk1 {t:Bool} {Q:V→Prop}:CallP tab 22 [jobL 4 .nils (pc3 t) 2 20 21] Q↔Q (.c (.int .i64 1)):=by
  have h:=pCheckJob (j:=⟨exV,4,[⟨18,18⟩,⟨30,34⟩,⟨16,17⟩],2,⟨20,21⟩⟩) (g1:=(false,false)) (g2:=(false,false)) (g3:=(false,false)) (g4:=(true,false)) (g5:=(false,t)) (fitsL _ _ _ _ _ (by decide) (by decide) (by decide) (by decide) (by decide)) (Q:=Q)
  rw [show checkJob ⟨exV,4,[⟨18,18⟩,⟨30,34⟩,⟨16,17⟩],2,⟨20,21⟩⟩=1 from ck1] at h
  exact h
theorem chk2 {t:Bool} {Q:V→Prop}:CallP tab 22 [jobL 0 .nils (pc3 t) (-1) 20 21] Q↔Q (.c (.int .i64 1)):=by
  have h:=pCheckJob (j:=⟨exV,0,[⟨18,18⟩,⟨30,34⟩,⟨16,17⟩],-1,⟨20,21⟩⟩) (g1:=(false,false)) (g2:=(false,false)) (g3:=(false,false)) (g4:=(true,false)) (g5:=(false,t)) (fitsL _ _ _ _ _ (by decide) (by decide) (by decide) (by decide) (by decide)) (Q:=Q)
  rw [show checkJob ⟨exV,0,[⟨18,18⟩,⟨30,34⟩,⟨16,17⟩],-1,⟨20,21⟩⟩=1 from ck2] at h
  exact h
theorem chk3 {t:Bool} {Q:V→Prop}:CallP tab 22 [jobL 0 .nils (pc3 t) 2 0 10000] Q↔Q (.c (.int .i64 1)):=by
  have h:=pCheckJob (j:=⟨exV,0,[⟨18,18⟩,⟨30,34⟩,⟨16,17⟩],2,⟨0,10000⟩⟩) (g1:=(false,false)) (g2:=(false,false)) (g3:=(false,false)) (g4:=(true,false)) (g5:=(false,t)) (fitsL _ _ _ _ _ (by decide) (by decide) (by decide) (by decide) (by decide)) (Q:=Q)
  rw [show checkJob ⟨exV,0,[⟨18,18⟩,⟨30,34⟩,⟨16,17⟩],2,⟨0,10000⟩⟩=1 from ck3] at h
  exact h
theorem chk4 {t:Bool} {Q:V→Prop}:CallP tab 22 [jobL 0 .nils (.lst t [[.int .i64 18,.int .i64 18],[.int .i64 30,.int .i64 34],[.int .i64 16,.int .i64 17],[.int .i64 0,.int .i64 0],[.int .i64 0,.int .i64 0]]) 2 20 21] Q↔Q (.c (.int .i64 3)):=by
  have h:=pCheckJob (j:=exJ [⟨0,0⟩,⟨0,0⟩]) (g1:=(false,false)) (g2:=(false,false)) (g3:=(false,false)) (g4:=(true,false)) (g5:=(false,t)) (exJ_fits (by simp)) (Q:=Q)
  rw [ck4] at h
  exact h
theorem chk5 {t:Bool} {Q:V→Prop}:CallP tab 22 [jobL 0 .nils (.lst t [[.int .i64 18,.int .i64 18],[.int .i64 30,.int .i64 34],[.int .i64 16,.int .i64 17],[.int .i64 5,.int .i64 4]]) 2 20 21] Q↔Q (.c (.int .i64 1)):=by
  have h:=pCheckJob (j:=exJ [⟨5,4⟩]) (g1:=(false,false)) (g2:=(false,false)) (g3:=(false,false)) (g4:=(true,false)) (g5:=(false,t)) (exJ_fits (by simp)) (Q:=Q)
  rw [ck5] at h
  exact h
theorem chk6 {t u:Bool} {Q:V→Prop}:CallP tab 22 [jobL 0 (.lst u [[.int .i64 0,.bool true,.int .i64 9,.int .i64 9]]) (pc3 t) 2 20 21] Q↔Q (.c (.int .i64 11)):=by
  have h:=pCheckJob (j:=⟨{ exV with looks:=[⟨0,true,⟨9,9⟩⟩] },0,[⟨18,18⟩,⟨30,34⟩,⟨16,17⟩],2,⟨20,21⟩⟩) (g1:=(false,false)) (g2:=(false,false)) (g3:=(false,false)) (g4:=(false,u)) (g5:=(false,t)) (fitsL _ _ _ _ _ (by decide) (by decide) (by decide) (by decide) (by decide)) (Q:=Q)
  rw [show checkJob ⟨{ exV with looks:=[⟨0,true,⟨9,9⟩⟩] },0,[⟨18,18⟩,⟨30,34⟩,⟨16,17⟩],2,⟨20,21⟩⟩=11 from ck6] at h
  exact h
theorem chk7 {Q:V→Prop}:CallP tab 22 [.agg [.int .i64 0,.int .i64 0,.int .i64 0,.int .i64 0,.int .i64 0,.int .i64 0,.int .i64 0,.int .i64 0,.nils,.nils,.nils,.nils,.int .i64 0,.nils,.int .i64 0,.int .i64 0,.int .i64 0]] Q↔Q (.c (.int .i64 1)):=by
  have h:=pCheckJob (j:=⟨⟨0,0,⟨0,0⟩,⟨0,0⟩,0,0,[],[],[],[]⟩,0,[],0,⟨0,0⟩⟩) (g1:=(true,false)) (g2:=(true,false)) (g3:=(true,false)) (g4:=(true,false)) (g5:=(true,false)) (fitsL _ _ _ _ _ (by decide) (by decide) (by decide) (by decide) (by decide)) (Q:=Q)
  rw [ck7] at h
  exact h
theorem PieceNames_val : Val tab 9 [] (.c (.bool true)):=by
  have f0:=exJ_fits (l:=[]) (by simp)
  have f1:=exJ_fits (l:=[⟨91,99⟩]) (by simp)
  have hb:exPl.length<Big:=big_of (by decide)
  have hbQ:exQ.length<Big:=big_of (by decide)
  have hD:=fun {i b:Int} {Q:V→Prop}=>pDips (j:=exJ []) (i:=i) (b:=b) (g1:=(false,false)) (g2:=(false,false)) (g3:=(false,false)) (g4:=(true,false)) (g5:=(false,false)) f0 (Q:=Q)
  have hR:=fun {i:Int} {Q:V→Prop}=>pRight (j:=exJ []) (plan:=exPl) (i:=i) (g:=(false,false)) (g1:=(false,false)) (g2:=(false,false)) (g3:=(false,false)) (g4:=(true,false)) (g5:=(false,false)) f0 hb (Q:=Q)
  have hO:=fun {i:Int} {Q:V→Prop}=>pOld (j:=exJ []) (plan:=exPl) (i:=i) (g:=(false,false)) (g1:=(false,false)) (g2:=(false,false)) (g3:=(false,false)) (g4:=(true,false)) (g5:=(false,false)) f0 hb (Q:=Q)
  change ∀{i b:Int} {Q:V→Prop},CallP tab 28 [jobX [],_,_] Q↔_ at hD
  change ∀{i:Int} {Q:V→Prop},CallP tab 41 [jobX [],planX,_] Q↔_ at hR
  change ∀{i:Int} {Q:V→Prop},CallP tab 40 [jobX [],planX,_] Q↔_ at hO
  refine Val_X (fn:=f9) rfl ?_
  simp only [go_sem,f9]
  refine RX_forC 5 (fun k=>[(4,.c (.int .i64 k))]) (fun _=>True) rfl trivial (by simp only [go_sem]<;>first | rfl | exact ⟨rfl,rfl⟩ | exact ⟨rfl,rfl,rfl⟩) ?_
  intro k hk _
  by_cases hlt:k<5
  · have:k=0∨k=1∨k=2∨k=3∨k=4:=by omega
    rcases this with rfl | rfl | rfl | rfl | rfl<;>simp (maxSteps:=1000000) only [go_sem,mthree0,toArg_jobX,objs_jobX,hD,n1,n2,n3,n4,n5,disj_nil]
    all_goals exact 1
  · have:k=5:=by omega
    subst this
    simp (maxSteps:=1000000) only [go_sem]
    refine RX_forC 3 (fun k=>[(7,.c (.int .i64 k))]) (fun _=>True) rfl trivial (by simp only [go_sem]<;>first | rfl | exact ⟨rfl,rfl⟩ | exact ⟨rfl,rfl,rfl⟩) ?_
    intro k hk2 _
    by_cases hlt2:k<3
    · have:k=0∨k=1∨k=2:=by omega
      rcases this with rfl | rfl | rfl<;>simp (maxSteps:=1000000) only [go_sem,mthree0,mplan,toArg_jobX,objs_jobX,toArg_planX,objs_planX,hR,hO,r0,r1,r2,x7,o1,o2,disj_nil]
      all_goals exact 1
    · have:k=3:=by omega
      subst this
      obtain ⟨bc,bn,hBest⟩:=best_call
      have h23:2≤3:=by decide
      have hap:(3+1)*16≤2^40:=by decide
      simp (maxSteps:=1000000) only [go_sem,FThree,FPlan,mbetween,mnumber,three0L,three1L,three2L,planL,late_call,right_call,match_call1,match_call2,most_call1,most_call2,hope_call,dips_call,n6,n7,n8,prove_call1,prove_call2,prove_call3,prove_call4,prove_call5,play_call,hBest,chk1,chk2,chk3,chk4,chk5,chk6,chk7,lawake7,disj_nil,hap,h23]
end Am.Vt
