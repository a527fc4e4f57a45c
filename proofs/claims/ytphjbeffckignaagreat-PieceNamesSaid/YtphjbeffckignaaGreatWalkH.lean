/-
  A part of the proof: the texts QH, QA, QB of this seat, joined.
-/
import Derived.Test.YtphjbeffckignaaGreatWalkG
import Derived.KernelRfl
namespace Am.Vt
open Go Am
set_option maxRecDepth 100000
set_option maxHeartbeats 4000000
set_option linter.unusedSimpArgs false
set_option linter.unusedVariables false
variable {g1 g2 g3 g4 g5 g gt gd:Bool × Bool} {j:Job} {v:Vat} {plan:List Stp} {t:Truth} {s:Sh} {S:List Sh}
theorem msame {g g':Bool × Bool} {a b:List Int} (ha:a.length<Big) {Q:V→Prop}:CallP tab 25 [.c (L g a),.c (L g' b)] Q↔Q (.c (.bool (decide (a=b)))):=CallP_of (by
  refine Val_X (fn:=f25) rfl ?_
  simp only [go_sem,f25]
  refine ⟨fun h e=>h (by rw [e]),fun h=>?_⟩
  refine RX_for a.length (fun k=>[(5,.c (.int .i64 k))]) (fun _=>[]) (fun k=>∀i,i<k→a.getD i default=b.getD i default) (fun i h=>by omega) (by simp only [go_sem]<;>rfl) ?_
  intro k hk hP
  by_cases h1:k<a.length
  · have h2:k<b.length:=by omega
    simp only [go_sem,h1,h2,wrap_succ h1 ha,atI_nat]
    refine ⟨fun e hab=>?_,fun e i hi=>?_⟩
    · subst hab;exact e rfl
    · by_cases hik:i=k
      · subst hik;exact e
      · exact hP i (by omega)
  · simp only [go_sem,h1]
    apply List.ext_getElem h
    intro i hi hi'
    have:=hP i (by omega)
    rwa [getD_lt _ _ _ hi,getD_lt _ _ _ hi'] at this)
end Am.Vt
namespace Am.Vt
open Go Am
set_option maxRecDepth 1000000
set_option maxHeartbeats 4000000
set_option linter.unusedSimpArgs false
set_option linter.unusedVariables false
def exV : Vat:=⟨3,4,⟨0,2⟩,⟨100,100⟩,10,5,[⟨1,2⟩,⟨1,1⟩,⟨2,3⟩,⟨0,0⟩],[⟨0,0,0⟩,⟨0,2,0⟩,⟨0,0,1⟩,⟨0,0,0⟩],[1,1,1,1],[]⟩
def exJ (l:List Rg):Job:=⟨exV,0,[⟨18,18⟩,⟨30,34⟩,⟨16,17⟩]++l,2,⟨20,21⟩⟩
def exS : Sh:=⟨[9,9,8,8,7,7,6,6,5,5,4,4,3,3,2,2,1,1,0,0],rfl⟩
theorem ex_check : checkJob (exJ [])=0:=by kernel_rfl
theorem ex_check' : checkJob (exJ [⟨91,99⟩])=0:=by kernel_rfl
theorem ex_work : workL (exJ [])=[exS]:=by kernel_rfl
theorem ex_work' : workL (exJ [⟨91,99⟩])=[exS]:=by kernel_rfl
def exTb : List (List Nat):=[[4,0,0,0,0,0,0,0,16,0,64,0,0,0,0,0,0,0,0,0,0],[16,16,16,32,32,64,192,896,7168,0,0,0,0,0,0,0,0,0,0,0,0],[0,4,4,0,0,0,8,8,0,16,32,896,0,0,0,0,0,0,0,0,0]]
def exG : Gn:=fun i b d=>(((exTb.getD i []).getD b 0)).testBit d
def exR (l:List Rg) (i b d:Nat):Bool:=decide (b+d≤20)&&rightS (exJ l) exS i b d
theorem ex_right {i b d:Nat}:rightW (exJ []) i b d=exR [] i b d:=by rw [rightW,ex_work,exR];simp
theorem ex_right' {i b d:Nat}:rightW (exJ [⟨91,99⟩]) i b d=exR [⟨91,99⟩] i b d:=by rw [rightW,ex_work',exR];simp
theorem ex_tab : (List.range 3).all (fun i=>(List.range 21).all fun b=>(List.range (21-b)).all fun d=>exR [] i b d==exG i b d)=true:=by kernel_rfl
theorem ex_gn {i b d:Nat} (hi:i<3) (h:b+d≤20):gnJ (exJ []) i b d=exG i b d:=by
  show rightW (exJ []) i b d=_
  rw [ex_right]
  have:=ex_tab
  simp only [List.all_eq_true,List.mem_range,beq_iff_eq] at this
  exact this i hi b (by omega) d (by omega)
theorem fromF_gcongr {g g':Gn} {n most:Nat} (hg:∀i b d,i<n→b+d≤most→g i b d=g' i b d):∀{f done b:Nat},fromF g n most f done b=fromF g' n most f done b
  | 0,_,_=>rfl
  | f+1,done,b=>by
    show (List.range n).foldl _ _=(List.range n).foldl _ _
    refine foldl_congrR fun best i hi=>?_
    unfold fromI
    split
    · rfl
    · congr 1
      unfold candI
      refine List.map_congr_left fun d hd=>?_
      rw [List.mem_range] at hd
      rw [fromF_gcongr hg,candR,candR,hg i b d (List.mem_range.1 hi) (by omega)]
theorem ex_fr {most done b:Nat} (hm:most≤20):frJ (exJ []) most done b=fromF exG 3 most (und 3 done) done b:=fromF_gcongr (n:=3) fun i b d hi h=>ex_gn hi (by omega)
theorem ex_f1 : fromF exG 3 20 3 0 0=⟨3,9,0,2⟩:=by kernel_rfl
theorem ex_f2 : fromF exG 3 20 2 1 2=⟨2,7,1,4⟩:=by kernel_rfl
theorem ex_f3 : fromF exG 3 20 1 3 6=⟨1,3,2,3⟩:=by kernel_rfl
theorem ex_f6 : fromF exG 3 6 3 0 0=⟨2,4,0,2⟩:=by kernel_rfl
theorem ex_fr20 : frJ (exJ []) 20 0 0=⟨3,9,0,2⟩:=(ex_fr (by decide)).trans ex_f1
def exP : List Stp:=[⟨0,2⟩,⟨1,4⟩,⟨2,3⟩]
theorem ex_path : planJ (exJ []) 20=exP:=by
  have h1:fromS (gnJ (exJ [])) (exJ []).pieces.length 20 0 0=⟨3,9,0,2⟩:=ex_fr20
  have h2:fromS (gnJ (exJ [])) (exJ []).pieces.length 20 1 2=⟨2,7,1,4⟩:=(ex_fr (by decide)).trans ex_f2
  have h3:fromS (gnJ (exJ [])) (exJ []).pieces.length 20 3 6=⟨1,3,2,3⟩:=(ex_fr (by decide)).trans ex_f3
  have h4:fromS (gnJ (exJ [])) (exJ []).pieces.length 20 7 9=res0:=rfl
  show pathS _ _ _ _ _=_
  rw [pathS_eq,h1]
  show _::pathS _ _ _ 1 2=_
  rw [pathS_eq,h2]
  show _::_::pathS _ _ _ 3 6=_
  rw [pathS_eq,h3]
  show _::_::_::pathS _ _ _ 7 9=_
  rw [pathS_eq,h4]
  rfl
def exPl : List Stp:=[⟨0,2⟩,⟨2,2⟩,⟨1,5⟩]
def exTr : Truth:=⟨1,100,[2,1,3,0]⟩
theorem x1 : PlayRP (exJ []) exPl exTr = .tup [.c (L (false,false) ([18,31,16]:List Int)),.c (.int .i64 0)]:=by kernel_rfl
theorem x2 : DipsR (exJ []) 0 8 = .tup [.c (.int .i64 4),.c (.int .i64 0)]:=by
  have h:dipsO (exJ []) (Int.toNat 0) (Int.toNat 8)=some 4:=by
    rw [dipsO];simp only [ex_right];rfl
  rw [DipsR,if_neg (by rw [askJ,ex_check];decide)]
  rw [h];rfl
theorem x3 : DipsR (exJ []) 0 2 = .tup [.c (.int .i64 0),.c (.int .i64 10)]:=by
  have h:dipsO (exJ []) (Int.toNat 0) (Int.toNat 2)=none:=by
    rw [dipsO];simp only [ex_right];rfl
  rw [DipsR,if_neg (by rw [askJ,ex_check];decide)]
  rw [h]
theorem ask_true : askJ (exJ []) true=0:=by rw [askJ,ex_check];decide
theorem ask_true' : askJ (exJ [⟨91,99⟩]) true=0:=by rw [askJ,ex_check'];decide
theorem x4 : BestR (exJ []) = .tup [.c (L (false,false) exP),.c (.int .i64 9),.c (.int .i64 0)]:=by
  rw [BestR,if_neg (by rw [ask_true];simp),ex_path,ex_fr20,if_neg (by decide)]
theorem x5 : MostR (exJ []) 6 = .tup [.c (L (false,false) (planJ (exJ []) 6)),.c (.int .i64 2),.c (.int .i64 0)]:=by
  have h:frJ (exJ []) 6 0 0=⟨2,4,0,2⟩:=(ex_fr (by decide)).trans ex_f6
  have e:mostOk 6=true:=rfl
  rw [MostR,e,if_neg (by rw [ask_true];simp)]
  show V.tup [_,.c (.int .i64 (frJ (exJ []) 6 0 0).many),_]=_
  rw [h];rfl
theorem x6 : JudgeR (exJ []) exPl [0,2] (fun s=>b2n (matchP (exJ []) exPl 0 2 s)) (fun _=>1) = .tup [.c (.int .i64 1),.c (.int .i64 0)]:=by
  have e:judgeOk (exJ []) exPl [0,2]=true:=by kernel_rfl
  rw [JudgeR,e,if_neg (by rw [ask_true];simp),ex_work]
  rfl
theorem x7 : JudgeR (exJ []) exPl [0] (oldN (exJ []) exPl 0) (fun _=>3) = .tup [.c (.int .i64 3),.c (.int .i64 0)]:=by
  have e:judgeOk (exJ []) exPl [0]=true:=by kernel_rfl
  rw [JudgeR,e,if_neg (by rw [ask_true];simp),ex_work]
  rfl
theorem ex_hope : (((List.range 4).filter fun i=>(List.range 21).all fun b=>(List.range (21-b)).all fun d=>!exR [⟨91,99⟩] i b d).map Int.ofNat)=[3]:=by kernel_rfl
theorem ex_count : ((List.range 3).countP fun i=>exR [] i (ofB exP i 0).1 (ofB exP i 0).2)=3:=by kernel_rfl
theorem x8 : HopeR (exJ [⟨91,99⟩]) = .tup [.c (L (false,false) ([3]:List Int)),.c (.int .i64 0)]:=by
  have h:hopeL (exJ [⟨91,99⟩])=[3]:=by
    unfold hopeL hopeK
    have:hopeB (exJ [⟨91,99⟩])=fun i=>(List.range 21).all fun b=>(List.range (21-b)).all fun d=>!exR [⟨91,99⟩] i b d:=by
      funext i
      unfold hopeB noB
      simp only [ex_right']
    rw [this]
    exact ex_hope
  rw [HopeR,if_neg (by rw [ask_true'];simp),h]
theorem x9 : (decide (checkJob (exJ [])=0)&&(totalB (exJ []) exP&&(decide (totalD (exJ []) exP≤9)&&decide ((((exJ []).pieces.length:Nat):Int)≤countR (exJ []) exP))))=true:=by
  have h1:totalB (exJ []) exP=true:=by kernel_rfl
  have h2:totalD (exJ []) exP=9:=by kernel_rfl
  have h3:countR (exJ []) exP=3:=by
    unfold countR
    have:rightB7 (exJ []) exP=fun i=>exR [] i (ofB exP i 0).1 (ofB exP i 0).2:=by
      funext i
      exact ex_right
    rw [this]
    exact ex_count
  rw [ex_check,h1,h2,h3]
  rfl
end Am.Vt
namespace Am.Vt
open Go Am
set_option maxRecDepth 100000
set_option maxHeartbeats 4000000
set_option linter.unusedSimpArgs false
set_option linter.unusedVariables false
def jobX (l:List Rg):V:=jobV (false,false) (false,false) (false,false) (true,false) (false,false) (exJ l)
theorem toArg_jobX {h:List Obj} {l:List Rg}:toArg h (jobX l)=some (jobX l):=by
  simp only [jobX,go_sem]
theorem objs_jobX {l:List Rg}:objsV (jobX l)=[]:=by
  simp only [jobX,go_sem]
theorem mnumber {lo hi:Int} {Q:V→Prop}:CallP tab 52 [.c (.int .i64 lo),.c (.int .i64 hi)] Q↔Q (.agg [.int .i64 lo,.int .i64 hi]):=CallP_of (by
  refine Val_X (fn:=f52) rfl ?_
  simp only [go_sem,f52])
theorem mbetween {lo hi:Int} {Q:V→Prop}:CallP tab 48 [.c (.int .i64 lo),.c (.int .i64 hi)] Q↔Q (.agg [.int .i64 lo,.int .i64 hi]):=CallP_of (by
  refine Val_X (fn:=f48) rfl ?_
  simp only [go_sem,f48])
abbrev vatVX : V:=.agg [.int .i64 3,.int .i64 4,.int .i64 0,.int .i64 2,.int .i64 100,.int .i64 100,.int .i64 10,.int .i64 5,L (false,false) exV.drift,L (false,false) exV.feeds,L (false,false) exV.dips,.nils]
theorem mone {Q:V→Prop}:CallP tab 91 [] Q↔Q vatVX:=CallP_of (by
  refine Val_X (fn:=f91) rfl ?_
  simp only [go_sem,f91,mnumber,disj_nil]
  exact ⟨rfl,rfl,rfl⟩)
theorem mthree0 {Q:V→Prop}:CallP tab 46 [.c .nils] Q↔Q (jobX []):=CallP_of (by
  refine Val_X (fn:=f46) rfl ?_
  simp only [go_sem,f46,mone,mbetween,disj_nil]
  rfl)
theorem mthree1 {t:Bool} {a b:Int} {Q:V→Prop}:CallP tab 46 [.c (.lst t [[.int .i64 a,.int .i64 b]])] Q↔Q (jobX [⟨a,b⟩]):=CallP_of (by
  refine Val_X (fn:=f46) rfl ?_
  have hs:∀H,sliceRows H (.lst t [[.int .i64 a,.int .i64 b]])=some [[.int .i64 a,.int .i64 b]]:=fun H=>by cases t<;>rfl
  have hh:headLen 2 [[D.int .i64 a,.int .i64 b]]=true:=rfl
  have hb:(3+1)*16≤2^40:=by decide
  have hu:C.under 2 (.lst t [[.int .i64 a,.int .i64 b]])=true:=rfl
  simp only [go_sem,f46,mone,mbetween,disj_nil,hs,hh,hb,List.length_cons,List.length_nil]
  rfl)
def planX : V:=.c (L (false,false) exPl)
theorem toArg_planX {h:List Obj}:toArg h planX=some planX:=by
  simp only [planX,go_sem]
theorem objs_planX : objsV planX=[]:=by
  simp only [planX,go_sem]
theorem mplan {Q:V→Prop}:CallP tab 47 [] Q↔Q planX:=CallP_of (by
  refine Val_X (fn:=f47) rfl ?_
  simp only [go_sem,f47]
  rfl)
theorem exJ_fits {l:List Rg} (hl:l.length≤10):(exJ l).Fits:=⟨⟨by show 4≤1000;decide,by show 4≤1000;decide,by show 4≤1000;decide,by show 0≤1000;decide⟩,by
  show ([⟨18,18⟩,⟨30,34⟩,⟨16,17⟩]++l:List Rg).length≤1000
  rw [List.length_append];simp;omega⟩
theorem lst1a {t:Bool} {a:Int}:C.lst t [[.int .i64 a]]=L (false,t) [a]:=rfl
theorem lst3a {t:Bool} {a b c:Int}:C.lst t [[.int .i64 a],[.int .i64 b],[.int .i64 c]]=L (false,t) [a,b,c]:=rfl
theorem awake7 : Val tab 16 [] (.c (.bool true)):=by
  have f0:=exJ_fits (l:=[]) (by simp)
  have f1:=exJ_fits (l:=[⟨91,99⟩]) (by simp)
  have hb:exPl.length<Big:=big_of (by decide)
  have hb2:exP.length<Big:=big_of (by decide)
  have h1:=fun gt Q=>pPlay (j:=exJ []) (plan:=exPl) (t:=exTr) (g:=(false,false)) (gt:=gt) (g1:=(false,false)) (g2:=(false,false)) (g3:=(false,false)) (g4:=(true,false)) (g5:=(false,false)) f0 hb (Q:=Q)
  have h2:=fun Q=>pDips (j:=exJ []) (i:=0) (b:=8) (g1:=(false,false)) (g2:=(false,false)) (g3:=(false,false)) (g4:=(true,false)) (g5:=(false,false)) f0 (Q:=Q)
  have h3:=fun Q=>pDips (j:=exJ []) (i:=0) (b:=2) (g1:=(false,false)) (g2:=(false,false)) (g3:=(false,false)) (g4:=(true,false)) (g5:=(false,false)) f0 (Q:=Q)
  have h4:=fun Q=>pBest (j:=exJ []) (g1:=(false,false)) (g2:=(false,false)) (g3:=(false,false)) (g4:=(true,false)) (g5:=(false,false)) f0 (Q:=Q)
  have h5:=fun Q=>pMost (j:=exJ []) (d:=6) (g1:=(false,false)) (g2:=(false,false)) (g3:=(false,false)) (g4:=(true,false)) (g5:=(false,false)) f0 (Q:=Q)
  have h6:=fun Q=>pMatch (j:=exJ []) (plan:=exPl) (a:=0) (b:=2) (g:=(false,false)) (g1:=(false,false)) (g2:=(false,false)) (g3:=(false,false)) (g4:=(true,false)) (g5:=(false,false)) f0 hb (Q:=Q)
  have h7:=fun Q=>pOld (j:=exJ []) (plan:=exPl) (i:=0) (g:=(false,false)) (g1:=(false,false)) (g2:=(false,false)) (g3:=(false,false)) (g4:=(true,false)) (g5:=(false,false)) f0 hb (Q:=Q)
  have h8:=fun Q=>pHopeless (j:=exJ [⟨91,99⟩]) (g1:=(false,false)) (g2:=(false,false)) (g3:=(false,false)) (g4:=(true,false)) (g5:=(false,false)) f1 (Q:=Q)
  have h9:=fun Q=>pProvePlan (j:=exJ []) (plan:=exP) (d:=9) (g:=(false,false)) (g1:=(false,false)) (g2:=(false,false)) (g3:=(false,false)) (g4:=(true,false)) (g5:=(false,false)) f0 hb2 (Q:=Q)
  rw [x1] at h1
  rw [x2] at h2
  rw [x3] at h3
  rw [x4] at h4
  rw [x5] at h5
  rw [x6] at h6
  rw [x7] at h7
  rw [x8] at h8
  rw [x9] at h9
  change ∀gt Q,CallP tab 17 [jobX [],planX,truthG gt exTr] Q↔_ at h1
  change ∀Q,CallP tab 28 [jobX [],_,_] Q↔_ at h2
  change ∀Q,CallP tab 28 [jobX [],_,_] Q↔_ at h3
  change ∀Q,CallP tab 51 [jobX []] Q↔_ at h4
  change ∀Q,CallP tab 49 [jobX [],_] Q↔_ at h5
  change ∀Q,CallP tab 39 [jobX [],planX,_,_] Q↔_ at h6
  change ∀Q,CallP tab 40 [jobX [],planX,_] Q↔_ at h7
  change ∀Q,CallP tab 50 [jobX [⟨91,99⟩]] Q↔_ at h8
  change ∀Q,CallP tab 34 [jobX [],_,_] Q↔_ at h9
  have t1:∀t,V.agg [.int .i64 1,.int .i64 100,.lst t [[.int .i64 2],[.int .i64 1],[.int .i64 3],[.int .i64 0]]]=truthG (false,t) exTr:=fun t=>rfl
  have q1:=fun g g' b Q=>msame (g:=g) (g':=g') (a:=[18,31,16]) (b:=b) (show 3<Big by decide) (Q:=Q)
  have q2:=fun g g' b Q=>msame (g:=g) (g':=g') (a:=[3]) (b:=b) (show 1<Big by decide) (Q:=Q)
  generalize planJ (exJ []) 6=p6 at *
  refine Val_X (fn:=f16) rfl ?_
  simp only [go_sem,f16,mthree0,mthree1,mplan,toArg_jobX,objs_jobX,toArg_planX,objs_planX,lst1a,lst3a,t1,mbetween,h1,h2,h3,h4,h5,h6,h7,h8,h9,q1,q2,decide_true,disj_nil]
theorem lawake7 {Q:V→Prop}:CallP tab 16 [] Q↔Q (.c (.bool true)):=CallP_of awake7
end Am.Vt
