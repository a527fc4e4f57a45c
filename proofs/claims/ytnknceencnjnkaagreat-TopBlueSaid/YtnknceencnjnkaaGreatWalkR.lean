/-
  A part of the proof: the texts R1, R2, R3, R4, T2 of this seat, joined.
-/
import Derived.Test.YtnknceencnjnkaaGreatWalkL
import Derived.Test.YtnknceencnjnkaaGreatWalkE
namespace Am.Vt
open Go Am
set_option maxRecDepth 100000
set_option maxHeartbeats 4000000
set_option linter.unusedSimpArgs false
set_option linter.unusedVariables false
variable {g1 g2 g3:Bool × Bool} {c:Cellar}
theorem qIn {n low high:Int} {Q:V→Prop}:CallP tab 26 [.c (.int .i64 n),.c (.int .i64 low),.c (.int .i64 high)] Q↔Q (.c (.bool (inR n low high))):=CallP_of (by
  refine Val_X (fn:=f26) rfl ?_
  simp only [go_sem,f26,ge_iff_le]
  constructor<;>intro h<;>simp [h,inR])
theorem qWithin {lo hi low high:Int} {Q:V→Prop}:CallP tab 23 [.agg [.int .i64 lo,.int .i64 hi],.c (.int .i64 low),.c (.int .i64 high)] Q↔Q (.c (.bool (rgOf lo hi low high))):=CallP_of (by
  refine Val_X (fn:=f23) rfl ?_
  simp only [go_sem,f23,ge_iff_le]
  refine ⟨fun h=>⟨fun h'=>?_,fun h'=>?_⟩,fun h=>?_⟩<;>simp [rgOf, *])
theorem qSize {lo hi:Int} {Q:V→Prop}:CallP tab 56 [.agg [.int .i64 lo,.int .i64 hi]] Q↔Q (.c (.int .i64 (sizeI lo hi))):=CallP_of (by
  refine Val_X (fn:=f56) rfl ?_
  simp only [go_sem,f56,sizeI])
theorem qSum {g:Bool × Bool} {l:List Int} (hl:l.length<Big) {Q:V→Prop}:CallP tab 25 [.c (L g l)] Q↔Q (.c (.int .i64 (sumW l))):=CallP_of (by
  refine Val_X (fn:=f25) rfl ?_
  simp only [go_sem,f25]
  refine RX_for l.length (fun k=>[(3,.c (.int .i64 (sumW (l.take k)))),(4,.c (.int .i64 k))]) (fun _=>[]) (fun _=>True) trivial (by simp only [go_sem]<;>rfl) ?_
  intro k hk _
  by_cases hlt:k<l.length
  · simp only [go_sem,hlt,atI_nat,wrap_succ hlt hl]
    simp only [sumW,take_getD hlt default,List.foldl_append,List.foldl_cons,List.foldl_nil]
  · have:k=l.length:=by omega
    subst this
    simp only [go_sem,hlt,List.take_length])
theorem qIsStock {g:Bool × Bool} {l:List Int} (hl:l.length<Big) {Q:V→Prop}:CallP tab 24 [cellV g1 g2 g3 c,.c (L g l)] Q↔Q (.c (.bool (wtsOk c.heaps.length l))):=CallP_of (by
  refine Val_X (fn:=f24) rfl ?_
  simp only [go_sem,f24]
  refine RX_forC l.length (fun k=>[(5,.c (.int .i64 k))]) (fun k=>∀i,i<k→inR (l.getD i default) 0 30=true) rfl (fun i h=>by omega) (by simp only [go_sem]<;>rfl) ?_
  intro k hk hP
  by_cases hlt:k<l.length
  · cases hi:inR (l.getD k default) 0 30 with
    | false=>
      have:wtsOk c.heaps.length l=false:=by
        simp only [wtsOk,Bool.and_eq_false_iff,List.all_eq_false]
        exact .inr ⟨_,getD_mem hlt,by rw [hi];simp⟩
      simp only [go_sem,hlt,atI_nat,qIn,hi,this]
    | true=>
      simp only [go_sem,hlt,atI_nat,qIn,hi,wrap_succ hlt hl]
      intro i hi'
      by_cases hik:i=k
      · subst hik;exact hi
      · exact hP i (by omega)
  · have:k=l.length:=by omega
    subst this
    have ha:(l.all fun n=>inR n 0 30)=true:=by
      rw [List.all_eq_true];intro x hx
      obtain ⟨i,hi,rfl⟩:=List.getElem_of_mem hx
      have:=hP i hi
      rwa [getD_lt _ _ _ hi] at this
    simp only [go_sem,hlt,wtsOk,ha,Bool.and_true])
theorem sumW_ok {n:Nat} {l:List Int} (h3:n≤3) (h:wtsOk n l=true):0≤sumW l∧sumW l≤90:=by
  simp only [wtsOk,Bool.and_eq_true,decide_eq_true_eq,List.all_eq_true,inR_iff] at h
  obtain ⟨hn,hx⟩:=h
  subst hn
  match l,h3,hx with
  | [],_,_=>decide
  | [a],_,hx=>
    have:=hx a (by simp)
    simp only [sumW,List.foldl_cons,List.foldl_nil]
    rw [wrap_id _ (by omega) (by omega)];omega
  | [a,b],_,hx=>
    have:=hx a (by simp);have:=hx b (by simp)
    simp only [sumW,List.foldl_cons,List.foldl_nil]
    rw [wrap_id (0+a) (by omega) (by omega),wrap_id _ (by omega) (by omega)];omega
  | [a,b,d],_,hx=>
    have:=hx a (by simp);have:=hx b (by simp);have:=hx d (by simp)
    simp only [sumW,List.foldl_cons,List.foldl_nil]
    rw [wrap_id (0+a) (by omega) (by omega),wrap_id (0+a+b) (by omega) (by omega),wrap_id _ (by omega) (by omega)];omega
def manyQ (rs:List Rg):Nat:=rs.foldl (fun n r=>min 3000 (n*szN r)) 1
theorem qMany (hr:∀r∈c.heaps,0≤r.lo∧r.lo≤r.hi∧r.hi≤100) (hl:c.heaps.length≤1000) {Q:V→Prop}:CallP tab 22 [cellV g1 g2 g3 c] Q↔Q (.c (.int .i64 (manyQ c.heaps))):=CallP_of (by
  refine Val_X (fn:=f22) rfl ?_
  simp only [go_sem,f22]
  refine RX_forC c.heaps.length (fun k=>[(3,.c (.int .i64 (manyQ (c.heaps.take k)))),(4,.c (.int .i64 k))]) (fun k=>manyQ (c.heaps.take k)≤3000) rfl (by simp [manyQ]) (by simp only [go_sem]<;>rfl) ?_
  intro k hk hP
  by_cases hlt:k<c.heaps.length
  · have e4:IntKind.i64.wrap ((k:Int)+1)=((k+1:Nat):Int):=wrap_succ (n:=3000) (by omega) (by decide)
    have hb:=hr _ (getD_mem (d:=default) hlt)
    obtain ⟨d1,d2⟩:=sizeN (r:=c.heaps.getD k default) (by omega)
    have m1:manyQ (c.heaps.take (k+1))=min 3000 (manyQ (c.heaps.take k)*szN (c.heaps.getD k default)):=by
      simp only [manyQ,take_getD hlt default,List.foldl_cons,List.foldl_append,List.foldl_nil]
    have q2:manyQ (c.heaps.take k)*szN (c.heaps.getD k default)≤3000*10001:=Nat.mul_le_mul hP d2
    have e5:min 3000 (IntKind.i64.wrap (((manyQ (c.heaps.take k):Nat):Int)*((szN (c.heaps.getD k default):Nat):Int)))=((manyQ (c.heaps.take (k+1)):Nat):Int):=by
      rw [m1,←Int.natCast_mul,wrapB (by omega) (by omega)]
      omega
    simp only [go_sem,hlt,atI_nat,qSize,d1,e4,ite_min,e5]
    rw [m1];omega
  · have:k=c.heaps.length:=by omega
    subst this
    simp only [go_sem,hlt,List.take_length])
theorem manyQ_prod : ∀{rs:List Rg} {m:Nat},(∀r∈rs,r.lo≤r.hi)→1≤m→m≤3000→rs.foldl (fun n r=>min 3000 (n*szN r)) m=min 3000 (m*prodN rs)
  | [],m,_,h1,h2=>by simp [prodN];omega
  | r::rs,m,hr,h1,h2=>by
    have hs:1≤szN r:=by have:=hr r (by simp);unfold szN;omega
    have hp:1≤prodN rs:=prodN_pos fun x hx=>hr x (by simp [hx])
    have e:prodN (r::rs)=szN r*prodN rs:=rfl
    have h3:1≤m*szN r:=Nat.mul_le_mul h1 hs
    rw [List.foldl_cons,manyQ_prod (fun x hx=>hr x (by simp [hx])) (by omega) (by omega),e,←Nat.mul_assoc]
    by_cases h:m*szN r≤3000
    · rw [Nat.min_eq_right h]
    · have:3000*1≤min 3000 (m*szN r)*prodN rs:=Nat.mul_le_mul (by omega) hp
      have:3000*1≤m*szN r*prodN rs:=Nat.mul_le_mul (by omega) hp
      omega
end Am.Vt
namespace Am.Vt
open Go Am
set_option maxRecDepth 100000
set_option maxHeartbeats 4000000
set_option linter.unusedSimpArgs false
set_option linter.unusedVariables false
variable {g1 g2 g3:Bool × Bool} {c:Cellar}
theorem many_gt (h:∀r∈c.heaps,0≤r.lo∧r.lo≤r.hi∧r.hi≤100):(((manyQ c.heaps:Nat):Int)>2000↔manyL c.heaps>2000):=by
  have h1:=many_min (rs:=c.heaps) (m:=1) (fun r hr=>by have:=h r hr;omega) (by omega) (by omega)
  have h2:manyL c.heaps=((min (1*prodN c.heaps) 2001:Nat):Int):=h1
  have h3:=manyQ_prod (rs:=c.heaps) (m:=1) (fun r hr=>(h r hr).2.1) (by omega) (by omega)
  have h4:manyQ c.heaps=min 3000 (1*prodN c.heaps):=h3
  rw [h2,h4]
  omega
theorem qFault (hf:c.Fits) {Q:V→Prop}:CallP tab 5 [cellV g1 g2 g3 c] Q↔Q (.c (.int .i64 (checkCell c))):=CallP_of (by
  have b1:=hf.heaps
  have b2:=hf.casks
  have b3:=hf.trials
  refine Val_X (fn:=f5) rfl ?_
  by_cases a1:(c.heaps.length:Int)>3
  · simp only [go_sem,f5,a1,checkCell]
  by_cases a2:(c.casks.length:Int)>3
  · simp only [go_sem,f5,a1,a2,checkCell]
  by_cases a3:(c.trials.length:Int)>5
  · simp only [go_sem,f5,a1,a2,a3,checkCell]
  by_cases a4:(c.heaps.length:Int)=0
  · simp only [go_sem,f5,a1,a2,a3,a4,checkCell]
  simp only [go_sem,f5,a1,a2,a3,a4]
  refine RX_forC c.heaps.length (fun k=>[(3,.c (.int .i64 k))]) (fun k=>∀i,i<k→rgOf (c.heaps.getD i default).lo (c.heaps.getD i default).hi 0 100=true) rfl (fun i h=>by omega) (by simp only [go_sem]<;>rfl) ?_
  intro k hk hP
  have e4:IntKind.i64.wrap ((k:Int)+1)=((k+1:Nat):Int):=wrap_succ (n:=3000) (by omega) (by decide)
  by_cases hlt:k<c.heaps.length
  · cases hi:rgOf (c.heaps.getD k default).lo (c.heaps.getD k default).hi 0 100 with
    | false=>
      have a5:c.heaps.all (fun r=>rgOf r.lo r.hi 0 100)=false:=by
        rw [List.all_eq_false];exact ⟨_,getD_mem hlt,by rw [hi];simp⟩
      simp only [go_sem,hlt,atI_nat,qWithin,hi,checkCell,a1,a2,a3,a4,a5]
    | true=>
      simp only [go_sem,hlt,atI_nat,qWithin,hi,e4]
      intro i hi'
      by_cases hik:i=k
      · subst hik;exact hi
      · exact hP i (by omega)
  have:k=c.heaps.length:=by omega
  subst this
  clear e4
  have a5:c.heaps.all (fun r=>rgOf r.lo r.hi 0 100)=true:=by
    rw [List.all_eq_true];intro x hx
    obtain ⟨i,hi,rfl⟩:=List.getElem_of_mem hx
    have:=hP i hi
    rwa [getD_lt _ _ _ hi] at this
  simp only [go_sem,hlt]
  refine RX_forC c.casks.length (fun k=>[(4,.c (.int .i64 k))]) (fun k=>∀i,i<k→caskOk c.heaps.length (c.casks.getD i default)=true) rfl (fun i h=>by omega) (by simp only [go_sem]<;>rfl) ?_
  intro k hk hP2
  have e4:IntKind.i64.wrap ((k:Int)+1)=((k+1:Nat):Int):=wrap_succ (n:=3000) (by omega) (by decide)
  by_cases hlt2:k<c.casks.length
  · have hm:=getD_mem (d:=default) hlt2
    have hbk:=big_of (hf.cask _ hm)
    cases hi:caskOk c.heaps.length (c.casks.getD k default) with
    | false=>
      have a6:c.casks.all (caskOk c.heaps.length)=false:=by
        rw [List.all_eq_false];exact ⟨_,hm,by rw [hi];simp⟩
      cases hw:wtsOk c.heaps.length (c.casks.getD k default) with
      | false=>simp only [go_sem,hlt2,atI_nat,qIsStock hbk,hw,checkCell,a1,a2,a3,a4,a5,a6]
      | true=>
        have hs:=sumW_ok (by omega) hw
        have h0:sumW (c.casks.getD k default)=0:=by
          rw [caskOk,hw,Bool.true_and,decide_eq_false_iff_not] at hi;omega
        simp only [go_sem,hlt2,atI_nat,qIsStock hbk,qSum hbk,hw,h0,checkCell,a1,a2,a3,a4,a5,a6]
    | true=>
      have hi2:=hi
      simp only [caskOk,Bool.and_eq_true,decide_eq_true_eq] at hi2
      have h0:¬sumW (c.casks.getD k default)=0:=by omega
      simp only [go_sem,hlt2,atI_nat,qIsStock hbk,qSum hbk,hi2.1,h0,e4]
      intro i hi'
      by_cases hik:i=k
      · subst hik;exact hi
      · exact hP2 i (by omega)
  have:k=c.casks.length:=by omega
  subst this
  clear e4
  have a6:c.casks.all (caskOk c.heaps.length)=true:=by
    rw [List.all_eq_true];intro x hx
    obtain ⟨i,hi,rfl⟩:=List.getElem_of_mem hx
    have:=hP2 i hi
    rwa [getD_lt _ _ _ hi] at this
  simp only [go_sem,hlt2]
  refine RX_forC c.trials.length (fun k=>[(5,.c (.int .i64 k))]) (fun k=>∀i,i<k→trOk c (c.trials.getD i default)=true) rfl (fun i h=>by omega) (by simp only [go_sem]<;>rfl) ?_
  intro k hk hP3
  have e4:IntKind.i64.wrap ((k:Int)+1)=((k+1:Nat):Int):=wrap_succ (n:=3000) (by omega) (by decide)
  by_cases hlt3:k<c.trials.length
  · have hm:=getD_mem (d:=default) hlt3
    obtain ⟨⟨za,zb,⟨zx,zy⟩⟩,hz⟩:∃z,c.trials.getD k default=z:=⟨_,rfl⟩
    rw [hz] at hm
    cases hi:trOk c ⟨za,zb,⟨zx,zy⟩⟩ with
    | false=>
      have a7:c.trials.all (trOk c)=false:=by
        rw [List.all_eq_false];exact ⟨_,hm,by rw [hi];simp⟩
      have hi2:=hi
      cases za with
      | false=>
        simp only [trOk,Bool.false_eq_true,if_false] at hi2
        cases hq:inR zb 0 (IntKind.i64.wrap ((c.heaps.length:Int)-1)) with
        | false=>simp only [go_sem,hlt3,atI_nat,hz,qIn,qWithin,hq,checkCell,a1,a2,a3,a4,a5,a6,a7]
        | true=>
          rw [hq,Bool.true_and] at hi2
          simp only [go_sem,hlt3,atI_nat,hz,qIn,qWithin,hq,hi2,checkCell,a1,a2,a3,a4,a5,a6,a7]
      | true=>
        simp only [trOk,if_true] at hi2
        cases hq:inR zb 0 (IntKind.i64.wrap ((c.casks.length:Int)-1)) with
        | false=>simp only [go_sem,hlt3,atI_nat,hz,qIn,qWithin,hq,checkCell,a1,a2,a3,a4,a5,a6,a7]
        | true=>
          rw [hq,Bool.true_and] at hi2
          simp only [go_sem,hlt3,atI_nat,hz,qIn,qWithin,hq,hi2,checkCell,a1,a2,a3,a4,a5,a6,a7]
    | true=>
      have hi2:=hi
      have fin:∀i,i<k+1→trOk c (c.trials.getD i default)=true:=by
        intro i hi'
        by_cases hik:i=k
        · subst hik;rw [hz];exact hi
        · exact hP3 i (by omega)
      cases za with
      | false=>
        simp only [trOk,Bool.false_eq_true,if_false,Bool.and_eq_true] at hi2
        simp only [go_sem,hlt3,atI_nat,hz,qIn,qWithin,hi2.1,hi2.2,e4]
        exact fin
      | true=>
        simp only [trOk,if_true,Bool.and_eq_true] at hi2
        simp only [go_sem,hlt3,atI_nat,hz,qIn,qWithin,hi2.1,hi2.2,e4]
        exact fin
  have:k=c.trials.length:=by omega
  subst this
  have a7:c.trials.all (trOk c)=true:=by
    rw [List.all_eq_true];intro x hx
    obtain ⟨i,hi,rfl⟩:=List.getElem_of_mem hx
    have:=hP3 i hi
    rwa [getD_lt _ _ _ hi] at this
  have hr:∀r∈c.heaps,0≤r.lo∧r.lo≤r.hi∧r.hi≤100:=by
    intro r hr
    rw [List.all_eq_true] at a5
    have:=a5 r hr
    simp only [rgOf,Bool.and_eq_true,decide_eq_true_eq] at this
    omega
  have hC:checkCell c=if ((manyQ c.heaps:Nat):Int)>2000 then 3 else 0:=by
    have h:checkCell c=if manyL c.heaps>2000 then 3 else 0:=by simp only [checkCell,a1,a2,a3,a4,a5,a6,a7,if_false,Bool.true_eq_false]
    rw [h]
    by_cases hb:manyL c.heaps>2000
    · rw [if_pos hb,if_pos ((many_gt hr).2 hb)]
    · rw [if_neg hb,if_neg (fun h=>hb ((many_gt hr).1 h))]
  rw [hC]
  simp only [go_sem,hlt3,qMany hr hf.heaps]
  exact ⟨fun h=>by rw [if_pos h],fun h=>by rw [if_neg h]⟩)
end Am.Vt
namespace Am.Vt
open Go Am
set_option maxRecDepth 100000
set_option maxHeartbeats 4000000
set_option linter.unusedSimpArgs false
set_option linter.unusedVariables false
variable {g1 g2 g3:Bool × Bool} {c:Cellar}
def smallC (c:Cellar):Prop:=c.heaps.length≤5∧c.casks.length≤5∧c.trials.length≤7∧∀l∈c.casks,l.length≤6
instance : Decidable (smallC c):=by unfold smallC;infer_instance
theorem small_fits (h:smallC c):c.Fits:=⟨by have:=h.1;omega,by have:=h.2.1;omega,fun l hl=>by have:=h.2.2.2 l hl;omega,by have:=h.2.2.1;omega⟩
def thinC (c:Cellar):Bool:=decide (smallC c∧(checkCell c=0→((manyQ c.heaps:Nat):Int)≤150))
theorem thin_no (h:¬smallC c):thinC c=false:=by unfold thinC;rw [decide_eq_false_iff_not];exact fun h'=>h h'.1
theorem thin_yes (h:thinC c=true):smallC c∧(checkCell c=0→((manyQ c.heaps:Nat):Int)≤150):=by unfold thinC at h;exact of_decide_eq_true h
theorem thin_eq (h:smallC c) {b:Bool} (h2:(checkCell c=0→((manyQ c.heaps:Nat):Int)≤150)↔b=true):thinC c=b:=by
  cases b
  · unfold thinC;rw [decide_eq_false_iff_not];intro h';exact absurd (h2.1 h'.2) (by simp)
  · unfold thinC;rw [decide_eq_true_eq];exact ⟨h,h2.2 rfl⟩
theorem lThin5 {Q:V→Prop}:CallP tab 4 [cellV g1 g2 g3 c] Q↔Q (.c (.bool (thinC c))):=CallP_of (by
  refine Val_X (fn:=f4) rfl ?_
  by_cases a1:(c.heaps.length:Int)>5
  · simp only [go_sem,f4,a1,thin_no (c:=c) (fun h=>by have:=h.1;omega)]
  by_cases a2:(c.casks.length:Int)>5
  · simp only [go_sem,f4,a1,a2,thin_no (c:=c) (fun h=>by have:=h.2.1;omega)]
  by_cases a3:(c.trials.length:Int)>7
  · simp only [go_sem,f4,a1,a2,a3,thin_no (c:=c) (fun h=>by have:=h.2.2.1;omega)]
  simp only [go_sem,f4,a1,a2,a3]
  refine RX_forC c.casks.length (fun k=>[(3,.c (.int .i64 k))]) (fun k=>∀i,i<k→(c.casks.getD i default).length≤6) rfl (fun i h=>by omega) (by simp only [go_sem]<;>rfl) ?_
  intro k hk hP
  have e4:IntKind.i64.wrap ((k:Int)+1)=((k+1:Nat):Int):=wrap_succ (n:=3000) (by omega) (by decide)
  by_cases hlt:k<c.casks.length
  · by_cases hi:((c.casks.getD k default).length:Int)>6
    · simp only [go_sem,hlt,atI_nat,hi,thin_no (c:=c) (fun h=>by have:=h.2.2.2 _ (getD_mem (d:=default) hlt);omega)]
    · simp only [go_sem,hlt,atI_nat,hi,e4]
      intro i hi'
      by_cases hik:i=k
      · subst hik;omega
      · exact hP i (by omega)
  have:k=c.casks.length:=by omega
  subst this
  have hsm:smallC c:=⟨by omega,by omega,by omega,fun l hl=>by
    obtain ⟨i,hi,rfl⟩:=List.getElem_of_mem hl
    have:=hP i hi
    rwa [getD_lt _ _ _ hi] at this⟩
  have hf:=small_fits hsm
  by_cases h0:checkCell c=0
  · have hv:=cell_valid h0
    simp only [go_sem,hlt,qFault hf,h0,qMany hv.heap hf.heaps]
    rw [thin_eq hsm (b:=decide (((manyQ c.heaps:Nat):Int)≤150)) (by simp [h0])]
  · simp only [go_sem,hlt,qFault hf,h0]
    rw [thin_eq hsm (b:=true) (by simp [h0])])
theorem qNth (hv:c.Valid) {n:Nat} (hn:n≤100000) {Q:V→Prop}:CallP tab 29 [cellV g1 g2 g3 c,.c (.int .i64 n)] Q↔Q (.c (L (false,false) (nthR c.heaps n))):=CallP_of (by
  refine Val_X (fn:=f29) rfl ?_
  have v1:=hv.n3
  simp only [go_sem,f29]
  refine RX_whileU (α:=Nat) (fun k=>[(1,.c (.int .i64 ((restR c.heaps n k:Nat)))),(5,.c (.sl 1 k 0 k)),(6,.c (.int .i64 k))]) (fun k=>[.cells (cellC g1 g2 g3 c),.arr false k 1 (((nthR c.heaps n).take k).map Row.row)]) (fun k=>k≤c.heaps.length) (fun k=>c.heaps.length-k) 0 (Nat.zero_le _) (by simp only [go_sem]<;>first | rfl | exact ⟨rfl,rfl⟩) ?_
  intro k hk
  have e4:IntKind.i64.wrap ((k:Int)+1)=((k+1:Nat):Int):=wrap_succ (n:=3000) (by omega) (by decide)
  have nl:=nthR_len (rs:=c.heaps) (n:=n)
  have tl:((nthR c.heaps n).take k).length=k:=by rw [List.length_take];omega
  by_cases hlt:k<c.heaps.length
  · have dd:=hv.heap _ (getD_mem (d:=default) hlt)
    obtain ⟨d1,d3⟩:=sizeN (r:=c.heaps.getD k default) (by omega)
    have d2:1≤szN (c.heaps.getD k default):=by unfold szN;omega
    have rle:=restR_le (rs:=c.heaps) (n:=n) (k:=k)
    have rs:=restR_succ (n:=n) hlt
    have rg:=nthR_get (n:=n) (d:=default) hlt
    have tg:=take_getD (l:=nthR c.heaps n) (k:=k) (by omega) default
    rw [rg] at tg
    obtain ⟨rk1,hr1⟩:∃x,x=restR c.heaps n (k+1):=⟨_,rfl⟩
    rw [←hr1] at rs
    generalize restR c.heaps n k=rk at *
    obtain ⟨r,hr⟩:∃r,r=c.heaps.getD k default:=⟨_,rfl⟩
    rw [←hr] at d1 d2 d3 dd rs tg
    have hrk:rk≤100000:=by omega
    have z1:(rk:Int).tmod (szN r:Int)=((rk % szN r:Nat):Int):=rfl
    have z2:(rk:Int).tdiv (szN r:Int)=((rk / szN r:Nat):Int):=rfl
    have z3:IntKind.i64.wrap (r.lo+((rk % szN r:Nat):Int))=r.lo+((rk % szN r:Nat):Int):=by
      have h1:rk % szN r≤rk:=Nat.mod_le _ _
      generalize rk % szN r=m at h1;exact wrapB (by omega) (by omega)
    have z4:IntKind.i64.wrap ((rk / szN r:Nat):Int)=((rk / szN r:Nat):Int):=by
      have h1:rk / szN r≤rk:=Nat.div_le_self _ _
      generalize rk / szN r=m at h1;exact wrapB (by omega) (by omega)
    have z5:¬(szN r:Int)=0:=by omega
    rw [←rs] at z2 z4
    have b1:(k+1)*8≤2^40:=by omega
    simp only [go_sem,hlt,atI_nat,←hr,qSize,d1,z1,z2,z3,z4,z5,e4,tl,b1,disj_nil]
    exact ⟨k+1,⟨by omega,by omega⟩,⟨hr1,rfl,rfl⟩,by rw [tg,List.map_append];rfl⟩
  · have:k=c.heaps.length:=by omega
    subst this
    have tk:(nthR c.heaps n).take c.heaps.length=nthR c.heaps n:=List.take_of_length_le (by omega)
    simp only [go_sem,hlt,tl,tk,nl])
theorem qIsListed {g:Bool × Bool} {l:List Int} (hf:c.heaps.length≤1000) (hl:l.length=c.heaps.length) {Q:V→Prop}:CallP tab 57 [cellV g1 g2 g3 c,.c (L g l)] Q↔Q (.c (.bool (listedK c l))):=CallP_of (by
  refine Val_X (fn:=f57) rfl ?_
  simp only [go_sem,f57]
  refine RX_forC c.heaps.length (fun k=>[(5,.c (.int .i64 k))]) (fun k=>∀i,i<k→inR (l.getD i default) (c.heaps.getD i default).lo (c.heaps.getD i default).hi=true) rfl (fun i h=>by omega) (by simp only [go_sem]<;>rfl) ?_
  intro k hk hP
  have e4:IntKind.i64.wrap ((k:Int)+1)=((k+1:Nat):Int):=wrap_succ (n:=3000) (by omega) (by decide)
  by_cases hlt:k<c.heaps.length
  · have hlt2:k<l.length:=by omega
    cases hi:inR (l.getD k default) (c.heaps.getD k default).lo (c.heaps.getD k default).hi with
    | false=>
      have:listedK c l=false:=by
        simp only [listedK,hl,decide_true,Bool.true_and,List.all_eq_false]
        exact ⟨k,List.mem_range.2 hlt,by rw [hi];simp⟩
      simp only [go_sem,hl,hlt,hlt2,atI_nat,qIn,hi,this,disj_nil]
    | true=>
      simp only [go_sem,hl,hlt,hlt2,atI_nat,qIn,hi,e4,disj_nil]
      intro i hi'
      by_cases hik:i=k
      · subst hik;exact hi
      · exact hP i (by omega)
  · have:k=c.heaps.length:=by omega
    subst this
    have hT:listedK c l=true:=by
      simp only [listedK,hl,decide_true,Bool.true_and,List.all_eq_true]
      exact fun i hi=>hP i (List.mem_range.1 hi)
    simp only [go_sem,hl,hlt,hT])
theorem qMean {g g':Bool × Bool} {l w:List Int} (hw:w.length=l.length) (hl:l.length≤1000) (h0:sumW w≠0) {Q:V→Prop}:CallP tab 122 [.c (L g l),.c (L g' w)] Q↔Q (.c (.int .i64 (meanW l w))):=CallP_of (by
  have hb:w.length<Big:=big_of (by omega)
  refine Val_X (fn:=f122) rfl ?_
  simp only [go_sem,f122]
  refine RX_forC l.length (fun k=>[(5,.c (.int .i64 ((List.range k).foldl (fun n i=>IntKind.i64.wrap (n+IntKind.i64.wrap (w.getD i default*l.getD i default))) 0))),(6,.c (.int .i64 k))]) (fun _=>True) rfl trivial (by simp only [go_sem]<;>rfl) ?_
  intro k hk _
  have e4:IntKind.i64.wrap ((k:Int)+1)=((k+1:Nat):Int):=wrap_succ (n:=3000) (by omega) (by decide)
  by_cases hlt:k<l.length
  · have hlt2:k<w.length:=by omega
    simp only [go_sem,hlt,hlt2,atI_nat,e4,disj_nil,List.range_succ,List.foldl_append,List.foldl_cons,List.foldl_nil]
  · have:k=l.length:=by omega
    subst this
    simp only [go_sem,hlt,qSum hb,h0]
    rw [←hw];rfl)
theorem qOf (hv:c.Valid) {g:Bool × Bool} {l:List Int} (hl:l.length=c.heaps.length) {t:Nat} (ht:t<c.heaps.length+c.casks.length) {Q:V→Prop}:CallP tab 93 [cellV g1 g2 g3 c,.c (L g l),.c (.int .i64 t)] Q↔Q (.c (.int .i64 (ofK c l t))):=CallP_of (by
  have h3:=hv.n3
  have h4:=hv.casks3
  refine Val_X (fn:=f93) rfl ?_
  by_cases h:t<c.heaps.length
  · have hn:(t:Int)<(c.heaps.length:Int):=by omega
    have h':t<l.length:=by omega
    simp only [go_sem,f93,hl,hn,h,h',atI_nat,ofK,if_true]
  · have hn:¬(t:Int)<(c.heaps.length:Int):=by omega
    have hw:IntKind.i64.wrap ((t:Int)-(c.heaps.length:Int))=((t-c.heaps.length:Nat):Int):=by rw [wrap_id _ (by omega) (by omega)];omega
    have hlt:t-c.heaps.length<c.casks.length:=by omega
    have hm:c.casks.getD (t-c.heaps.length) default∈c.casks:=getD_mem hlt
    have hk:=hv.cask _ hm
    simp only [go_sem,f93,hl,hn,hw,hlt,atI_nat,qMean (l:=l) (w:=c.casks.getD (t-c.heaps.length) default) (by omega) (by omega) (by omega),ofK,h,if_false])
theorem thing_nat (hv:c.Valid) {t:Tr} (ht:t∈c.trials):∃tn:Nat,thingI c t=tn∧tn<c.heaps.length+c.casks.length:=by
  have h3:=hv.n3
  have h4:=hv.casks3
  have ht:=hv.trial _ ht
  refine ⟨(thingI c t).toNat,?_,?_⟩<;>unfold thingI<;>split<;>rename_i hq<;>simp only [hq,if_true,if_false] at ht
  · rw [wrap_id _ (by omega) (by omega)];omega
  · simp only [Bool.false_eq_true,if_false] at ht;omega
  · rw [wrap_id _ (by omega) (by omega)];omega
  · simp only [Bool.false_eq_true,if_false] at ht;omega
theorem qRight (hv:c.Valid) {g:Bool × Bool} {l:List Int} (hl:l.length=c.heaps.length) {a:Bool} {b x y:Int} (ht:(⟨a,b,⟨x,y⟩⟩:Tr)∈c.trials) {Q:V→Prop}:CallP tab 58 [cellV g1 g2 g3 c,.c (L g l),.agg [.bool a,.int .i64 b,.int .i64 x,.int .i64 y]] Q↔Q (.c (.bool (inR (ofK c l (thingI c ⟨a,b,⟨x,y⟩⟩).toNat) x y))):=CallP_of (by
  obtain ⟨tn,h1,h2⟩:=thing_nat hv ht
  refine Val_X (fn:=f58) rfl ?_
  rw [h1,Int.toNat_natCast]
  cases a with
  | true=>
    have e:IntKind.i64.wrap (b+(c.heaps.length:Int))=tn:=by rw [Int.add_comm];exact h1
    simp only [go_sem,f58,e,qOf hv hl h2,qIn,disj_nil]
  | false=>
    have e:b=tn:=h1
    simp only [go_sem,f58,e,qOf hv hl h2,qIn,disj_nil])
def isTruthC (c:Cellar) (l:List Int):Bool:=listedK c l&&rightC c l
theorem qIsTruth (hv:c.Valid) {g:Bool × Bool} {l:List Int} (hl:l.length=c.heaps.length) {Q:V→Prop}:CallP tab 30 [cellV g1 g2 g3 c,.c (L g l)] Q↔Q (.c (.bool (isTruthC c l))):=CallP_of (by
  have h3:=hv.n3
  have h5:=hv.trials5
  refine Val_X (fn:=f30) rfl ?_
  cases hL:listedK c l with
  | false=>simp only [go_sem,f30,qIsListed (c:=c) (by omega) hl,hL,isTruthC,Bool.false_and]
  | true=>
    simp only [go_sem,f30,qIsListed (c:=c) (by omega) hl,hL,isTruthC,Bool.true_and]
    refine RX_forC c.trials.length (fun k=>[(5,.c (.int .i64 k))]) (fun k=>∀i,i<k→inR (ofK c l (thingI c (c.trials.getD i default)).toNat) (c.trials.getD i default).n.lo (c.trials.getD i default).n.hi=true) rfl (fun i h=>by omega) (by simp only [go_sem]<;>rfl) ?_
    intro k hk hP
    have e4:IntKind.i64.wrap ((k:Int)+1)=((k+1:Nat):Int):=wrap_succ (n:=3000) (by omega) (by decide)
    by_cases hlt:k<c.trials.length
    · have hm:=getD_mem (d:=default) hlt
      obtain ⟨⟨za,zb,⟨zx,zy⟩⟩,hz⟩:∃z,c.trials.getD k default=z:=⟨_,rfl⟩
      rw [hz] at hm
      cases hi:inR (ofK c l (thingI c ⟨za,zb,⟨zx,zy⟩⟩).toNat) zx zy with
      | false=>
        have:rightC c l=false:=by
          simp only [rightC,List.all_eq_false];exact ⟨_,hm,by rw [hi];simp⟩
        simp only [go_sem,hlt,atI_nat,hz,qRight hv hl hm,hi,this,disj_nil]
      | true=>
        simp only [go_sem,hlt,atI_nat,hz,qRight hv hl hm,hi,e4,disj_nil]
        intro i hi'
        by_cases hik:i=k
        · subst hik;rw [hz];exact hi
        · exact hP i (by omega)
    · have:k=c.trials.length:=by omega
      subst this
      have hT:rightC c l=true:=by
        simp only [rightC,List.all_eq_true]
        intro z hz
        obtain ⟨i,hi,rfl⟩:=List.getElem_of_mem hz
        have:=hP i hi
        rwa [getD_lt _ _ _ hi] at this
      simp only [go_sem,hlt,hT])
def truthsQ (c:Cellar) (k:Nat):List (List Int):=((List.range k).map (nthR c.heaps)).filter (isTruthC c)
theorem qTruths (hv:c.Valid) (hm:manyQ c.heaps≤3000) {Q:V→Prop}:CallP tab 9 [cellV g1 g2 g3 c] Q↔Q (.c (L (false,false) (truthsQ c (manyQ c.heaps)))):=CallP_of (by
  have h3:=hv.n3
  refine Val_X (fn:=f9) rfl ?_
  simp only [go_sem,f9]
  refine RX_for (manyQ c.heaps) (fun k=>[(3,.c (.sl 1 (truthsQ c k).length 0 (truthsQ c k).length)),(4,.c (.int .i64 k))]) (fun k=>[.cells (cellC g1 g2 g3 c),.arr false (truthsQ c k).length 1 ((truthsQ c k).map Row.row)]) (fun k=>(truthsQ c k).length≤k) (by simp [truthsQ]) (by simp only [go_sem]<;>first | rfl | exact ⟨rfl,rfl⟩) ?_
  intro k hk hP
  have e4:IntKind.i64.wrap ((k:Int)+1)=((k+1:Nat):Int):=wrap_succ (n:=4000) (by omega) (by decide)
  have b1:((truthsQ c k).length+1)*24≤2^40:=by omega
  by_cases hlt:k<manyQ c.heaps
  · have hltI:(k:Int)<(manyQ c.heaps:Int):=by omega
    have hs:truthsQ c (k+1)=if isTruthC c (nthR c.heaps k) then truthsQ c k++[nthR c.heaps k] else truthsQ c k:=by
      simp only [truthsQ,List.range_succ,List.map_append,List.filter_append,List.map_cons,List.map_nil,List.filter_cons,List.filter_nil]
      split<;>simp
    cases ht:isTruthC c (nthR c.heaps k) with
    | true=>
      rw [ht] at hs
      simp only [go_sem,hltI,qMany hv.heap (c:=c) (by omega),qNth hv (n:=k) (by omega),qIsTruth hv (l:=nthR c.heaps k) nthR_len,ht,e4,b1,hs]
      exact ⟨⟨hlt,by omega⟩,by rw [List.map_append];rfl⟩
    | false=>
      rw [ht] at hs
      simp only [go_sem,hltI,qMany hv.heap (c:=c) (by omega),qNth hv (n:=k) (by omega),qIsTruth hv (l:=nthR c.heaps k) nthR_len,ht,e4,b1,hs]
      exact ⟨hlt,by omega⟩
  · have:k=manyQ c.heaps:=by omega
    subst this
    have hltI:¬((manyQ c.heaps:Nat):Int)<(manyQ c.heaps:Int):=by omega
    simp only [go_sem,hltI,qMany hv.heap (c:=c) (by omega)])
end Am.Vt
namespace Am.Vt
open Go Am
set_option maxRecDepth 100000
set_option maxHeartbeats 4000000
set_option linter.unusedSimpArgs false
set_option linter.unusedVariables false
variable {g1 g2 g3:Bool × Bool} {c:Cellar}
theorem lto5 {lo hi:Int} {Q:V→Prop}:CallP tab 34 [.agg [.int .i64 lo,.int .i64 hi]] Q↔Q (.agg [.int .i64 lo,.int .i64 hi]):=CallP_of (by
  refine Val_X (fn:=f34) rfl ?_
  simp only [go_sem,f34])
theorem llist5 {g:Bool × Bool} {a:List Int} (ha:a.length≤1000) {Q:V→Prop}:CallP tab 35 [.c (L g a)] Q↔Q (.c (L (false,false) a)):=CallP_of (by
  have hb:a.length*8≤2^40:=by omega
  refine Val_X (fn:=f35) rfl ?_
  simp only [go_sem,f35,hb])
theorem lCellar (hf:c.Fits) {Q:V→Prop}:CallP tab 11 [cellV g1 g2 g3 c] Q↔Q (cellV (false,false) (false,false) (false,false) c):=CallP_of (by
  have b1:=hf.heaps
  have b2:=hf.casks
  have b3:=hf.trials
  refine Val_X (fn:=f11) rfl ?_
  simp only [go_sem,f11]
  refine RX_for c.heaps.length (fun k=>[(4,.c (.int .i64 k))]) (fun k=>[.cells (cellC g1 g2 g3 c),.cells [.nils,.nils,.nils],.cells [.sl 3 k 0 k,.nils,.nils],.arr false k 2 ((c.heaps.take k).map Row.row)]) (fun _=>True) trivial (by simp only [go_sem]<;>first | rfl | exact ⟨rfl,rfl⟩) ?_
  intro k hk _
  have e4:IntKind.i64.wrap ((k:Int)+1)=((k+1:Nat):Int):=wrap_succ (n:=4000) (by omega) (by decide)
  have tl:(c.heaps.take k).length=k:=by rw [List.length_take];omega
  by_cases hlt:k<c.heaps.length
  · have y:(k+1)*16≤2^40:=by omega
    simp only [go_sem,hlt,atI_nat,lto5,e4,tl,y,disj_nil]
    rw [take_getD hlt default,List.map_append];rfl
  have:k=c.heaps.length:=by omega
  subst this
  clear e4 tl
  simp only [go_sem,hlt,List.take_length]
  refine RX_for c.casks.length (fun k=>[(5,.c (.int .i64 k))]) (fun k=>[.cells (cellC g1 g2 g3 c),.cells [.nils,.nils,.nils],.cells [.sl 3 c.heaps.length 0 c.heaps.length,.sl 4 k 0 k,.nils],.arr false c.heaps.length 2 (c.heaps.map Row.row),.arr false k 1 ((c.casks.take k).map Row.row)]) (fun _=>True) trivial (by simp only [go_sem]<;>first | rfl | exact ⟨rfl,rfl⟩) ?_
  intro k hk2 _
  have e4:IntKind.i64.wrap ((k:Int)+1)=((k+1:Nat):Int):=wrap_succ (n:=4000) (by omega) (by decide)
  have tl:(c.casks.take k).length=k:=by rw [List.length_take];omega
  by_cases hlt2:k<c.casks.length
  · have y:(k+1)*24≤2^40:=by omega
    have hm:=hf.cask _ (getD_mem (d:=default) hlt2)
    simp only [go_sem,hlt2,atI_nat,llist5 hm,e4,tl,y,disj_nil]
    rw [take_getD hlt2 default,List.map_append];rfl
  have:k=c.casks.length:=by omega
  subst this
  clear e4 tl
  simp only [go_sem,hlt2,List.take_length]
  refine RX_for c.trials.length (fun k=>[(6,.c (.int .i64 k))]) (fun k=>[.cells (cellC g1 g2 g3 c),.cells [.nils,.nils,.nils],.cells [.sl 3 c.heaps.length 0 c.heaps.length,.sl 4 c.casks.length 0 c.casks.length,.sl 5 k 0 k],.arr false c.heaps.length 2 (c.heaps.map Row.row),.arr false c.casks.length 1 (c.casks.map Row.row),.arr false k 4 ((c.trials.take k).map Row.row)]) (fun _=>True) trivial (by simp only [go_sem]<;>first | rfl | exact ⟨rfl,rfl⟩) ?_
  intro k hk3 _
  have e4:IntKind.i64.wrap ((k:Int)+1)=((k+1:Nat):Int):=wrap_succ (n:=4000) (by omega) (by decide)
  have tl:(c.trials.take k).length=k:=by rw [List.length_take];omega
  by_cases hlt3:k<c.trials.length
  · have y:(k+1)*32≤2^40:=by omega
    simp only [go_sem,hlt3,atI_nat,lto5,e4,tl,y,disj_nil]
    rw [take_getD hlt3 default,List.map_append];rfl
  have:k=c.trials.length:=by omega
  subst this
  simp only [go_sem,hlt3,List.take_length])
end Am.Vt
namespace Am.Vt
open Go Am
set_option maxRecDepth 100000
set_option maxHeartbeats 4000000
set_option linter.unusedSimpArgs false
set_option linter.unusedVariables false
variable {c:Cellar}
theorem strOf_l {l:List Int}:(strOf l).l=padK l:=rfl
theorem pad_get {l:List Int} {i:Nat} (h3:l.length≤3) (hi:i<l.length):(padK l).getD i default=l.getD i default:=by
  match l,h3,i,hi with
  | [_],_,0,_=>rfl
  | [_,_],_,0,_=>rfl
  | [_,_],_,1,_=>rfl
  | [_,_,_],_,0,_=>rfl
  | [_,_,_],_,1,_=>rfl
  | [_,_,_],_,2,_=>rfl
theorem mean_pad {l w:List Int} (h3:l.length≤3) (hw:w.length=l.length):meanW (padK l) w=meanW l w:=by
  have:dotW (padK l) w=dotW l w:=by
    unfold dotW
    have:∀(ks:List Nat),(∀i∈ks,i<l.length)→∀a:Int,ks.foldl (fun n i=>IntKind.i64.wrap (n+IntKind.i64.wrap (w.getD i default*(padK l).getD i default))) a=ks.foldl (fun n i=>IntKind.i64.wrap (n+IntKind.i64.wrap (w.getD i default*l.getD i default))) a:=by
      intro ks
      induction ks with
      | nil=>intro _ a;rfl
      | cons k ks ih=>
        intro h a
        rw [List.foldl_cons,List.foldl_cons,pad_get h3 (h k (by simp))]
        exact ih (fun i hi=>h i (by simp [hi])) _
    exact this _ (fun i hi=>by rw [List.mem_range] at hi;omega) 0
  unfold meanW;rw [this]
theorem of_pad (hv:c.Valid) {l:List Int} (hl:l.length=c.heaps.length) {t:Nat} (ht:t<c.heaps.length+c.casks.length):ofK c (padK l) t=ofK c l t:=by
  have h3:=hv.n3
  unfold ofK
  by_cases h:t<c.heaps.length
  · rw [if_pos h,if_pos h];exact pad_get (by omega) (by omega)
  · rw [if_neg h,if_neg h]
    have hlt:t-c.heaps.length<c.casks.length:=by omega
    have hk:=hv.cask _ (getD_mem (d:=default) hlt)
    exact mean_pad (by omega) (by omega)
theorem right_pad (hv:c.Valid) {l:List Int} (hl:l.length=c.heaps.length):rightC c (padK l)=rightC c l:=by
  have:∀t∈c.trials,inR (ofK c (padK l) (thingI c t).toNat) t.n.lo t.n.hi=inR (ofK c l (thingI c t).toNat) t.n.lo t.n.hi:=by
    intro t ht
    obtain ⟨tn,h1,h2⟩:=thing_nat hv ht
    rw [h1,Int.toNat_natCast,of_pad hv hl h2]
  unfold rightC
  rw [Bool.eq_iff_iff,List.all_eq_true,List.all_eq_true]
  exact ⟨fun h t ht=>by rw [←this t ht];exact h t ht,fun h t ht=>by rw [this t ht];exact h t ht⟩
theorem listed_in {l:List Int}:listedK c l=true↔l.length=c.heaps.length∧InR c.heaps l:=by
  simp only [listedK,Bool.and_eq_true,decide_eq_true_eq,List.all_eq_true,List.mem_range,inR_iff]
  constructor
  · rintro ⟨h1,h2⟩;exact ⟨h1,fun i hi=>h2 i (by omega)⟩
  · rintro ⟨h1,h2⟩;exact ⟨h1,fun i hi=>h2 i (by omega)⟩
theorem mem_step {s:List Str} {l:List Int} {x:Str}:x∈(stepR c askStep s l).1↔x∈s∨(rightC c (padK l)=true∧x=strOf l):=by
  unfold stepR
  cases hr:rightC c (padK l) with
  | false=>simp
  | true=>
    simp only [if_true,askStep,true_and]
    unfold addT
    split
    · simp
    · rename_i h
      have h1:¬s=[]:=fun e=>h (.inl e)
      have h2:s.getD (s.length-1) default=strOf l:=Classical.byContradiction fun e=>h (.inr e)
      have hl:s.length-1<s.length:=by have:=List.length_pos_iff.2 h1;omega
      have hm:strOf l∈s:=by rw [←h2];exact getD_mem hl
      constructor
      · exact fun h=>.inl h
      · rintro (h | rfl)
        · exact h
        · exact hm
theorem mem_fold : ∀{ls:List (List Int)} {s:List Str} {x:Str},x∈(foldY (stepR c askStep) s ls).1↔x∈s∨∃l∈ls,rightC c (padK l)=true∧x=strOf l
  | [],s,x=>by simp [foldY]
  | l::ls,s,x=>by
    have h:(stepR c askStep s l).2=true:=by unfold stepR;split<;>rfl
    simp only [foldY,h,if_true]
    clear h
    rw [mem_fold,mem_step]
    constructor
    · rintro ((h | ⟨h,e⟩) | ⟨l',hl,h,e⟩)
      · exact .inl h
      · exact .inr ⟨l,by simp,h,e⟩
      · exact .inr ⟨l',by simp [hl],h,e⟩
    · rintro (h | ⟨l',hl,h,e⟩)
      · exact .inl (.inl h)
      · rcases List.mem_cons.1 hl with rfl | hl
        · exact .inl (.inr ⟨h,e⟩)
        · exact .inr ⟨l',hl,h,e⟩
theorem mem_truthsC (hv:c.Valid) {x:Str}:x∈truthsC c↔∃l,listedK c l=true∧rightC c l=true∧x=strOf l:=by
  unfold truthsC
  rw [mem_fold]
  constructor
  · rintro (h | ⟨l,hl,h,e⟩)
    · cases h
    · obtain ⟨y,e1,e2,e3⟩:=listsF_in hl
      rw [List.nil_append] at e1
      subst e1
      exact ⟨l,listed_in.2 ⟨e2,e3⟩,by rw [←right_pad hv e2];exact h,e⟩
  · rintro ⟨l,h1,h2,e⟩
    obtain ⟨e2,e3⟩:=listed_in.1 h1
    exact .inr ⟨l,by have:=listsF_mem (w:=[]) e2 e3;rwa [List.nil_append] at this,by rw [right_pad hv e2];exact h2,e⟩
theorem manyQ_eq (hv:c.Valid):manyQ c.heaps=prodN c.heaps:=by
  have h:=cell_many hv
  have h3:=manyQ_prod (rs:=c.heaps) (m:=1) (fun r hr=>(hv.heap r hr).2.1) (by omega) (by omega)
  have h4:manyQ c.heaps=min 3000 (1*prodN c.heaps):=h3
  rw [h4];omega
theorem mem_truthsQ (hv:c.Valid) {l:List Int}:l∈truthsQ c (manyQ c.heaps)↔listedK c l=true∧rightC c l=true:=by
  unfold truthsQ
  rw [List.mem_filter,List.mem_map,isTruthC,Bool.and_eq_true]
  constructor
  · exact fun h=>h.2
  · intro h
    refine ⟨?_,h⟩
    obtain ⟨h1,h2⟩:=listed_in.1 h.1
    obtain ⟨n,hn,e⟩:=nthR_onto (fun r hr=>(hv.heap r hr).2.1) h1 h2
    exact ⟨n,by rw [List.mem_range,manyQ_eq hv];exact hn,e⟩
theorem truths_nil (hv:c.Valid):truthsC c=[]↔truthsQ c (manyQ c.heaps)=[]:=by
  rw [List.eq_nil_iff_forall_not_mem,List.eq_nil_iff_forall_not_mem]
  constructor
  · intro h l hl
    obtain ⟨h1,h2⟩:=(mem_truthsQ hv).1 hl
    exact h (strOf l) ((mem_truthsC hv).2 ⟨l,h1,h2,rfl⟩)
  · intro h x hx
    obtain ⟨l,h1,h2,_⟩:=(mem_truthsC hv).1 hx
    exact h l ((mem_truthsQ hv).2 ⟨h1,h2⟩)
theorem mean_bd {l w:List Int} (h3:l.length≤3) (hl:w.length=l.length) (hw:∀x∈w,0≤x∧x≤30) (h0:0<sumW w) (hx:∀x∈l,0≤x∧x≤100):0≤meanW l w∧meanW l w≤100:=by
  have key:0≤dotW l w∧dotW l w≤100*sumW w∧sumW w≤90:=by
    match l,w,h3,hl,hw,hx,h0 with
    | [],[],_,_,_,_,h0=>simp [sumW] at h0
    | [a],[p],_,_,hw,hx,_=>
      have p1:=hw p (by simp);have a1:=hx a (by simp)
      have q1:0≤p*a:=Int.mul_nonneg p1.1 a1.1
      have q2:p*a≤p*100:=Int.mul_le_mul_of_nonneg_left a1.2 p1.1
      have e1:dotW [a] [p]=IntKind.i64.wrap (0+IntKind.i64.wrap (p*a)):=rfl
      have e2:sumW [p]=IntKind.i64.wrap (0+p):=rfl
      rw [e1,e2,wrap_id (p*a) (by omega) (by omega),wrap_id _ (by omega) (by omega),wrap_id _ (by omega) (by omega)]
      omega
    | [a,b],[p,q],_,_,hw,hx,_=>
      have p1:=hw p (by simp);have a1:=hx a (by simp)
      have p2:=hw q (by simp);have a2:=hx b (by simp)
      have q1:0≤p*a:=Int.mul_nonneg p1.1 a1.1
      have q2:p*a≤p*100:=Int.mul_le_mul_of_nonneg_left a1.2 p1.1
      have q3:0≤q*b:=Int.mul_nonneg p2.1 a2.1
      have q4:q*b≤q*100:=Int.mul_le_mul_of_nonneg_left a2.2 p2.1
      have e1:dotW [a,b] [p,q]=IntKind.i64.wrap (IntKind.i64.wrap (0+IntKind.i64.wrap (p*a))+IntKind.i64.wrap (q*b)):=rfl
      have e2:sumW [p,q]=IntKind.i64.wrap (IntKind.i64.wrap (0+p)+q):=rfl
      rw [e1,e2,wrap_id (p*a) (by omega) (by omega),wrap_id (q*b) (by omega) (by omega),wrap_id (0+p*a) (by omega) (by omega),wrap_id _ (by omega) (by omega),wrap_id (0+p) (by omega) (by omega),wrap_id _ (by omega) (by omega)]
      omega
    | [a,b,d],[p,q,r],_,_,hw,hx,_=>
      have p1:=hw p (by simp);have a1:=hx a (by simp)
      have p2:=hw q (by simp);have a2:=hx b (by simp)
      have p3:=hw r (by simp);have a3:=hx d (by simp)
      have q1:0≤p*a:=Int.mul_nonneg p1.1 a1.1
      have q2:p*a≤p*100:=Int.mul_le_mul_of_nonneg_left a1.2 p1.1
      have q3:0≤q*b:=Int.mul_nonneg p2.1 a2.1
      have q4:q*b≤q*100:=Int.mul_le_mul_of_nonneg_left a2.2 p2.1
      have q5:0≤r*d:=Int.mul_nonneg p3.1 a3.1
      have q6:r*d≤r*100:=Int.mul_le_mul_of_nonneg_left a3.2 p3.1
      have e1:dotW [a,b,d] [p,q,r]=IntKind.i64.wrap (IntKind.i64.wrap (IntKind.i64.wrap (0+IntKind.i64.wrap (p*a))+IntKind.i64.wrap (q*b))+IntKind.i64.wrap (r*d)):=rfl
      have e2:sumW [p,q,r]=IntKind.i64.wrap (IntKind.i64.wrap (IntKind.i64.wrap (0+p)+q)+r):=rfl
      rw [e1,e2,wrap_id (p*a) (by omega) (by omega),wrap_id (q*b) (by omega) (by omega),wrap_id (r*d) (by omega) (by omega),wrap_id (0+p*a) (by omega) (by omega),wrap_id (0+p*a+q*b) (by omega) (by omega),wrap_id _ (by omega) (by omega),wrap_id (0+p) (by omega) (by omega),wrap_id (0+p+q) (by omega) (by omega),wrap_id _ (by omega) (by omega)]
      omega
  unfold meanW
  obtain ⟨k1,k2,k3⟩:=key
  have h1:0≤dotW l w / sumW w:=Int.ediv_nonneg k1 (by omega)
  have h2:dotW l w / sumW w≤100:=by
    have:=Int.ediv_le_ediv h0 k2
    rwa [Int.mul_ediv_cancel _ (by omega)] at this
  rw [Int.tdiv_eq_ediv_of_nonneg k1,wrap_id _ (by omega) (by omega)]
  exact ⟨h1,h2⟩
theorem in_bd (hv:c.Valid) {l:List Int} (h:listedK c l=true):∀x∈l,0≤x∧x≤100:=by
  obtain ⟨h1,h2⟩:=listed_in.1 h
  intro x hx
  obtain ⟨i,hi,rfl⟩:=List.getElem_of_mem hx
  have:=h2 i hi
  have hh:=hv.heap _ (getD_mem (d:=default) (show i<c.heaps.length by omega))
  rw [getD_lt _ _ _ hi] at this
  omega
theorem wide_mem {t:Nat}:∀{ss:List Str} {r:Rg},(ss.foldl (wideC c t) r).lo≤r.lo∧r.hi≤(ss.foldl (wideC c t) r).hi∧(∀s∈ss,(ss.foldl (wideC c t) r).lo≤ofK c s.l t∧ofK c s.l t≤(ss.foldl (wideC c t) r).hi)∧((ss.foldl (wideC c t) r).lo=r.lo∨∃s∈ss,(ss.foldl (wideC c t) r).lo=ofK c s.l t)∧((ss.foldl (wideC c t) r).hi=r.hi∨∃s∈ss,(ss.foldl (wideC c t) r).hi=ofK c s.l t)
  | [],r=>⟨Int.le_refl _,Int.le_refl _,fun s hs=>(by cases hs),.inl rfl,.inl rfl⟩
  | s::ss,r=>by
    obtain ⟨a,b,d,e,f⟩:=wide_mem (t:=t) (ss:=ss) (r:=wideC c t r s)
    rw [List.foldl_cons]
    generalize ss.foldl (wideC c t) (wideC c t r s)=R at *
    simp only [wideC] at a b e f
    refine ⟨by clear d e f;omega,by clear d e f;omega,?_,?_,?_⟩
    · intro s' hs'
      clear e f
      rcases List.mem_cons.1 hs' with rfl | hs'
      · clear d;omega
      · exact d s' hs'
    · clear f
      rcases e with e | ⟨s',h1,h2⟩
      · by_cases h:r.lo≤ofK c s.l t
        · exact .inl (by clear d;omega)
        · exact .inr ⟨s,by simp,by clear d;omega⟩
      · exact .inr ⟨s',by simp [h1],h2⟩
    · clear e
      rcases f with e | ⟨s',h1,h2⟩
      · by_cases h:ofK c s.l t≤r.hi
        · exact .inl (by clear d;omega)
        · exact .inr ⟨s,by simp,by clear d;omega⟩
      · exact .inr ⟨s',by simp [h1],h2⟩
theorem cask_bd (hv:c.Valid) (hne:truthsC c≠[]) {k:Nat} (hk:k<c.casks.length) :
    0≤(bdsC c (c.heaps.length+k)).lo∧(bdsC c (c.heaps.length+k)).lo≤(bdsC c (c.heaps.length+k)).hi∧(bdsC c (c.heaps.length+k)).hi≤100 ∧
    ∀l,listedK c l=true→rightC c l=true→(bdsC c (c.heaps.length+k)).lo≤meanW (padK l) (c.casks.getD k default)∧meanW (padK l) (c.casks.getD k default)≤(bdsC c (c.heaps.length+k)).hi:=by
  have h3:=hv.n3
  have hl1:0<(truthsC c).length:=List.length_pos_iff.2 hne
  have hc:=hv.cask _ (getD_mem (d:=default) hk)
  have hof:∀l,ofK c (padK l) (c.heaps.length+k)=meanW (padK l) (c.casks.getD k default):=by
    intro l;unfold ofK;rw [if_neg (by omega),Nat.add_sub_cancel_left]
  have hval:∀s∈truthsC c,0≤ofK c s.l (c.heaps.length+k)∧ofK c s.l (c.heaps.length+k)≤100:=by
    intro s hs
    obtain ⟨l,h1,h2,rfl⟩:=(mem_truthsC hv).1 hs
    have hl:=(listed_in.1 h1).1
    rw [strOf_l,hof,mean_pad (by omega) (by omega)]
    exact mean_bd (by omega) (by omega) hc.2.1 hc.2.2 (in_bd hv h1)
  have hf:=getD_mem (d:=default) hl1
  have v0:=hval _ hf
  obtain ⟨a,b,d,e,f⟩:=wide_mem (c:=c) (t:=c.heaps.length+k) (ss:=truthsC c) (r:=startC c (c.heaps.length+k))
  have hb:(truthsC c).foldl (wideC c (c.heaps.length+k)) (startC c (c.heaps.length+k))=bdsC c (c.heaps.length+k):=rfl
  rw [hb] at a b d e f
  simp only [startC] at a b e f
  refine ⟨?_,by clear e f d;omega,?_,?_⟩
  · clear f
    rcases e with e | ⟨s,h1,h2⟩
    · omega
    · have:=hval s h1;omega
  · clear e
    rcases f with e | ⟨s,h1,h2⟩
    · omega
    · have:=hval s h1;omega
  · intro l h1 h2
    have:=d _ ((mem_truthsC hv).2 ⟨l,h1,h2,rfl⟩)
    rw [strOf_l,hof] at this
    exact this
theorem ask_nil (hv:c.Valid) (h0:checkCell c=0):(askC c=0∧truthsC c≠[])∨(askC c=11∧truthsQ c (manyQ c.heaps)=[]):=by
  unfold askC
  rw [if_neg (by simp [h0])]
  by_cases h:truthsC c=[]
  · rw [if_pos h];exact .inr ⟨rfl,(truths_nil hv).1 h⟩
  · rw [if_neg h];exact .inl ⟨rfl,h⟩
end Am.Vt
