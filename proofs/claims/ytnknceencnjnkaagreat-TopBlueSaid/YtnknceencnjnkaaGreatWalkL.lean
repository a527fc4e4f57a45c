/-
  A part of the proof: the texts K7, K8, K9, K10, K11 of this seat, joined.
-/
import Derived.Test.YtnknceencnjnkaaGreatWalkK
import Derived.Test.YtnknceencnjnkaaGreatWalkA
import Derived.Test.YtnknceencnjnkaaGreatAmK
namespace Am.Vt
open Go Am
set_option maxRecDepth 100000
set_option maxHeartbeats 4000000
set_option linter.unusedSimpArgs false
set_option linter.unusedVariables false
variable {g1 g2 g3:Bool × Bool} {c:Cellar}
variable {σ:Type} {own:Nat→Prop} {F:C} {R RS:σ→List Obj→Prop} {step:σ→List Int→σ × Bool}
def KYield (c:Cellar) (N:Nat) (C0:σ→List Int→Prop) (own:Nat→Prop) (F:C) (R RS:σ→List Obj→Prop) (step:σ→List Int→σ × Bool):Prop:=
  ∀s H l,N≤H.length→C0 s l→l.length=c.heaps.length→InR c.heaps l→R s H→CallV tab (.c F) [.agg [.int .i64 (l.getD 0 0),.int .i64 (l.getD 1 0),.int .i64 (l.getD 2 0)]] H fun v H'=>v = .c (.bool (step s l).2)∧Keep own H H'∧(((step s l).2=true∧R (step s l).1 H')∨((step s l).2=false∧RS (step s l).1 H'))
def stepR (c:Cellar) (step:σ→List Int→σ × Bool) (s:σ) (l:List Int):σ × Bool:=if rightC c (padK l) then step s l else (s,true)
def fill (n:Nat) (l:List Int):List Int:=l++List.replicate (3-n) 0
theorem fill_pad {n:Nat} {l:List Int} (h:l.length=n) (h3:n≤3):fill n l=[l.getD 0 0,l.getD 1 0,l.getD 2 0]:=by
  subst h
  match l,h3 with
  | [],_=>rfl
  | [_],_=>rfl
  | [_,_],_=>rfl
  | [_,_,_],_=>rfl
theorem kchoose_ok (hv:c.Valid) {oo:Nat}
    (hoo:¬own oo) (hR:∀s H H',R s H→Keep (fun o=>o=oo) H H'→R s H') {N:Nat} {C0:σ→List Int→Prop} (hF:KYield c N C0 own F R RS step) {lb yb ob cb:Nat} (ol:¬own lb) (oy:¬own yb) (op:¬own ob) (oc:¬own cb) :
    ∀(rem i:Nat) (w:List Int) (s:σ) (H:List Obj),N≤H.length→FoldC (fun s l=>rightC c (padK l)=true→C0 s l) (stepR c step) s (listsF (c.heaps.drop i) (w.take i))→i+rem=c.heaps.length→w.length=c.heaps.length→InR c.heaps (w.take i)→R s H→getH H oo = .cells ((fill c.heaps.length w).map (C.int .i64)) →
      getH H lb = .cells (cellC g1 g2 g3 c)→getH H yb = .cells [F]→getH H ob = .cells [.nils]→getH H cb = .cells [.fn 95 false [] [.ptr lb 0,.ptr oo 0,.ptr ob 0,.ptr yb 0,.ptr cb 0]] →
      Fn tab (.f 95 [.c (.int .i64 i),.c (.ptr lb 0),.c (.ptr oo 0),.c (.ptr ob 0),.c (.ptr yb 0),.c (.ptr cb 0)] H) fun v H'=>v = .c (.bool (foldY (stepR c step) s (listsF (c.heaps.drop i) (w.take i))).2)∧Keep (fun o=>own o∨o=oo) H H' ∧
        (((foldY (stepR c step) s (listsF (c.heaps.drop i) (w.take i))).2=true∧R (foldY (stepR c step) s (listsF (c.heaps.drop i) (w.take i))).1 H'∧∃w':List Int,getH H' oo = .cells ((fill c.heaps.length w').map (C.int .i64))∧w'.length=c.heaps.length∧w'.take i=w.take i) ∨
         ((foldY (stepR c step) s (listsF (c.heaps.drop i) (w.take i))).2=false∧RS (foldY (stepR c step) s (listsF (c.heaps.drop i) (w.take i))).1 H'))
  | 0,i,w,s,H,hN,hC,hi,hw,hin,hRs,hg,h1,h2,h3,h4=>by
    have hil:i=c.heaps.length:=by omega
    have hn3:=hv.n3
    subst hil
    have ht:w.take c.heaps.length=w:=List.take_of_length_le (by omega)
    rw [ht] at hin ⊢
    rw [ht,List.drop_length] at hC
    rw [List.drop_length]
    have e:foldY (stepR c step) s (listsF [] w)=stepR c step s w:=by
      simp only [listsF,foldY]
      split
      · rename_i h;rw [←h]
      · rename_i h;rw [←(Bool.not_eq_true _ ▸ h:(stepR c step s w).2=false)]
    rw [e]
    rw [fill_pad hw hn3] at hg
    simp only [List.map_cons,List.map_nil] at hg
    refine Fn_X (fn:=f95) rfl rfl ?_
    cases hr:rightC c (padK w) with
    | false=>
      have hs:stepR c step s w=(s,true):=by simp only [stepR,hr,Bool.false_eq_true,if_false]
      rw [hs]
      simp only [go_sem,f95,h1,h2,h3,hg,kright hv,show rightC c [w.getD 0 0,w.getD 1 0,w.getD 2 0]=false from hr]
      refine ⟨Keep.refl,.inl ⟨hRs,w,?_,hw,ht⟩⟩
      rw [fill_pad hw hn3];rfl
    | true=>
      have hs:stepR c step s w=step s w:=by simp only [stepR,hr,if_true]
      rw [hs]
      simp only [go_sem,f95,h1,h2,h3,hg,kright hv,show rightC c [w.getD 0 0,w.getD 1 0,w.getD 2 0]=true from hr]
      refine (hF s H w hN (hC.1 hr) hw hin hRs).mono ?_
      rintro v H' ⟨rfl,hk,hr⟩
      simp only [go_sem]
      have hk':Keep (fun o=>own o∨o=oo) H H':=⟨hk.1,fun o ho hl=>hk.2 o (fun h=>ho (.inl h)) hl⟩
      have hg':=hk.get hoo hg (by simp)
      rcases hr with ⟨a,b⟩ | ⟨a,b⟩
      · exact ⟨hk',.inl ⟨a,b,w,by rw [fill_pad hw hn3];exact hg',hw,ht⟩⟩
      · exact ⟨hk',.inr ⟨a,b⟩⟩
  | rem+1,i,w,s,H,hN,hC,hi,hw,hin,hRs,hg,h1,h2,h3,h4=>by
    have hil:i<c.heaps.length:=by omega
    have hn3:=hv.n3
    have hne:¬(i:Int)=c.heaps.length:=by omega
    have i0:(0:Int)≤i:=by omega
    have i1:(i:Int)<c.heaps.length:=by omega
    have i3:(i:Int)<3:=by omega
    obtain ⟨r,hr⟩:∃r,r=c.heaps.getD i default:=⟨_,rfl⟩
    have hdrop:c.heaps.drop i=r::c.heaps.drop (i+1):=by
      rw [List.drop_eq_getElem_cons hil,hr,getD_lt _ _ _ hil]
    obtain ⟨r1,r2,r3⟩:=hv.heap r (by rw [hr,getD_lt _ _ _ hil];exact List.getElem_mem hil)
    have hat:atI c.heaps (i:Int)=r:=by rw [atI_nat,hr]
    have hsz:sizeI r.lo r.hi=((r.hi+1-r.lo).toNat:Nat):=by
      unfold sizeI
      rw [wrapB (n:=r.hi-r.lo) (by omega) (by omega),wrapB (by omega) (by omega)]
      omega
    obtain ⟨m,hm⟩:∃m,m=(r.hi+1-r.lo).toNat:=⟨_,rfl⟩
    rw [←hm] at hsz
    have hdl:∀v,listsF (c.heaps.drop i) v=(List.range m).flatMap fun (n:Nat)=>listsF (c.heaps.drop (i+1)) (v++[r.lo+(n:Int)]):=fun v=>by rw [hdrop,listsF,hm]
    rw [hdl] at hC ⊢
    refine Fn_X (fn:=f95) rfl rfl ?_
    have hm2:m≤200001:=by omega
    let gg:=fun (n:Nat)=>listsF (c.heaps.drop (i+1)) (w.take i++[r.lo+(n:Int)])
    simp only [go_sem,f95,h1,hne,i0,i1,hat,ksize,hsz]
    refine RX_whileU (α:=Nat × σ × List Obj × List Int) (fun x=>[(30,.c (.int .i64 x.1))]) (fun x=>x.2.2.1) (fun x=>x.1≤m∧Keep (fun o=>own o∨o=oo) H x.2.2.1∧R x.2.1 x.2.2.1∧getH x.2.2.1 oo = .cells ((fill c.heaps.length x.2.2.2).map (C.int .i64))∧x.2.2.2.length=c.heaps.length∧x.2.2.2.take i=w.take i∧foldY (stepR c step) s ((List.range x.1).flatMap gg)=(x.2.1,true)) (fun x=>m-x.1) (0,s,H,w) ⟨Nat.zero_le _,Keep.refl,hRs,hg,hw,rfl,rfl⟩ (by simp only [go_sem]<;>rfl) ?_
    rintro ⟨k,s',H',w'⟩ ⟨hk1,hK,hR',hg',hw',ht',hf⟩
    simp only at hk1 hK hR' hg' hw' ht' hf
    have own':∀{o},¬own o→o≠oo→¬(own o∨o=oo):=fun h h' h2=>h2.elim h h'
    have nl:lb≠oo:=by
      rintro rfl;rw [h1,fill_pad hw hn3] at hg
      injection hg with hg;injection hg with hg _
      unfold L at hg;split at hg<;>cases hg
    have ny:yb≠oo:=by rintro rfl;rw [h2,fill_pad hw hn3] at hg;cases hg
    have no:ob≠oo:=by rintro rfl;rw [h3,fill_pad hw hn3] at hg;cases hg
    have nc:cb≠oo:=by rintro rfl;rw [h4,fill_pad hw hn3] at hg;cases hg
    have j1:=hK.get (own' ol nl) h1 (by simp)
    have j2:=hK.get (own' oy ny) h2 (by simp)
    have j3:=hK.get (own' op no) h3 (by simp)
    have j4:=hK.get (own' oc nc) h4 (by simp)
    by_cases hk:k<m
    · have hiw:i<w'.length:=by omega
      have loo:=lt_of_getH (h:=H') (o:=oo) (by rw [hg'];simp)
      have hkm:(k:Int)<m:=by omega
      have e1:IntKind.i64.wrap (r.lo+k)=r.lo+k:=wrapB (by omega) (by omega)
      have e2:IntKind.i64.wrap ((k:Int)+1)=((k+1:Nat):Int):=wrap_succ (n:=1000000) (by omega) (by decide)
      have e3:IntKind.i64.wrap ((i:Int)+1)=((i+1:Nat):Int):=wrap_succ (n:=1000000) (by omega) (by decide)
      have keep:∀o x v,o≠oo→getH H' o=v→getH (setH H' oo x) o=v:=fun o x v ho hv=>by rw [getH_setH,if_neg (fun h=>ho h.1),hv]
      have hw2:(w'.set i (r.lo+k)).length=c.heaps.length:=by rw [List.length_set];exact hw'
      have ht2:(w'.set i (r.lo+k)).take i=w.take i:=by rw [List.take_set_of_le (Nat.le_refl _)];exact ht'
      have ht3:(w'.set i (r.lo+k)).take (i+1)=w.take i++[r.lo+k]:=by
        rw [take_getD (by omega) default,ht2];congr 2;rw [getD_lt _ _ _ (by omega)];simp
      have hfill:fill c.heaps.length (w'.set i (r.lo+k))=(fill c.heaps.length w').set i (r.lo+k):=by
        unfold fill;rw [List.set_append_left _ _ hiw]
      have hH2:Keep (fun o=>o=oo) H' (setH H' oo (.cells ((fill c.heaps.length (w'.set i (r.lo+k))).map (C.int .i64)))):=⟨by rw [length_setH];exact Nat.le_refl _,fun o ho hl=>by rw [getH_setH,if_neg (fun h=>ho h.1)]⟩
      have hK2:Keep (fun o=>own o∨o=oo) H (setH H' oo (.cells ((fill c.heaps.length (w'.set i (r.lo+k))).map (C.int .i64)))):=hK.trans ⟨hH2.1,fun o ho hl=>hH2.2 o (fun h=>ho (.inr h)) hl⟩
      have hR2:=hR s' _ _ hR' hH2
      have hgp:getH (setH H' oo (.cells ((fill c.heaps.length (w'.set i (r.lo+k))).map (C.int .i64)))) oo = .cells ((fill c.heaps.length (w'.set i (r.lo+k))).map (C.int .i64)):=by rw [getH_setH,if_pos ⟨rfl,loo⟩]
      have j4':=fun x=>keep cb x _ nc j4
      have nl':¬oo=lb:=fun h=>nl h.symm
      have nc':¬oo=cb:=fun h=>nc h.symm
      have no':¬oo=ob:=fun h=>no h.symm
      have hsp:splice i [C.int .i64 (r.lo+(k:Int))] ((fill c.heaps.length w').map (C.int .i64))=some ((fill c.heaps.length (w'.set i (r.lo+k))).map (C.int .i64)):=by
        rw [hfill,fill_pad hw' hn3]
        have:i=0∨i=1∨i=2:=by omega
        clear hfill hgp hR2 hK2 hH2 ht3 ht2 hw2 e3
        rcases this with rfl | rfl | rfl<;>rfl
      simp only [go_sem,hkm,j1,j3,j4,j4',hg',i0,i1,i3,hat,e1,e3,hsp,nl,nl',nc,nc',no,no']
      have hCk:FoldC (fun s l=>rightC c (padK l)=true→C0 s l) (stepR c step) s' (gg k):=by
        have e1:List.range m=List.range k++(k::(List.range m).drop (k+1)):=by
          have:=List.take_append_drop k (List.range m)
          rw [List.take_range,Nat.min_eq_left (by omega),List.drop_eq_getElem_cons (by simp;omega)] at this
          simpa using this.symm
        have hC':FoldC (fun s l=>rightC c (padK l)=true→C0 s l) (stepR c step) s ((List.range m).flatMap gg):=hC
        rw [e1,List.flatMap_append] at hC'
        have:=(FoldC_append hC').2 (by rw [hf])
        rw [hf] at this
        rw [List.flatMap_cons] at this
        exact (FoldC_append this).1
      refine (kchoose_ok hv hoo hR hF ol oy op oc rem (i+1) (w'.set i (r.lo+k)) s' _ (by rw [length_setH];have:=hK.1;omega) (by rw [ht3];exact hCk) (by omega) hw2 ?_ hR2 hgp (keep lb _ _ nl j1) (keep yb _ _ ny j2) (keep ob _ _ no j3) (j4' _)).mono ?_
      · rw [ht3]
        refine hin.snoc ?_
        rw [List.length_take,Nat.min_eq_left (by omega),←hr]
        omega
      rintro v H3 ⟨rfl,hk3,hr3⟩
      rw [ht3] at hr3 ⊢
      change ((foldY (stepR c step) s' (gg k)).2=true∧_)∨((foldY (stepR c step) s' (gg k)).2=false∧_) at hr3
      have hfk:∀b,foldY (stepR c step) s' (gg k)=b→foldY (stepR c step) s ((List.range (k+1)).flatMap gg)=b:=by
        intro b hb
        rw [List.range_succ,List.flatMap_append,foldY_append,hf]
        simp only [if_true,List.flatMap_cons,List.flatMap_nil,List.append_nil]
        exact hb
      rcases hr3 with ⟨hb,hr3,w3,hg3,hw3,ht4⟩ | ⟨hb,hr3⟩
      · have hb':(foldY (stepR c step) s' (listsF (c.heaps.drop (i+1)) (w.take i++[r.lo+(k:Int)]))).2=true:=hb
        simp only [go_sem,hb',e2]
        refine ⟨(k+1,_,H3,w3),⟨by simp only;omega,hk,hK2.trans hk3,hr3,hg3,hw3,?_,?_⟩,rfl,rfl⟩
        · have:=congrArg (List.take i) ht4
          rw [List.take_take,Nat.min_eq_left (by omega),List.take_append_of_le_length (by simp;omega),List.take_take,Nat.min_self] at this
          exact this
        · rw [hfk _ rfl];exact Prod.ext rfl hb
      · have hb':(foldY (stepR c step) s' (listsF (c.heaps.drop (i+1)) (w.take i++[r.lo+(k:Int)]))).2=false:=hb
        simp only [go_sem,hb']
        have hstop:foldY (stepR c step) s ((List.range m).flatMap gg)=((foldY (stepR c step) s' (gg k)).1,false):=by
          have e1:List.range m=List.range (k+1)++(List.range m).drop (k+1):=by
            have:=List.take_append_drop (k+1) (List.range m)
            rw [List.take_range,Nat.min_eq_left (by omega)] at this
            exact this.symm
          rw [e1,List.flatMap_append,foldY_append,hfk _ rfl,if_neg (by rw [hb];decide)]
        have hstop':foldY (stepR c step) s ((List.range m).flatMap fun (n:Nat)=>listsF (c.heaps.drop (i+1)) (w.take i++[r.lo+(n:Int)]))=((foldY (stepR c step) s' (gg k)).1,false):=hstop
        rw [hstop']
        exact ⟨rfl,hK2.trans hk3,.inr ⟨rfl,hr3⟩⟩
    · have:k=m:=by omega
      subst this
      have hf':foldY (stepR c step) s ((List.range k).flatMap fun (n:Nat)=>listsF (c.heaps.drop (i+1)) (w.take i++[r.lo+(n:Int)]))=(s',true):=hf
      have hkk:¬(k:Int)<k:=by omega
      simp only [go_sem,hkk,hf']
      exact ⟨hK,.inl ⟨hR',w',hg',hw',ht'⟩⟩
end Am.Vt
namespace Am.Vt
open Go Am
set_option maxRecDepth 100000
set_option maxHeartbeats 4000000
set_option linter.unusedSimpArgs false
set_option linter.unusedVariables false
variable {g1 g2 g3:Bool × Bool} {c:Cellar}
section
variable {σ:Type} {own:Nat→Prop} {F:C} {R RS:σ→List Obj→Prop} {step:σ→List Int→σ × Bool} {C0:σ→List Int→Prop} {n cb ob:Nat}
theorem ktruths1_ok (hv:c.Valid) {H:List Obj} (hkn:known [F]=true) (h1:¬own cb) (h2:¬own ob) (hown:∀o,H.length≤o→o<H.length+3→¬own o)
    (hR:∀s H0 H',R s H0→Keep (fun o=>o=H.length+1) H0 H'→R s H') (hF:KYield c (H.length+3) C0 own F R RS step)
    (hcb:getH H cb = .cells (cellC g1 g2 g3 c)) (hob:getH H ob = .cells [.nils]) {s:σ} (hRs:R s H) (hC:FoldC (fun s l=>rightC c (padK l)=true→C0 s l) (stepR c step) s (listsF c.heaps [])) :
    Fn tab (.f 94 [.c F,.c (.ptr cb 0),.c (.ptr ob 0)] H) fun _ H'=>Keep own H H'∧(((foldY (stepR c step) s (listsF c.heaps [])).2=true∧R (foldY (stepR c step) s (listsF c.heaps [])).1 H')∨((foldY (stepR c step) s (listsF c.heaps [])).2=false∧RS (foldY (stepR c step) s (listsF c.heaps [])).1 H')):=by
  refine Fn_X (fn:=f94) rfl rfl ?_
  have lcb:=lt_of_getH (h:=H) (o:=cb) (by rw [hcb];simp)
  have lob:=lt_of_getH (h:=H) (o:=ob) (by rw [hob];simp)
  have n3:=hv.n3
  simp only [go_sem,f94,hkn]
  have hf:fill c.heaps.length (List.replicate c.heaps.length 0)=[0,0,0]:=by
    unfold fill;rw [List.replicate_append_replicate,show c.heaps.length+(3-c.heaps.length)=3 by omega];rfl
  have key:=kchoose_ok (g1:=g1) (g2:=g2) (g3:=g3) hv (oo:=H.length+1) (hown _ (by omega) (by omega)) hR hF (lb:=cb) (yb:=H.length) (ob:=ob) (cb:=H.length+2) h1 (hown H.length (Nat.le_refl _) (by omega)) h2 (hown (H.length+2) (by omega) (by omega)) c.heaps.length 0 (List.replicate c.heaps.length 0) s
    (H++[.cells [F],.cells [.int .i64 0,.int .i64 0,.int .i64 0],.cells [.fn 95 false [] [.ptr cb 0,.ptr (H.length+1) 0,.ptr ob 0,.ptr H.length 0,.ptr (H.length+2) 0]]])
    (by simp) (by rw [List.drop_zero,List.take_zero];exact hC) (by omega) (by simp) (fun i hi=>by simp at hi) (hR _ _ _ hRs Keep.append) (by rw [hf];simp only [go_sem];try rfl) (getH_keep hcb (by simp)) (by simp only [go_sem]) (getH_keep hob (by simp)) (by simp only [go_sem])
  refine key.mono ?_
  rintro v H' ⟨rfl,hk,hr⟩
  simp only [go_sem]
  rw [List.drop_zero,List.take_zero] at hr
  refine ⟨⟨?_,fun o ho hl=>?_⟩,?_⟩
  · have:=hk.1;simp at this;omega
  · rw [hk.2 o (fun h=>h.elim ho (by omega)) (by simp;omega),getH_left hl]
  · rcases hr with ⟨a,b,_⟩ | h
    · exact .inl ⟨a,b⟩
    · exact .inr h
end
theorem Fktruths {H:List Obj} {Q:V→List Obj→Prop}:Fn tab (.f 59 [cellV g1 g2 g3 c,.c .nils] H) Q↔Q (.c (.fn 94 false [] [.ptr H.length 0,.ptr (H.length+1) 0])) (H++[.cells (cellC g1 g2 g3 c),.cells [.nils]]):=by
  refine Fn_iff (Fn_X (fn:=f59) rfl rfl ?_)
  simp only [go_sem,f59]
structure Str where
  a:Int
  b:Int
  d:Int
  deriving Inhabited,DecidableEq
instance : Row Str:=⟨3,fun s=>[.int .i64 s.a,.int .i64 s.b,.int .i64 s.d],fun _=>rfl⟩
@[go_sem] theorem sz_str : Row.sz Str=3:=rfl
@[go_sem] theorem row_str {s:Str}:Row.row s=[.int .i64 s.a,.int .i64 s.b,.int .i64 s.d]:=rfl
instance : Scal Str:=⟨fun _=>rfl⟩
def strOf (l:List Int):Str:=⟨l.getD 0 0,l.getD 1 0,l.getD 2 0⟩
def addT (s:List Str) (x:Str):List Str:=if s=[]∨s.getD (s.length-1) default≠x then s++[x] else s
def askStep (s:List Str) (l:List Int):List Str × Bool:=(addT s (strOf l),true)
def askAssign : ACode:=(.region 1 [] [
        ⟨(some 8),.alloc [(.int .i64 0),(.int .i64 0),(.int .i64 0)],none,0⟩,
        ⟨none,.store (some 3) (.tmp 8) (.tmp 24),none,1⟩])
def askBody : ACode:=(.block 2 (.seq (.region 0 [(7,11),(8,11),(9,11),(10,11),(7,12),(8,12),(9,12),(10,12),(7,13),(8,13),(9,13),(10,13),(7,14),(8,14),(9,14),(10,14),(7,15),(8,15),(9,15),(10,15),(7,16),(8,16),(9,16),(10,16),(7,19),(8,19),(9,19),(10,19),(11,19),(12,19),(13,19),(14,19),(15,19),(16,19),(17,19),(18,19)] [
          ⟨(some 25),.load none (.tmp 7),none,0⟩,
          ⟨(some 26),.nilchk (.tmp 25),none,0⟩,
          ⟨(some 27),.faddr 3 (.tmp 26),none,0⟩,
          ⟨(some 28),.load none (.tmp 27),none,0⟩,
          ⟨(some 29),.len (.tmp 28),none,0⟩,
          ⟨(some 30),.bin .eql (.tmp 29) (.cst (.c (.int .i64 0))),none,0⟩,
          ⟨(some 31),.mov (.tmp 30),none,0⟩,
          ⟨(some 32),.load none (.tmp 7),some (31,false),0⟩,
          ⟨(some 33),.nilchk (.tmp 32),some (31,false),0⟩,
          ⟨(some 34),.faddr 3 (.tmp 33),some (31,false),0⟩,
          ⟨(some 35),.load none (.tmp 34),some (31,false),0⟩,
          ⟨(some 36),.load none (.tmp 7),some (31,false),0⟩,
          ⟨(some 37),.nilchk (.tmp 36),some (31,false),0⟩,
          ⟨(some 38),.faddr 3 (.tmp 37),some (31,false),0⟩,
          ⟨(some 39),.load none (.tmp 38),some (31,false),0⟩,
          ⟨(some 40),.len (.tmp 39),some (31,false),0⟩,
          ⟨(some 41),.bin .sub (.tmp 40) (.cst (.c (.int .i64 1))),some (31,false),0⟩,
          ⟨(some 42),.iaddr 3 (.tmp 35) (.tmp 41),some (31,false),0⟩,
          ⟨(some 43),.load (some 3) (.tmp 42),some (31,false),0⟩,
          ⟨(some 44),.load (some 3) (.tmp 8),some (31,false),0⟩,
          ⟨(some 45),.eqA true [(some .i64),(some .i64),(some .i64)] (.tmp 43) (.tmp 44),some (31,false),0⟩,
          ⟨(some 46),.pick (.tmp 31) (.cst (.c (.bool true))) (.tmp 45),none,0⟩])
        (.cond (.tmp 46)
          (.region 2 [(0,1),(0,2),(0,3),(0,4),(0,5),(1,5),(2,5),(3,5),(4,5),(0,6),(1,6),(2,6),(3,6),(4,6),(0,7)] [
            ⟨(some 47),.load none (.tmp 7),none,0⟩,
            ⟨(some 48),.load none (.tmp 7),none,0⟩,
            ⟨(some 49),.nilchk (.tmp 48),none,0⟩,
            ⟨(some 50),.faddr 3 (.tmp 49),none,0⟩,
            ⟨(some 51),.load none (.tmp 50),none,0⟩,
            ⟨(some 52),.load (some 3) (.tmp 8),none,0⟩,
            ⟨(some 53),.bslice 3 1 [(.int .i64 0),(.int .i64 0),(.int .i64 0)] [(0,(.tmp 52))],none,0⟩,
            ⟨(some 54),.append 3 24 (.tmp 51) (.tmp 53),none,1⟩,
            ⟨(some 55),.nilchk (.tmp 47),none,2⟩,
            ⟨(some 56),.faddr 3 (.tmp 55),none,2⟩,
            ⟨none,.store none (.tmp 56) (.tmp 54),none,2⟩])
          .skip)))
structure aR (g1 g2 g3:Bool × Bool) (c:Cellar) (n:Nat) (lp:ALoop) (s:List Str) (H:List Obj):Prop where
  w:∃tc,getH H (n+1) = .cells [L g1 c.heaps,L g2 c.casks,L g3 c.trials,tc]∧((s=[]∧tc = .nils)∨(s≠[]∧∃ao ver,n+9≤ao∧tc = .sl ao ver 0 s.length∧getH H ao = .arr false ver 3 (s.map Row.row)))
  p:getH H (n+2) = .cells [.ptr (n+1) 0]
  lp:getH H (n+5) = .loop lp
abbrev aOwn (n:Nat) (o:Nat):Prop:=o=n+1∨o=n+5∨n+9≤o
theorem ask_yield {n:Nat} {lp:ALoop} {vs:List V} (hvs:vs=List.replicate 39 (.c .any)) {v0 v1 v2 v3 v4 v5 v6 v8 v9 v10 v11 v12 v13 v14 v15 v16 v17 v18 v19 v20 v21 v22 v23 v24:V}
    (hlp:lp=⟨.ready,.normal,[v0,v1,v2,v3,v4,v5,v6,.c (.ptr (n+2) 0),v8,v9,v10,v11,v12,v13,v14,v15,v16,v17,v18,v19,v20,v21,v22,v23,v24]++vs,[24],askAssign,askBody⟩) :
    KYield c (n+9) (fun s _=>s.length<2000000) (aOwn n) (.yld (n+5)) (aR g1 g2 g3 c n lp) (fun _ _=>False) askStep:=by
  subst hvs
  intro s H l hlen hC hl hin hR
  rw [CallV_y]
  have l5:=lt_of_getH (h:=H) (o:=n+5) (by rw [hR.lp];simp)
  refine Fn_y hR.lp (by rw [hlp];rfl) ?_
  rw [show lp.assign=askAssign by rw [hlp],show lp.params=[24] by rw [hlp],show lp.slots=_ by rw [hlp]]
  have k0:n+1<H.length:=by omega
  have k1:n+2<H.length:=by omega
  have k2:n+5<H.length:=by omega
  simp only [go_sem,setParams,assignX,askAssign,hR.lp,getH_left,k0,k1,k2]
  refine ⟨lp,rfl,by rw [hlp],rfl,?_⟩
  generalize hlb:ALoop.mk .busy _ _ _ _ _=lb
  rw [show lp.body=askBody by rw [hlp]]
  have hlb1:∀l:ALoop,Obj.loop lb = .loop l→({ l with state:=.ready,pending:=.normal }:ALoop)=lp:=fun l h=>by cases h;rw [←hlb,hlp]
  clear hlb
  obtain ⟨H1,hH1⟩:∃H1,H1=setH (H++[.cells [.int .i64 (l.getD 0 0),.int .i64 (l.getD 1 0),.int .i64 (l.getD 2 0)]]) (n+5) (.loop lb):=⟨_,rfl⟩
  rw [←hH1]
  have len:H1.length=H.length+1:=by rw [hH1,length_setH];simp
  have g':∀o,o≠n+5→o<H.length→getH H1 o=getH H o:=fun o ho hl=>by rw [hH1,getH_setH,if_neg (fun h=>ho h.1),getH_left hl]
  obtain ⟨tc,e1,e2⟩:=hR.w
  have e1:=(g' (n+1) (by omega) (by omega)).trans e1
  have e0:=(g' (n+2) (by omega) (by omega)).trans hR.p
  have e5:getH H1 (n+5) = .loop lb:=by rw [hH1,getH_setH,if_pos ⟨rfl,by simp;omega⟩]
  have e8:getH H1 H.length = .cells [.int .i64 (l.getD 0 0),.int .i64 (l.getD 1 0),.int .i64 (l.getD 2 0)]:=by rw [hH1,getH_setH,if_neg (fun h=>by omega)];simp only [go_sem]
  have hq:=hlb1 lb rfl
  have hKb:∀X o,o<H.length→¬aOwn n o→getH (H1++X) o=getH H o:=fun X o hl ho=>by rw [getH_left (by omega),g' o (fun h=>ho (.inr (.inl h))) hl]
  clear hH1
  rcases e2 with ⟨rfl,rfl⟩ | ⟨hne,o,ver,e3,rfl,e2⟩
  · obtain ⟨p,hp⟩:∃p,p=H.length:=⟨_,rfl⟩
    rw [←hp] at e8
    rw [←hp]
    have k0:n+1<H1.length:=by omega
    have k1:n+2<H1.length:=by omega
    have k2:n+5<H1.length:=by omega
    have k3:p<H1.length:=by omega
    have z0:¬n+1=H1.length:=by omega
    have z1:¬H1.length=n+1:=by omega
    have z2:¬n+1=H1.length+1:=by omega
    have z3:¬H1.length+1=n+1:=by omega
    have z4:¬n+1=H1.length+2:=by omega
    have z5:¬H1.length+2=n+1:=by omega
    have z6:¬n+2=H1.length:=by omega
    have z7:¬H1.length=n+2:=by omega
    have z8:¬n+2=H1.length+1:=by omega
    have z9:¬H1.length+1=n+2:=by omega
    have z10:¬n+2=H1.length+2:=by omega
    have z11:¬H1.length+2=n+2:=by omega
    have z12:¬n+5=H1.length:=by omega
    have z13:¬H1.length=n+5:=by omega
    have z14:¬n+5=H1.length+1:=by omega
    have z15:¬H1.length+1=n+5:=by omega
    have z16:¬n+5=H1.length+2:=by omega
    have z17:¬H1.length+2=n+5:=by omega
    have z18:¬p=H1.length:=by omega
    have z19:¬H1.length=p:=by omega
    have z20:¬p=H1.length+1:=by omega
    have z21:¬H1.length+1=p:=by omega
    have z22:¬p=H1.length+2:=by omega
    have z23:¬H1.length+2=p:=by omega
    simp only [go_sem,askBody,getH_left,setH_left,getH_setH,length_setH,getH_atL,getH_atL0,setH_atL,setH_atL0,isHole_atL,isHole_atL0,disj_nil,k0,k1,k2,k3,z0,z1,z2,z3,z4,z5,z6,z7,z8,z9,z10,z11,z12,z13,z14,z15,z16,z17,z18,z19,z20,z21,z22,z23,e1,e0,e5,e8,bodyX]
    refine ⟨lb,rfl,rfl,⟨by simp [length_setH];omega,fun o ho hl=>?_⟩,.inl ⟨rfl,⟨_,?_,.inr ⟨by simp [askStep,addT],H1.length+1,0,by omega,rfl,?_⟩⟩,?_,?_⟩⟩
    · simp only [aOwn,not_or] at ho
      simp only [getH_left,length_setH,show o<H1.length by omega,getH_setH,ho,false_and,if_false]
      have:=hKb [] o hl (by simp only [aOwn,not_or];exact ho)
      rwa [List.append_nil] at this
    · simp only [go_sem,getH_left,length_setH,getH_setH,k0,k1,k2,k3,z0,z1,z2,z3,z4,z5,z6,z7,z8,z9,z10,z11,z12,z13,z14,z15,z16,z17,z18,z19,z20,z21,z22,z23,false_and]
      rfl
    · simp only [go_sem,getH_atL,getH_atL0,length_setH]
      rfl
    · simp only [go_sem,getH_left,length_setH,getH_setH,k0,k1,k2,k3,z0,z1,z2,z3,z4,z5,z6,z7,z8,z9,z10,z11,z12,z13,z14,z15,z16,z17,z18,z19,z20,z21,z22,z23,false_and,e0]
    · rw [hq]
      simp only [go_sem,getH_left,length_setH,getH_setH,k0,k1,k2,k3,z0,z1,z2,z3,z4,z5,z6,z7,z8,z9,z10,z11,z12,z13,z14,z15,z16,z17,z18,z19,z20,z21,z22,z23,false_and]
  · have e2:=(g' o (by omega) (by have:=lt_of_getH (h:=H) (o:=o) (by rw [e2];simp);exact this)).trans e2
    have lo:=lt_of_getH (h:=H1) (o:=o) (by rw [e2];simp)
    have hl1:0<s.length:=List.length_pos_iff.2 hne
    have hw1:IntKind.i64.wrap ((s.length:Int)-1)=((s.length-1:Nat):Int):=by rw [wrap_id _ (by omega) (by omega)];omega
    have hlt:s.length-1<s.length:=by omega
    have hn0:¬(s.length:Int)=0:=by omega
    have hi0:(0:Int)≤((s.length-1:Nat):Int):=by omega
    have hi1:((s.length-1:Nat):Int)<(s.length:Int):=by omega
    have y3:(s.length+1)*24≤2^40:=by omega
    obtain ⟨p,hp⟩:∃p,p=H.length:=⟨_,rfl⟩
    rw [←hp] at e8
    rw [←hp]
    have hop:o≠p:=by rintro rfl;rw [e8] at e2;cases e2
    have k0:n+1<H1.length:=by omega
    have k1:n+2<H1.length:=by omega
    have k2:n+5<H1.length:=by omega
    have k3:p<H1.length:=by omega
    have k4:o<H1.length:=by omega
    have z0:¬n+1=H1.length:=by omega
    have z1:¬H1.length=n+1:=by omega
    have z2:¬n+1=H1.length+1:=by omega
    have z3:¬H1.length+1=n+1:=by omega
    have z4:¬n+1=H1.length+2:=by omega
    have z5:¬H1.length+2=n+1:=by omega
    have z6:¬n+2=H1.length:=by omega
    have z7:¬H1.length=n+2:=by omega
    have z8:¬n+2=H1.length+1:=by omega
    have z9:¬H1.length+1=n+2:=by omega
    have z10:¬n+2=H1.length+2:=by omega
    have z11:¬H1.length+2=n+2:=by omega
    have z12:¬n+5=H1.length:=by omega
    have z13:¬H1.length=n+5:=by omega
    have z14:¬n+5=H1.length+1:=by omega
    have z15:¬H1.length+1=n+5:=by omega
    have z16:¬n+5=H1.length+2:=by omega
    have z17:¬H1.length+2=n+5:=by omega
    have z18:¬p=H1.length:=by omega
    have z19:¬H1.length=p:=by omega
    have z20:¬p=H1.length+1:=by omega
    have z21:¬H1.length+1=p:=by omega
    have z22:¬p=H1.length+2:=by omega
    have z23:¬H1.length+2=p:=by omega
    have z24:¬o=H1.length:=by omega
    have z25:¬H1.length=o:=by omega
    have z26:¬o=H1.length+1:=by omega
    have z27:¬H1.length+1=o:=by omega
    have z28:¬o=H1.length+2:=by omega
    have z29:¬H1.length+2=o:=by omega
    have w0:¬o=n+1:=by omega
    have w1:¬n+1=o:=by omega
    have w2:¬o=n+2:=by omega
    have w3:¬n+2=o:=by omega
    have w4:¬o=n+5:=by omega
    have w5:¬n+5=o:=by omega
    obtain ⟨⟨la,lb',ld⟩,hlast⟩:∃x,s.getD (s.length-1) default=x:=⟨_,rfl⟩
    have hnth:nth s (s.length-1)=some ⟨la,lb',ld⟩:=by rw [nth_get,List.getElem?_eq_getElem hlt,←hlast,getD_lt _ _ _ hlt]
    by_cases hx:la=l.getD 0 0∧lb'=l.getD 1 0∧ld=l.getD 2 0
    · have hb:(decide (la=l.getD 0 0)&&(decide (lb'=l.getD 1 0)&&decide (ld=l.getD 2 0)))=true:=by simp [hx.1,hx.2.1,hx.2.2]
      have hst:askStep s l=(s,true):=by
        unfold askStep addT
        rw [if_neg (fun h=>by rcases h with h | h;exact hne h;exact h (by rw [hlast,hx.1,hx.2.1,hx.2.2];rfl))]
      simp only [go_sem,askBody,getH_left,setH_left,getH_setH,length_setH,getH_atL,getH_atL0,setH_atL,setH_atL0,isHole_atL,isHole_atL0,disj_nil,k0,k1,k2,k3,k4,z0,z1,z2,z3,z4,z5,z6,z7,z8,z9,z10,z11,z12,z13,z14,z15,z16,z17,z18,z19,z20,z21,z22,z23,z24,z25,z26,z27,z28,z29,w0,w1,w2,w3,w4,w5,e1,e0,e5,e8,e2,bodyX,hw1,hlt,hn0,hi0,hi1,hnth,Option.map_some,row_str,hlast,y3,hb,hx,hst]
      refine ⟨lb,rfl,⟨by simp [length_setH];omega,fun o' ho hl=>?_⟩,.inl ⟨⟨_,?_,.inr ⟨hne,o,ver,e3,rfl,?_⟩⟩,?_,?_⟩⟩
      · simp only [aOwn,not_or] at ho
        have:=hKb [] o' hl (by simp only [aOwn,not_or];exact ho)
        rw [List.append_nil] at this
        rw [getH_setH,if_neg (fun h=>ho.2.1 h.1),this]
      · simp only [go_sem,getH_setH,k0,k1,k2,k3,k4,z0,z1,z2,z3,z4,z5,z6,z7,z8,z9,z10,z11,z12,z13,z14,z15,z16,z17,z18,z19,z20,z21,z22,z23,z24,z25,z26,z27,z28,z29,w0,w1,w2,w3,w4,w5,e1,false_and]
      · simp only [go_sem,getH_setH,k0,k1,k2,k3,k4,z0,z1,z2,z3,z4,z5,z6,z7,z8,z9,z10,z11,z12,z13,z14,z15,z16,z17,z18,z19,z20,z21,z22,z23,z24,z25,z26,z27,z28,z29,w0,w1,w2,w3,w4,w5,e2,false_and]
      · simp only [go_sem,getH_setH,k0,k1,k2,k3,k4,z0,z1,z2,z3,z4,z5,z6,z7,z8,z9,z10,z11,z12,z13,z14,z15,z16,z17,z18,z19,z20,z21,z22,z23,z24,z25,z26,z27,z28,z29,e0,false_and]
      · rw [hq]
        simp only [go_sem,getH_setH,length_setH,k0,k1,k2,k3,k4]
    · have hb:(decide (la=l.getD 0 0)&&(decide (lb'=l.getD 1 0)&&decide (ld=l.getD 2 0)))=false:=by
        cases h:(decide (la=l.getD 0 0)&&(decide (lb'=l.getD 1 0)&&decide (ld=l.getD 2 0)))
        · rfl
        · exact absurd (by simpa using h) hx
      have hst:askStep s l=(s++[strOf l],true):=by
        unfold askStep addT
        rw [if_pos (.inr (fun h=>hx (by rw [hlast] at h;injection h with a b d;exact ⟨a,b,d⟩)))]
      simp only [go_sem,askBody,getH_left,setH_left,getH_setH,length_setH,getH_atL,getH_atL0,setH_atL,setH_atL0,isHole_atL,isHole_atL0,disj_nil,k0,k1,k2,k3,k4,z0,z1,z2,z3,z4,z5,z6,z7,z8,z9,z10,z11,z12,z13,z14,z15,z16,z17,z18,z19,z20,z21,z22,z23,z24,z25,z26,z27,z28,z29,w0,w1,w2,w3,w4,w5,e1,e0,e5,e8,e2,bodyX,hw1,hlt,hn0,hi0,hi1,hnth,Option.map_some,row_str,hlast,y3,hb,hx,hst]
      refine ⟨lb,rfl,⟨by simp [length_setH];omega,fun o' ho hl=>?_⟩,.inl ⟨⟨_,?_,.inr ⟨by simp,o,ver+1,e3,rfl,?_⟩⟩,?_,?_⟩⟩
      · simp only [aOwn,not_or] at ho
        have ho':o'≠o:=by omega
        simp only [getH_left,length_setH,show o'<H1.length by omega,getH_setH,ho,ho',false_and,if_false]
        have:=hKb [] o' hl (by simp only [aOwn,not_or];exact ho)
        rwa [List.append_nil] at this
      · simp only [go_sem,getH_left,length_setH,getH_setH,k0,k1,k2,k3,k4,z0,z1,z2,z3,z4,z5,z6,z7,z8,z9,z10,z11,z12,z13,z14,z15,z16,z17,z18,z19,z20,z21,z22,z23,z24,z25,z26,z27,z28,z29,w0,w1,w2,w3,w4,w5,false_and,List.length_append,List.length_cons,List.length_nil]
      · simp only [go_sem,getH_left,length_setH,getH_setH,k0,k1,k2,k3,k4,z0,z1,z2,z3,z4,z5,z6,z7,z8,z9,z10,z11,z12,z13,z14,z15,z16,z17,z18,z19,z20,z21,z22,z23,z24,z25,z26,z27,z28,z29,w0,w1,w2,w3,w4,w5,false_and,List.map_append,List.map_cons,List.map_nil]
        rfl
      · simp only [go_sem,getH_left,length_setH,getH_setH,k0,k1,k2,k3,k4,z0,z1,z2,z3,z4,z5,z6,z7,z8,z9,z10,z11,z12,z13,z14,z15,z16,z17,z18,z19,z20,z21,z22,z23,z24,z25,z26,z27,z28,z29,w0,w1,w2,w3,w4,w5,e0,false_and]
      · rw [hq]
        simp only [go_sem,getH_left,length_setH,getH_setH,k0,k1,k2,k3,k4,z0,z1,z2,z3,z4,z5,z6,z7,z8,z9,z10,z11,z12,z13,z14,z15,z16,z17,z18,z19,z20,z21,z22,z23,z24,z25,z26,z27,z28,z29,w0,w1,w2,w3,w4,w5,false_and]
end Am.Vt
namespace Am.Vt
open Go Am
set_option maxRecDepth 100000
set_option maxHeartbeats 4000000
set_option linter.unusedSimpArgs false
set_option linter.unusedVariables false
variable {g1 g2 g3:Bool × Bool} {c:Cellar}
def truthsC (c:Cellar):List Str:=(foldY (stepR c askStep) [] (listsF c.heaps [])).1
theorem askStep_true {c:Cellar}:∀{ls:List (List Int)} {s:List Str},(foldY (stepR c askStep) s ls).2=true
  | [],s=>rfl
  | l::ls,s=>by
    have h:(stepR c askStep s l).2=true:=by unfold stepR;split<;>rfl
    simp only [foldY,h,if_true]
    exact askStep_true
theorem askStep_len {c:Cellar} {s:List Str} {l:List Int}:(stepR c askStep s l).1.length≤s.length+1:=by
  unfold stepR
  split
  · show (addT s (strOf l)).length≤_
    unfold addT;split<;>simp
  · show s.length≤_;omega
theorem FoldC_ask {c:Cellar}:∀{ls:List (List Int)} {s:List Str},s.length+ls.length<2000000→FoldC (fun s l=>rightC c (padK l)=true→s.length<2000000) (stepR c askStep) s ls
  | [],s,h=>trivial
  | l::ls,s,h=>by
    simp only [List.length_cons] at h
    refine ⟨fun _=>by omega,fun _=>FoldC_ask ?_⟩
    have:=askStep_len (c:=c) (s:=s) (l:=l)
    omega
theorem cell_many (hv:c.Valid):prodN c.heaps≤2000:=by
  have h:=many_min (rs:=c.heaps) (m:=1) (fun r hr=>by have:=hv.heap r hr;omega) (by omega) (by omega)
  have h2:=hv.many
  unfold manyL at h2
  have h3:((1:Nat):Int)=1:=rfl
  rw [h3] at h
  rw [h] at h2
  omega
def askC (c:Cellar):Int:=if checkCell c≠0 then checkCell c else if truthsC c=[] then 11 else 0
structure CWork (g1 g2 g3:Bool × Bool) (c:Cellar) (n wo:Nat) (H:List Obj):Prop where
  ge:n≤wo
  w:∃ao ver,n≤ao∧getH H wo = .cells [L g1 c.heaps,L g2 c.casks,L g3 c.trials,.sl ao ver 0 (truthsC c).length]∧getH H ao = .arr false ver 3 ((truthsC c).map Row.row)
theorem Fkasked (hf:c.Fits) {H:List Obj}:Fn tab (.f 31 [cellV g1 g2 g3 c,.c (.fn 32 false [] [])] H) fun r H'=>Keep (fun _=>False) H H' ∧
    ((askC c≠0∧r = .tup [.c .nilp,.c (.int .i64 (askC c))])∨(askC c=0∧∃wo,r = .tup [.c (.ptr wo 0),.c (.int .i64 0)]∧CWork g1 g2 g3 c H.length wo H')):=by
  have hB:∀{H:List Obj} {Q:V→List Obj→Prop},Fn tab (.f 32 [] H) Q↔Q (.c (.bool true)) H:=fun {H Q}=>Fn_iff (by
    refine Fn_X (fn:=f32) rfl rfl ?_
    simp only [go_sem,f32])
  refine Fn_X (fn:=f31) rfl rfl ?_
  by_cases h0:checkCell c=0
  · have hv:=cell_valid h0
    have hm:=cell_many hv
    simp only [go_sem,f31,cCheckCellar hf,h0,hB,Fktruths]
    refine RX_range ?_
    generalize hlp:ALoop.mk .ready _ _ _ _ _=lp
    simp only [Opd.ev,getS,CallV_fn,firstV,List.length_append,List.length_cons,List.length_nil,List.append_assoc,List.cons_append,List.nil_append,List.map_cons,List.map_nil,Nat.zero_add,Nat.reduceAdd,Nat.add_assoc,Bool.false_eq_true,if_false]
    have hy:=ask_yield (g1:=g1) (g2:=g2) (g3:=g3) (c:=c) (n:=H.length) (lp:=lp) rfl hlp.symm
    obtain ⟨G,hG⟩:∃G,G=H++[.cells [L g1 c.heaps,L g2 c.casks,L g3 c.trials],.cells [L g1 c.heaps,L g2 c.casks,L g3 c.trials,.nils],.cells [.ptr (H.length+1) 0],.cells [L g1 c.heaps,L g2 c.casks,L g3 c.trials],.cells [.nils],.loop lp]:=⟨_,rfl⟩
    rw [←hG]
    have lG:G.length=H.length+6:=by rw [hG];simp
    refine (ktruths1_ok (H:=G) (F:=.yld (H.length+5)) (own:=aOwn H.length) (R:=aR g1 g2 g3 c H.length lp) (RS:=fun _ _=>False) (C0:=fun s _=>s.length<2000000) (step:=askStep) (cb:=H.length+3) (ob:=H.length+4) (g1:=g1) (g2:=g2) (g3:=g3) hv rfl (by simp only [aOwn];omega) (by simp only [aOwn];omega) (fun o h1 h2=>by simp only [aOwn];omega) (fun s H0 H' hr hk=>?_) (by rw [lG];exact hy) ?_ ?_ (s:=[]) ?_ (FoldC_ask (by rw [listsF_len];simp;omega))).mono ?_
    · rw [lG] at hk
      obtain ⟨tc,e1,e2⟩:=hr.w
      refine ⟨⟨tc,hk.get (by omega) e1 (by simp),?_⟩,hk.get (by omega) hr.p (by simp),hk.get (by omega) hr.lp (by simp)⟩
      rcases e2 with h | ⟨hne,ao,ver,a1,a2,a3⟩
      · exact .inl h
      · exact .inr ⟨hne,ao,ver,a1,a2,hk.get (by omega) a3 (by simp)⟩
    · rw [hG];simp only [go_sem]
    · rw [hG];simp only [go_sem]
    · rw [hG]
      exact ⟨⟨.nils,by simp only [go_sem],.inl ⟨rfl,rfl⟩⟩,by simp only [go_sem],by simp only [go_sem]⟩
    · rintro r H' ⟨hk,hr⟩
      rw [askStep_true] at hr
      have hr:aR g1 g2 g3 c H.length lp (truthsC c) H':=by
        rcases hr with ⟨_,h⟩ | ⟨h,_⟩
        · exact h
        · cases h
      have l5:=lt_of_getH (h:=H') (o:=H.length+5) (by rw [hr.lp];simp)
      refine ⟨lp,hr.lp,by rw [←hlp];simp,?_⟩
      rw [show lp.pending = .normal by rw [←hlp]]
      obtain ⟨tc,e1,e2⟩:=hr.w
      have e0:=hr.p
      have hkl:=hk.1
      rw [lG] at hkl
      have hK:∀W,Keep (fun _=>False) H (setH H' (H.length+5) W):=fun W=>⟨by simp only [length_setH];omega,fun o _ hl=>by rw [getH_setH,if_neg (by omega),hk.2 o (by simp only [aOwn];omega) (by omega),hG,getH_left hl]⟩
      rcases e2 with ⟨h,rfl⟩ | ⟨hne,ao,ver,a1,rfl,a3⟩
      · have ha:askC c=11:=by unfold askC;rw [if_neg (by simp [h0]),if_pos h]
        simp only [go_sem,getH_setH,l5,e0,e1]
        exact ⟨hK _,.inl ⟨by rw [ha];decide,by rw [ha]⟩⟩
      · have ha:askC c=0:=by unfold askC;rw [if_neg (by simp [h0]),if_neg hne]
        have hn:¬((truthsC c).length:Int)=0:=by have:=List.length_pos_iff.2 hne;omega
        simp only [go_sem,getH_setH,l5,e0,e1,hn]
        refine ⟨hK _,.inr ⟨ha,H.length+1,rfl,by omega,ao,ver,by omega,?_,?_⟩⟩
        · rw [getH_setH,if_neg (by omega)];exact e1
        · rw [getH_setH,if_neg (by omega)];exact a3
  · have:askC c=checkCell c:=by simp only [askC,h0,ne_eq,not_false_eq_true,if_true]
    simp only [go_sem,f31,cCheckCellar hf,h0,this]
    exact ⟨Keep.append,.inl trivial⟩
end Am.Vt
namespace Am.Vt
open Go Am
set_option maxRecDepth 100000
set_option maxHeartbeats 4000000
set_option linter.unusedSimpArgs false
set_option linter.unusedVariables false
variable {g1 g2 g3:Bool × Bool} {c:Cellar}
def Str.l (s:Str):List Int:=[s.a,s.b,s.d]
def wideC (c:Cellar) (t:Nat) (r:Rg) (s:Str):Rg:=⟨min r.lo (ofK c s.l t),max r.hi (ofK c s.l t)⟩
def startC (c:Cellar) (t:Nat):Rg:=⟨ofK c ((truthsC c).getD 0 default).l t,ofK c ((truthsC c).getD 0 default).l t⟩
def bdsC (c:Cellar) (t:Nat):Rg:=(truthsC c).foldl (wideC c t) (startC c t)
theorem Fkbounds (hv:c.Valid) (hne:truthsC c≠[]) {t:Nat} (ht:t<c.heaps.length+c.casks.length) {H:List Obj} {n wo:Nat} (hW:CWork g1 g2 g3 c n wo H) {Q:V→List Obj→Prop} :
    (∀H',Keep (fun _=>False) H H'→Q (.agg [.int .i64 (bdsC c t).lo,.int .i64 (bdsC c t).hi]) H')→Fn tab (.f 33 [.c (.ptr wo 0),.c (.int .i64 t)] H) Q:=by
  intro hQ
  obtain ⟨hge,ao,ver,ha,hw,hr⟩:=hW
  have lw:=lt_of_getH (h:=H) (o:=wo) (by rw [hw];simp)
  have lo:=lt_of_getH (h:=H) (o:=ao) (by rw [hr];simp)
  have hl1:0<(truthsC c).length:=List.length_pos_iff.2 hne
  have hle:(truthsC c).length≤2000:=by
    have:∀(ls:List (List Int)) (s:List Str),(foldY (stepR c askStep) s ls).1.length≤s.length+ls.length:=by
      intro ls
      induction ls with
      | nil=>intro s;simp [foldY]
      | cons l ls ih=>
        intro s
        have h:(stepR c askStep s l).2=true:=by unfold stepR;split<;>rfl
        have h2:=askStep_len (c:=c) (s:=s) (l:=l)
        have h3:=ih (stepR c askStep s l).1
        simp only [foldY,h,if_true,List.length_cons]
        omega
    have h1:=this (listsF c.heaps []) []
    have h2:=cell_many hv
    rw [listsF_len] at h1
    simp at h1
    exact Nat.le_trans h1 h2
  have hbig:(truthsC c).length<Big:=Nat.lt_of_le_of_lt hle (by decide)
  obtain ⟨⟨a0,b0,d0⟩,hs0⟩:∃x,(truthsC c).getD 0 default=x:=⟨_,rfl⟩
  have hn0:nth (truthsC c) 0=some ⟨a0,b0,d0⟩:=by rw [nth_get,List.getElem?_eq_getElem hl1,←hs0,getD_lt _ _ _ hl1]
  have hst:startC c t=⟨ofK c [a0,b0,d0] t,ofK c [a0,b0,d0] t⟩:=by unfold startC;rw [hs0];rfl
  have hi1:(0:Int)<(truthsC c).length:=by omega
  refine Fn_X (fn:=f33) rfl rfl ?_
  have k0:wo<H.length:=by omega
  have k1:ao<H.length:=by omega
  have z0:¬wo=H.length:=by omega
  have z1:¬H.length=wo:=by omega
  have z2:¬wo=H.length+1:=by omega
  have z3:¬H.length+1=wo:=by omega
  have z4:¬wo=H.length+2:=by omega
  have z5:¬H.length+2=wo:=by omega
  have z6:¬ao=H.length:=by omega
  have z7:¬H.length=ao:=by omega
  have z8:¬ao=H.length+1:=by omega
  have z9:¬H.length+1=ao:=by omega
  have z10:¬ao=H.length+2:=by omega
  have z11:¬H.length+2=ao:=by omega
  simp only [go_sem,f33,getH_left,k0,k1,z0,z1,z2,z3,z4,z5,z6,z7,z8,z9,z10,z11,hw,hr,hi1,hl1,hn0,Option.map_some,row_str,kof hv ht]
  refine RX_whileU (α:=Nat × List Obj) (fun x=>[(29,.c (.int .i64 x.1))]) (fun x=>x.2) (fun x=>x.1≤(truthsC c).length∧H.length+2≤x.2.length∧(∀o,o<H.length→getH x.2 o=getH H o)∧getH x.2 H.length = .cells [.int .i64 0,.int .i64 0]∧getH x.2 (H.length+1) = .cells [.int .i64 (((truthsC c).take x.1).foldl (wideC c t) (startC c t)).lo,.int .i64 (((truthsC c).take x.1).foldl (wideC c t) (startC c t)).hi]) (fun x=>(truthsC c).length-x.1) (0,_) ⟨Nat.zero_le _,?_,?_,?_,?_⟩ (by simp only [go_sem]<;>first | rfl | exact ⟨rfl,rfl⟩) ?_
  · simp only [List.length_append,List.length_cons,List.length_nil];omega
  · intro o ho;exact getH_left ho
  · simp only [go_sem]
  · simp only [go_sem,List.take_zero,List.foldl_nil,hst]
  rintro ⟨k,H'⟩ ⟨hk,hlen,hg,h1,h2⟩
  simp only at hk hlen hg h1 h2
  have hw':=(hg wo lw).trans hw
  have hr':=(hg ao lo).trans hr
  by_cases hlt:k<(truthsC c).length
  · obtain ⟨⟨a,b,d⟩,hs⟩:∃x,(truthsC c).getD k default=x:=⟨_,rfl⟩
    have hn:nth (truthsC c) k=some ⟨a,b,d⟩:=by rw [nth_get,List.getElem?_eq_getElem hlt,←hs,getD_lt _ _ _ hlt]
    have hkI:(k:Int)<(truthsC c).length:=by omega
    have k0:wo<H'.length:=by omega
    have k1:ao<H'.length:=by omega
    have k2:H.length<H'.length:=by omega
    have k3:H.length+1<H'.length:=by omega
    have z0:¬wo=H'.length:=by omega
    have z1:¬H'.length=wo:=by omega
    have z2:¬ao=H'.length:=by omega
    have z3:¬H'.length=ao:=by omega
    have z4:¬H.length=H'.length:=by omega
    have z5:¬H'.length=H.length:=by omega
    have z6:¬H.length+1=H'.length:=by omega
    have z7:¬H'.length=H.length+1:=by omega
    simp only [go_sem,hlt,hkI,getH_left,setH_left,getH_setH,length_setH,k0,k1,k2,k3,z0,z1,z2,z3,z4,z5,z6,z7,hw',hr',h1,h2,hn,Option.map_some,row_str,kof hv ht,kwider,wrap_succ hlt hbig]
    refine ⟨(k+1,_),⟨by simp only;omega,by simp only;omega,?_,?_,?_,?_⟩,rfl,rfl⟩
    · simp only [List.length_append,length_setH];omega
    · intro o ho
      have h3:¬o=H.length+1:=by omega
      simp only [getH_left,length_setH,show o<H'.length by omega,getH_setH,h3,false_and,if_false,hg o ho]
    · simp only [go_sem,getH_left,length_setH,getH_setH,k0,k1,k2,k3,z0,z1,z2,z3,z4,z5,z6,z7,h1,false_and]
    · simp only [go_sem,getH_left,length_setH,getH_setH,k0,k1,k2,k3,z0,z1,z2,z3,z4,z5,z6,z7,take_getD hlt default,hs,List.foldl_append,List.foldl_cons,List.foldl_nil]
      rfl
  · have:k=(truthsC c).length:=by omega
    subst this
    have hkI:¬((truthsC c).length:Int)<(truthsC c).length:=by omega
    have hl0:H.length<H'.length:=by omega
    simp only [go_sem,hkI,List.take_length,h1,h2,getH_setH,hl0]
    refine hQ _ ⟨by simp only [length_setH];omega,fun o _ ho=>?_⟩
    rw [getH_setH,if_neg (by omega),hg o ho]
end Am.Vt
namespace Am.Vt
open Go Am
set_option maxRecDepth 100000
set_option maxHeartbeats 4000000
set_option linter.unusedSimpArgs false
set_option linter.unusedVariables false
variable {g1 g2 g3:Bool × Bool} {c:Cellar}
theorem CWork.agree {n wo:Nat} {H H':List Obj} (h:CWork g1 g2 g3 c n wo H) (hg:∀o,o<H.length→getH H' o=getH H o):CWork g1 g2 g3 c n wo H':=by
  obtain ⟨hge,ao,ver,ha,hw,hr⟩:=h
  have lw:=lt_of_getH (h:=H) (o:=wo) (by rw [hw];simp)
  have lo:=lt_of_getH (h:=H) (o:=ao) (by rw [hr];simp)
  exact ⟨hge,ao,ver,ha,(hg wo lw).trans hw,(hg ao lo).trans hr⟩
def heapsB (c:Cellar):List Rg:=(List.range c.heaps.length).map (bdsC c)
def casksB (c:Cellar):List Rg:=(List.range c.casks.length).map fun i=>bdsC c (c.heaps.length+i)
def BoundsC (c:Cellar):V:=if askC c=0 then .tup [.c (L (false,false) (heapsB c)),.c (L (false,false) (casksB c)),.c (.int .i64 0)] else .tup [.c .nils,.c .nils,.c (.int .i64 (askC c))]
theorem askC_ok (h:askC c=0):checkCell c=0∧truthsC c≠[]:=by
  unfold askC at h
  split at h
  · rename_i h';exact absurd h h'
  · rename_i h'
    split at h
    · cases h
    · rename_i h2;exact ⟨by simpa using h',h2⟩
theorem kBounds (hf:c.Fits) {Q:V→Prop}:CallP tab 10 [cellV g1 g2 g3 c] Q↔Q (BoundsC c):=CallP_of (by
  refine Val_X (fn:=f10) rfl ?_
  simp only [go_sem,f10]
  refine (Fkasked (g1:=g1) (g2:=g2) (g3:=g3) hf).mono ?_
  rintro r H' ⟨hk,hr⟩
  obtain ⟨X,rfl⟩:=hk.none_eq
  rcases hr with ⟨a,rfl⟩ | ⟨a,wo,rfl,hW⟩
  · rw [BoundsC,if_neg a]
    simp only [go_sem,a]
  · obtain ⟨h0,hne⟩:=askC_ok a
    have hv:=cell_valid h0
    have n3:=hv.n3
    have k3:=hv.casks3
    rw [BoundsC,if_pos a]
    simp only [go_sem]
    obtain ⟨H0,hH0⟩:∃H0,H0=Obj.cells (cellC g1 g2 g3 c)::X:=⟨_,rfl⟩
    have l0:H0.length=X.length+1:=by rw [hH0];simp
    have hW0:CWork g1 g2 g3 c 1 wo H0:=by rw [hH0];exact hW
    have hc0:getH H0 0 = .cells (cellC g1 g2 g3 c):=by rw [hH0];simp only [go_sem]
    have bl:=show (heapsB c).length=c.heaps.length by simp [heapsB]
    have bl2:=show (casksB c).length=c.casks.length by simp [casksB]
    refine RX_whileU (α:=Nat × List Obj) (fun x=>[(2,.c (.sl H0.length x.1 0 x.1)),(19,.c (.int .i64 x.1))]) (fun x=>x.2) (fun x=>x.1≤c.heaps.length∧H0.length+1≤x.2.length∧(∀o,o<H0.length→getH x.2 o=getH H0 o)∧getH x.2 H0.length = .arr false x.1 2 (((heapsB c).take x.1).map Row.row)) (fun x=>c.heaps.length-x.1) (0,H0++[.arr false 0 2 []]) ⟨Nat.zero_le _,by simp,fun o ho=>getH_left ho,by simp only [go_sem,List.take_zero]⟩ (by simp only [go_sem,hH0]<;>first | rfl | exact ⟨rfl,rfl⟩) ?_
    rintro ⟨k,H1⟩ ⟨hk1,hlen,hg,hl⟩
    simp only at hk1 hlen hg hl
    by_cases hlt:k<c.heaps.length
    · have hlt':(k:Int)<c.heaps.length:=by omega
      have e4:IntKind.i64.wrap ((k:Int)+1)=((k+1:Nat):Int):=wrap_succ (n:=3000) (by omega) (by decide)
      have b5:(k+1)*16≤2^40:=by omega
      simp only [go_sem,hlt']
      refine Fkbounds hv hne (t:=k) (by omega) (hW0.agree (H':=H1++[.none,.none]) (fun o ho=>by rw [getH_left (by omega)];exact hg o ho)) ?_
      intro H2 K2
      have l2:=K2.1
      simp only [List.length_append,List.length_cons,List.length_nil] at l2
      have hh0:isHole H2 H1.length=true:=K2.hole (by simp) (by simp) (by simp only [go_sem])
      have hh1:isHole H2 (H1.length+1)=true:=K2.hole (by simp) (by simp) (by simp only [go_sem])
      have hl3:=K2.get (o:=H0.length) (by simp) (getH_keep hl (by simp)) (by simp)
      have q1:¬H0.length=H1.length:=by omega
      have q2:H1.length<H2.length:=by omega
      have q3:H0.length<H2.length:=by omega
      have htk:(heapsB c).take (k+1)=(heapsB c).take k++[bdsC c k]:=by
        rw [take_getD (by omega) (default:Rg),getD_lt _ _ _ (by omega)];simp [heapsB]
      have htl:((heapsB c).take k).length=k:=by rw [List.length_take];omega
      simp only [go_sem,hh0,hh1,getH_setH,length_setH,q1,q2,q3,hl3,false_and,htl,b5,e4]
      refine ⟨(k+1,_),⟨by simp only;omega,by simp only;omega,?_,?_,?_⟩,⟨rfl,rfl⟩,rfl⟩
      · simp only [length_setH];omega
      · intro o ho
        simp only [getH_setH,show ¬o=H0.length by omega,show ¬o=H1.length by omega,false_and,if_false]
        rw [K2.2 o (by simp) (by simp;omega),getH_left (by omega),hg o ho]
      · simp only [htk,List.map_append]
        rw [getH_setH,if_pos ⟨rfl,by rw [length_setH];omega⟩];rfl
    · have:k=c.heaps.length:=by omega
      subst this
      rw [List.take_of_length_le (by omega)] at hl
      have hc1:getH H1 0 = .cells (cellC g1 g2 g3 c):=(hg 0 (by omega)).trans hc0
      have hW1:CWork g1 g2 g3 c 1 wo H1:=hW0.agree hg
      simp only [go_sem,hlt,hl,bl,hc1]
      refine RX_whileU (α:=Nat × List Obj) (fun x=>[(3,.c (.sl H1.length x.1 0 x.1)),(32,.c (.int .i64 x.1))]) (fun x=>x.2) (fun x=>x.1≤c.casks.length∧H1.length+1≤x.2.length∧(∀o,o<H1.length→getH x.2 o=getH H1 o)∧getH x.2 H1.length = .arr false x.1 2 (((casksB c).take x.1).map Row.row)) (fun x=>c.casks.length-x.1) (0,H1++[.arr false 0 2 []]) ⟨Nat.zero_le _,by simp,fun o ho=>getH_left ho,by simp only [go_sem,List.take_zero]⟩ (by simp only [go_sem]<;>first | rfl | exact ⟨rfl,rfl⟩) ?_
      rintro ⟨k,H3⟩ ⟨hk3,hlen3,hg3,hl3⟩
      simp only at hk3 hlen3 hg3 hl3
      have hc3:getH H3 0 = .cells (cellC g1 g2 g3 c):=(hg3 0 (by omega)).trans hc1
      by_cases hlt:k<c.casks.length
      · have hlt':(k:Int)<c.casks.length:=by omega
        have e4:IntKind.i64.wrap ((k:Int)+1)=((k+1:Nat):Int):=wrap_succ (n:=3000) (by omega) (by decide)
        have e5:IntKind.i64.wrap ((c.heaps.length:Int)+(k:Int))=((c.heaps.length+k:Nat):Int):=by rw [wrap_id _ (by omega) (by omega)];omega
        have b5:(k+1)*16≤2^40:=by omega
        have l30:0<H3.length:=by omega
        simp only [go_sem,hlt',getH_left,l30,hc3,e5]
        refine Fkbounds hv hne (t:=c.heaps.length+k) (by omega) (hW1.agree (H':=H3++[.none,.none]) (fun o ho=>by rw [getH_left (by omega)];exact hg3 o ho)) ?_
        intro H2 K2
        have l2:=K2.1
        simp only [List.length_append,List.length_cons,List.length_nil] at l2
        have hh0:isHole H2 H3.length=true:=K2.hole (by simp) (by simp) (by simp only [go_sem])
        have hh1:isHole H2 (H3.length+1)=true:=K2.hole (by simp) (by simp) (by simp only [go_sem])
        have hl4:=K2.get (o:=H1.length) (by simp) (getH_keep hl3 (by simp)) (by simp)
        have q1:¬H1.length=H3.length:=by omega
        have q2:H3.length<H2.length:=by omega
        have q3:H1.length<H2.length:=by omega
        have htk:(casksB c).take (k+1)=(casksB c).take k++[bdsC c (c.heaps.length+k)]:=by
          rw [take_getD (by omega) (default:Rg),getD_lt _ _ _ (by omega)];simp [casksB]
        have htl:((casksB c).take k).length=k:=by rw [List.length_take];omega
        simp only [go_sem,hh0,hh1,getH_setH,length_setH,q1,q2,q3,hl4,false_and,htl,b5,e4]
        refine ⟨(k+1,_),⟨by simp only;omega,by simp only;omega,?_,?_,?_⟩,⟨rfl,rfl⟩,rfl⟩
        · simp only [length_setH];omega
        · intro o ho
          simp only [getH_setH,show ¬o=H1.length by omega,show ¬o=H3.length by omega,false_and,if_false]
          rw [K2.2 o (by simp) (by simp;omega),getH_left (by omega),hg3 o ho]
        · simp only [htk,List.map_append]
          rw [getH_setH,if_pos ⟨rfl,by rw [length_setH];omega⟩];rfl
      · have:k=c.casks.length:=by omega
        subst this
        rw [List.take_of_length_le (by omega)] at hl3
        have hlH:getH H3 H0.length = .arr false c.heaps.length 2 ((heapsB c).map Row.row):=(hg3 _ (by omega)).trans hl
        simp only [go_sem,hlt,hl3,hlH,bl,bl2])
end Am.Vt
