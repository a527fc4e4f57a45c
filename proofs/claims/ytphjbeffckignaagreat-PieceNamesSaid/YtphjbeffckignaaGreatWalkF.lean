/-
  A part of the proof: the texts P11, P12, P13, P14, P15 of this seat, joined.
-/
import Derived.Test.YtphjbeffckignaaGreatWalkE
namespace Am.Vt
open Go Am
set_option maxRecDepth 100000
set_option maxHeartbeats 4000000
set_option linter.unusedSimpArgs false
set_option linter.unusedVariables false
variable {g1 g2 g3 g4 g5 g gt:Bool × Bool} {j:Job} {v:Vat} {plan:List Stp} {t:Truth} {s:Sh}
theorem ofB_none {i:Nat}:∀{l:List Stp} {b:Nat},(∀s∈l,s.piece≠i)→ofB l i b=(0,0)
  | [],_,_=>rfl
  | s::l,b,h=>by
    simp only [ofB,h s (by simp),if_false]
    exact ofB_none fun x hx=>h x (by simp [hx])
def sumT (l:List Stp):Nat:=(l.map fun s=>s.dips.toNat).sum
theorem ofB_at {i:Nat}:∀{l:List Stp} {b k:Nat},k<l.length→(l.getD k default).piece=i→(∀m,m<k→(l.getD m default).piece≠i)→ofB l i b=(b+sumT (l.take k),(l.getD k default).dips.toNat)
  | [],_,_,h,_,_=>by simp at h
  | s::l,b,0,_,h,_=>by
    simp only [List.getD_cons_zero] at h
    simp only [ofB,h,if_true,List.take_zero,sumT,List.map_nil,List.sum_nil,Nat.add_zero,List.getD_cons_zero]
  | s::l,b,k+1,hk,h,hn=>by
    have h0:=hn 0 (by omega)
    simp only [List.getD_cons_zero] at h0
    simp only [List.getD_cons_succ] at h
    simp only [ofB,h0,if_false]
    rw [ofB_at (by simpa using hk) h fun m hm=>by have:=hn (m+1) (by omega);simpa only [List.getD_cons_succ] using this]
    simp only [List.take_succ_cons,sumT,List.map_cons,List.sum_cons,List.getD_cons_succ,Nat.add_assoc]
theorem sumT_eq (h:plan.all (stepOk j)=true):((sumT plan:Nat):Int)=sumD plan:=by
  induction plan with
  | nil=>rfl
  | cons a l ih=>
    rw [List.all_cons,Bool.and_eq_true] at h
    have h1:=ih h.2
    have h2:=h.1
    simp only [stepOk,Bool.and_eq_true,inR_iff] at h2
    unfold sumT sumD at h1 ⊢
    rw [List.map_cons,List.map_cons,sumI_cons,List.sum_cons]
    omega
def rightB7 (j:Job) (plan:List Stp) (i:Nat):Bool:=rightW j i (ofB plan i 0).1 (ofB plan i 0).2
def countR (j:Job) (plan:List Stp):Nat:=(List.range j.pieces.length).countP (rightB7 j plan)
theorem count_take {p:Nat→Bool} {k:Nat}:(List.range (k+1)).countP p=(List.range k).countP p+b2n (p k):=by
  rw [List.range_succ,List.countP_append]
  cases hp:p k<;>simp [b2n,hp]
theorem Fcount (hj:j.Valid) (ht:totalB j plan=true) {H:List Obj} {wo:Nat} (hW:WS g1 g2 g3 g4 g5 j wo H) :
    Fn tab (.f 82 [.c (.ptr wo 0),.c (L g plan)] H) fun r H'=>r = .c (.int .i64 (countR j plan:Nat))∧Keep K0 H H':=by
  refine Fn_X (fn:=f82) rfl rfl ?_
  obtain ⟨o,hw,ho⟩:=hW.arr hj
  obtain ⟨p1,p2,p3,p4⟩:=total_parts ht
  have n4:=hj.pieces4
  have hrd:∀H,Rd 2 H (L g plan) plan:=fun H=>.lst g _ rfl
  simp only [go_sem,f82,hw]
  refine RX_whileU (α:=Nat × List Obj) (fun y=>[(4,.c (.int .i64 ((List.range y.1).countP (rightB7 j plan):Nat))),(17,.c (.int .i64 (y.1:Nat)))]) (fun y=>y.2) (fun y=>y.1≤j.pieces.length∧Keep K0 H y.2) (fun y=>j.pieces.length-y.1) (0,H) ⟨Nat.zero_le _,Keep.refl⟩ (by simp only [go_sem]<;>rfl) ?_
  rintro ⟨k,H1⟩ ⟨hk1,K1⟩
  simp only at hk1 K1
  by_cases hlt:k<j.pieces.length
  · have e4:IntKind.i64.wrap ((k:Int)+1)=((k+1:Nat):Int):=wrap_succ (n:=3000) (by omega) (by decide)
    have W1:=hW.keep K1
    simp only [go_sem,hlt]
    refine (IndexFunc_rd elemStp (k:=129) rfl (big_of (by omega)) (hrd _) (fun x=>decide (x.piece=(k:Int))) ?_).mono ?_
    · intro y hy t H3 hk3
      rw [CallV_fn]
      refine Fn_X (fn:=f130) rfl rfl ?_
      have g0:getH H3 H1.length = .cells [.int .i64 (k:Int)]:=hk3.get id (getH_at0 H1 _) (by simp)
      have l0:=lt_of_getH (h:=H3) (o:=H1.length) (by rw [g0];simp)
      simp only [go_sem,f130,elemStp,getH_left,l0,g0]
      exact Keep.append
    · have fin:∀(b d:Nat) (H3:List Obj),b≤1000→d≤1000→Keep K0 H H3→ofB plan k 0=(b,d)→Fn tab (.f 77 [.c (.ptr wo 0),.c (.int .i64 k),.c (.int .i64 b),.c (.int .i64 d)] H3) fun r H'=>r = .c (.bool (rightB7 j plan k))∧Keep K0 H H':=by
        intro b d H3 hb hd K3 he
        refine (Fright hj hlt hb hd (hW.keep K3)).mono ?_
        rintro r H' ⟨rfl,K4⟩
        exact ⟨by rw [rightB7,he],K3.trans K4⟩
      have cl:(List.range k).countP (rightB7 j plan)≤k:=Nat.le_trans List.countP_le_length (by simp)
      have e5:rightB7 j plan k=true→IntKind.i64.wrap (((List.range k).countP (rightB7 j plan):Int)+1)=(((List.range (k+1)).countP (rightB7 j plan):Nat):Int):=fun h=>by rw [count_take,h,wrapB (by omega) (by omega)];rfl
      have e6:rightB7 j plan k=false→(List.range k).countP (rightB7 j plan)=(List.range (k+1)).countP (rightB7 j plan):=fun h=>by rw [count_take,h];rfl
      rintro r H2 ⟨⟨i,hi,hpi,hpj,rfl⟩ | ⟨hno,rfl⟩,K2⟩
      · have gk:getH H2 H1.length = .cells [.int .i64 (k:Int)]:=K2.get id (getH_at0 H1 _) (by simp)
        have KH2:Keep K0 H H2:=K1.trans (Keep.append.trans K2)
        have hi0:(i:Int)≥0:=by omega
        have hi1:(i:Int)<plan.length:=by omega
        have hi2:i≤plan.length:=by omega
        have hLg:L g plan=L (false,g.2) plan:=by
          rcases L_cases g plan with ⟨_,h,_⟩ | h
          · subst h;simp at hi
          · rw [h];rfl
        have hh:headLen 2 (plan.map (Row.row (α:=Stp)))=true:=headLen_map (sz:=2) rfl
        obtain ⟨q1,q2,q3,q4⟩:=step_at p2 hi
        simp only [decide_eq_true_eq,decide_eq_false_iff_not] at hpi hpj
        have hofB:=ofB_at (b:=0) hi hpi hpj
        have hst:∀m,m≤i→((sumT (plan.take m):Nat):Int)=sumD (plan.take m)∧sumD (plan.take m)≤20:=fun m hm=>by
          have ha:(plan.take m).all (stepOk j)=true:=by
            rw [List.all_eq_true] at p2 ⊢
            exact fun x hx=>p2 x (List.mem_of_mem_take hx)
          have:=sumD_take p2 (k:=m)
          exact ⟨sumT_eq ha,by omega⟩
        rw [hLg]
        simp only [go_sem,hi0,hi1,hi2,hh,atI_nat,takeN_L hi2]
        refine RX_whileU (α:=Nat × List Obj) (fun y=>[(6,.c (.int .i64 (sumT (plan.take y.1):Nat))),(34,.c (.int .i64 (y.1:Nat)))]) (fun y=>y.2) (fun y=>y.1≤i∧Keep K0 H2 y.2) (fun y=>i-y.1) (0,H2) ⟨Nat.zero_le _,Keep.refl⟩ (by simp only [go_sem]<;>rfl) ?_
        rintro ⟨m,H3⟩ ⟨hm,K3⟩
        simp only at hm K3
        have tl:(plan.take i).length=i:=by rw [List.length_take];omega
        by_cases hmi:m<i
        · have m0:(0:Int)≤m:=by omega
          have e7:IntKind.i64.wrap ((m:Int)+1)=((m+1:Nat):Int):=wrap_succ (n:=3000) (by omega) (by decide)
          have ml:m<(plan.take i).length:=by rw [List.length_take];omega
          have mi:(m:Int)<i:=by omega
          obtain ⟨z,hz⟩:∃z,z=plan.getD m default:=⟨_,rfl⟩
          have hn:nth ((plan.take i).map (Row.row (α:=Stp))) m=some (Row.row z):=by
            have hmp:m<plan.length:=by omega
            rw [nth_get,hz,List.getD_eq_getElem?_getD,List.getElem?_eq_getElem hmp]
            simp [ml,hmi,hmp]
          have hat:atI (plan.take i) (m:Int)=z:=by
            rw [atI_nat,hz,List.getD_eq_getElem?_getD,List.getD_eq_getElem?_getD,List.getElem?_take_of_lt hmi]
          have s1:=hst m (by omega)
          have s2:=hst (m+1) (by omega)
          obtain ⟨r1,r2,r3,r4⟩:=step_at p2 (k:=m) (by omega)
          rw [←hz] at r1 r2 r3 r4
          have hsum:sumD (plan.take (m+1))=sumD (plan.take m)+z.dips:=by
            unfold sumD
            rw [take_getD (by omega:m<plan.length) default,←hz,List.map_append]
            exact sumI_snoc
          have e8:IntKind.i64.wrap ((sumT (plan.take m):Int)+z.dips)=((sumT (plan.take (m+1)):Nat):Int):=by rw [s2.1,hsum,s1.1,wrapB (by omega) (by omega)]
          simp only [go_sem,tl,m0,mi,hmi,hn,hat,e7,e8]
          refine ⟨(m+1,_),⟨by simp only;omega,by simp only;omega,K3.trans Keep.append⟩,?_,rfl⟩
          trivial
        · have:m=i:=by omega
          subst this
          have mi:¬(m:Int)<m:=by omega
          obtain ⟨d,hd⟩:∃d:Nat,(plan.getD m default).dips=d:=⟨(plan.getD m default).dips.toNat,by omega⟩
          have gk3:=K3.get id gk (by simp)
          have s1:=hst m (by omega)
          rw [hd,Int.toNat_natCast,Nat.zero_add] at hofB
          simp only [go_sem,tl,mi,hmi,gk3,hd]
          refine (fin (sumT (plan.take m)) d H3 (by omega) (by omega) (KH2.trans K3) hofB).mono ?_
          rintro r H4 ⟨rfl,K4⟩
          cases hb:rightB7 j plan k with
          | true=>
            simp only [go_sem,e4,e5 hb]
            exact ⟨(k+1,H4),⟨by simp only;omega,by simp only;omega,K4⟩,by trivial⟩
          | false=>
            simp only [go_sem,e4,e6 hb]
            exact ⟨(k+1,H4),⟨by simp only;omega,by simp only;omega,K4⟩,by trivial⟩
      · have gk:getH H2 H1.length = .cells [.int .i64 (k:Int)]:=K2.get id (getH_at0 H1 _) (by simp)
        have KH2:Keep K0 H H2:=K1.trans (Keep.append.trans K2)
        have hno':ofB plan k 0=(0,0):=ofB_none fun x hx=>by
          obtain ⟨n,hn,rfl⟩:=List.getElem_of_mem hx
          have:=hno n hn
          simpa [List.getD_eq_getElem?_getD,List.getElem?_eq_getElem hn] using this
        simp only [go_sem,gk]
        refine (fin 0 0 H2 (by omega) (by omega) KH2 hno').mono ?_
        rintro r H4 ⟨rfl,K4⟩
        cases hb:rightB7 j plan k with
        | true=>
          simp only [go_sem,e4,e5 hb]
          exact ⟨(k+1,H4),⟨by simp only;omega,by simp only;omega,K4⟩,by trivial⟩
        | false=>
          simp only [go_sem,e4,e6 hb]
          exact ⟨(k+1,H4),⟨by simp only;omega,by simp only;omega,K4⟩,by trivial⟩
  · have:k=j.pieces.length:=by omega
    subst this
    simp only [go_sem,hlt]
    exact ⟨rfl,K1⟩
theorem pProveMost (hf:j.Fits) (hp:plan.length<Big) {d m:Int} {Q:V→Prop}:CallP tab 35 [jobV g1 g2 g3 g4 g5 j,.c (L g plan),.c (.int .i64 d),.c (.int .i64 m)] Q↔Q (.c (.bool (decide (checkJob j=0)&&(totalB j plan&&(decide (totalD j plan≤d)&&decide (m≤countR j plan)))))):=CallP_of (by
  refine Val_X (fn:=f35) rfl ?_
  have h4:=hf.pieces
  have fa:=fun H (hH:H=[.cells (jobC g1 g2 g3 g4 g5 j),.cells [L g plan],.cells [.int .i64 d]])=>Fasked7 (j:=j) (b:=totalB j plan&&decide (totalD j plan≤d)) (F:=.fn 81 false [] [.ptr 0 0,.ptr 1 0,.ptr 2 0]) (H:=H) (g1:=g1) (g2:=g2) (g3:=g3) (g4:=g4) (g5:=g5) hf rfl (fun h0 H' hk=>by
    subst hH
    rw [CallV_fn]
    refine Fn_X (fn:=f81) rfl rfl ?_
    have e0:=hk.get (o:=0) id rfl (by simp [getH])
    have e1:=hk.get (o:=1) id rfl (by simp [getH])
    have e2:=hk.get (o:=2) id rfl (by simp [getH])
    simp only [getH] at e0 e1 e2
    have hT:=fun {Q:V→Prop}=>ptotal (plan:=plan) (g:=g) (g1:=g1) (g2:=g2) (g3:=g3) (g4:=g4) (g5:=g5) h4 hp (Q:=Q)
    simp only [jobV] at hT
    cases ht:totalB j plan with
    | false=>
      simp only [go_sem,f81,e0,e1,e2,hT,ht]
      exact Keep.refl
    | true=>
      simp only [go_sem,f81,e0,e1,e2,hT,ht]
      exact Keep.refl)
  simp only [jobV] at fa
  simp only [go_sem,f35]
  refine (fa _ rfl).mono ?_
  rintro r H' ⟨hk,⟨h1,rfl⟩ | ⟨h1,wo,c,hwo,rfl,hw,hT⟩⟩
  · have:(decide (checkJob j=0)&&(totalB j plan&&(decide (totalD j plan≤d)&&decide (m≤countR j plan))))=false:=by
      unfold askJ at h1
      by_cases h0:checkJob j=0
      · rw [if_neg (by rw [h0];simp)] at h1
        cases hb:(totalB j plan&&decide (totalD j plan≤d)) with
        | true=>rw [hb] at h1;simp at h1
        | false=>rw [←Bool.and_assoc (totalB j plan),hb];simp
      · rw [decide_eq_false h0];rfl
    rw [this]
    simp only [go_sem,h1]
  · obtain ⟨h0,hb⟩:=askJ_ok h1
    have hj:=jvalid_of h0
    have e1:=hk.get (o:=1) id rfl (by simp [getH])
    simp only [getH] at e1
    have:(decide (checkJob j=0)&&(totalB j plan&&(decide (totalD j plan≤d)&&decide (m≤countR j plan))))=decide (m≤countR j plan):=by
      rw [h0,←Bool.and_assoc (totalB j plan),hb];simp
    rw [this]
    simp only [go_sem,e1]
    refine (Fcount hj (by simp only [Bool.and_eq_true] at hb;exact hb.1) ⟨c,hw,hT.zero⟩).mono ?_
    rintro r H2 ⟨rfl,K2⟩
    simp only [go_sem,ge_iff_le])
theorem pProvePlan (hf:j.Fits) (hp:plan.length<Big) {d:Int} {Q:V→Prop}:CallP tab 34 [jobV g1 g2 g3 g4 g5 j,.c (L g plan),.c (.int .i64 d)] Q↔Q (.c (.bool (decide (checkJob j=0)&&(totalB j plan&&(decide (totalD j plan≤d)&&decide (((j.pieces.length:Nat):Int)≤countR j plan)))))):=CallP_of (by
  refine Val_X (fn:=f34) rfl ?_
  have hP:=fun {m:Int} {Q:V→Prop}=>pProveMost (j:=j) (plan:=plan) (d:=d) (m:=m) (g:=g) (g1:=g1) (g2:=g2) (g3:=g3) (g4:=g4) (g5:=g5) hf hp (Q:=Q)
  simp only [jobV] at hP
  simp only [go_sem,f34,hP])
end Am.Vt
namespace Am.Vt
open Go Am
set_option maxRecDepth 100000
set_option maxHeartbeats 4000000
set_option linter.unusedSimpArgs false
set_option linter.unusedVariables false
variable {g1 g2 g3 g4 g5 g gt:Bool × Bool} {j:Job} {v:Vat} {plan:List Stp} {t:Truth} {s:Sh} {wo so mk mt most:Nat}
abbrev ks2 : List (Option IntKind):=[some .i64,some .i64]
abbrev ks3 : List (Option IntKind):=[some .i64,some .i64,some .i64]
abbrev gnJ (j:Job):Gn:=fun i b d=>rightW j i b d
abbrev frJ (j:Job) (most done b:Nat):Res:=fromS (gnJ j) j.pieces.length most done b
abbrev resC (r:Res):List C:=[.int .i64 r.many,.int .i64 r.dips,.int .i64 r.piece,.int .i64 r.sd]
abbrev resV (r:Res):V:=.agg [.int .i64 r.many,.int .i64 r.dips,.int .i64 r.piece,.int .i64 r.sd]
def EsK (j:Job) (most:Nat) (es:List (List D × List C)):Prop:=∀e∈es,∃done b:Nat,e.1=[.int .i64 (done:Int),.int .i64 (b:Int)]∧e.2=resC (frJ j most done b)
def EsG (j:Job) (es:List (List D × List C)):Prop:=∀e∈es,∃i b d:Nat,e.1=[.int .i64 (i:Int),.int .i64 (b:Int),.int .i64 (d:Int)]∧e.2=[.int .i64 (gainI (rightW j i b d))]
theorem EsK.put {es:List (List D × List C)} (h:EsK j most es) {done b:Nat}:EsK j most (putE [.int .i64 (done:Int),.int .i64 (b:Int)] (resC (frJ j most done b)) es):=by
  intro e he
  rcases putE_mem he with he | rfl
  · exact h e he
  · exact ⟨done,b,rfl,rfl⟩
theorem EsG.put {es:List (List D × List C)} (h:EsG j es) {i b d:Nat}:EsG j (putE [.int .i64 (i:Int),.int .i64 (b:Int),.int .i64 (d:Int)] [.int .i64 (gainI (rightW j i b d))] es):=by
  intro e he
  rcases putE_mem he with he | rfl
  · exact h e he
  · exact ⟨i,b,d,rfl,rfl⟩
theorem key2_inj {a b a' b':Nat} (h:keyEq [.int .i64 (a:Int),.int .i64 (b:Int)] [.int .i64 (a':Int),.int .i64 (b':Int)]=true):a=a'∧b=b':=by
  simp [keyEq,D.key] at h;omega
theorem key3_inj {a b c a' b' c':Nat} (h:keyEq [.int .i64 (a:Int),.int .i64 (b:Int),.int .i64 (c:Int)] [.int .i64 (a':Int),.int .i64 (b':Int),.int .i64 (c':Int)]=true):a=a'∧b=b'∧c=c':=by
  simp [keyEq,D.key] at h;omega
structure SS (g1 g2 g3 g4 g5:Bool × Bool) (j:Job) (wo so mk mt most:Nat) (H:List Obj):Prop where
  ws:WS g1 g2 g3 g4 g5 j wo H
  s:getH H so = .cells [.ptr wo 0,.int .i64 (most:Int),.map mk,.map mt]
  k:∃es,EsK j most es∧getH H mk = .map true true ks2 es
  t:∃es,EsG j es∧getH H mt = .map true false ks3 es
abbrev OwnS (mk mt:Nat) (o:Nat):Prop:=o=mk∨o=mt
def Free (x:Obj):Prop:=(∀cs,x = .cells cs→cs.length≠18)∧(∀f ver w,x ≠ .arr f ver 20 w)∧∀a b c d,x ≠ .map a b c d
theorem Free.none : Free .none:=⟨fun _ h=>Obj.noConfusion h,fun _ _ _ h=>Obj.noConfusion h,fun _ _ _ _ h=>Obj.noConfusion h⟩
theorem Free.cells {cs:List C} (h:cs.length≠18):Free (.cells cs):=⟨fun _ e=>(by cases e;exact h),fun _ _ _ h=>Obj.noConfusion h,fun _ _ _ _ h=>Obj.noConfusion h⟩
theorem WS.keepO {H H':List Obj} {own:Nat→Prop} (h:WS g1 g2 g3 g4 g5 j wo H) (hk:Keep own H H') (ho:∀o,own o→o<H.length→(∃a b c d,getH H o = .map a b c d)∨Free (getH H o)):WS g1 g2 g3 g4 g5 j wo H':=by
  obtain ⟨c,hw,hT⟩:=h.w
  refine ⟨c,hk.get (fun hh=>?_) hw (by simp),hT.keep fun o x hx _ he=>hk.get (fun hh=>?_) hx (by obtain ⟨_,_,_,rfl⟩:=he;simp)⟩
  · rcases ho _ hh (lt_of_getH (by rw [hw];simp)) with ⟨a,b,c,d,e⟩ | e
    · rw [hw] at e;cases e
    · exact e.1 _ hw rfl
  · obtain ⟨_,_,_,rfl⟩:=he
    rcases ho _ hh (lt_of_getH (by rw [hx];simp)) with ⟨a,b,c,d,e⟩ | e
    · rw [hx] at e;cases e
    · exact e.2.1 _ _ _ hx
theorem SS.keep {H H':List Obj} (h:SS g1 g2 g3 g4 g5 j wo so mk mt most H) (hk:Keep K0 H H'):SS g1 g2 g3 g4 g5 j wo so mk mt most H':=by
  obtain ⟨ek,hek,hk1⟩:=h.k
  obtain ⟨et,het,ht1⟩:=h.t
  exact ⟨h.ws.keep hk,hk.get id h.s (by simp),⟨ek,hek,hk.get id hk1 (by simp)⟩,⟨et,het,hk.get id ht1 (by simp)⟩⟩
theorem SS.app {H X:List Obj} (h:SS g1 g2 g3 g4 g5 j wo so mk mt most H):SS g1 g2 g3 g4 g5 j wo so mk mt most (H++X):=h.keep Keep.append
theorem SS.keepO {H H':List Obj} {own:Nat→Prop} (h:SS g1 g2 g3 g4 g5 j wo so mk mt most H) (hk:Keep own H H') (ho:∀o,own o→o<H.length→o≠so∧Free (getH H o)):SS g1 g2 g3 g4 g5 j wo so mk mt most H':=by
  obtain ⟨ek,hek,hk1⟩:=h.k
  obtain ⟨et,het,ht1⟩:=h.t
  refine ⟨h.ws.keepO hk fun o hh hl=>.inr (ho o hh hl).2,hk.get (fun hh=>?_) h.s (by simp),⟨ek,hek,hk.get (fun hh=>?_) hk1 (by simp)⟩,⟨et,het,hk.get (fun hh=>?_) ht1 (by simp)⟩⟩
  · exact (ho _ hh (lt_of_getH (by rw [h.s];simp))).1 rfl
  · exact (ho _ hh (lt_of_getH (by rw [hk1];simp))).2.2.2 _ _ _ _ hk1
  · exact (ho _ hh (lt_of_getH (by rw [ht1];simp))).2.2.2 _ _ _ _ ht1
theorem Fgain (hj:j.Valid) {H:List Obj} {i b d:Nat} (hi:i<j.pieces.length) (hb:b≤1000) (hd:d≤1000) (hS:SS g1 g2 g3 g4 g5 j wo so mk mt most H) :
    Fn tab (.f 169 [.c (.ptr so 0),.agg [.int .i64 i,.int .i64 b,.int .i64 d]] H) fun r H'=>r = .c (.int .i64 (gainI (rightW j i b d)))∧Keep (OwnS mk mt) H H'∧SS g1 g2 g3 g4 g5 j wo so mk mt most H':=by
  refine Fn_X (fn:=f169) rfl rfl ?_
  have es:=hS.s
  obtain ⟨et,het,ht⟩:=hS.t
  have ls:=lt_of_getH (h:=H) (o:=so) (by rw [es];simp)
  have lt:=lt_of_getH (h:=H) (o:=mt) (by rw [ht];simp)
  have z0:¬so=H.length:=by omega
  have z1:¬H.length=so:=by omega
  have z2:¬mt=H.length:=by omega
  have z3:¬H.length=mt:=by omega
  have fin:∀(H1:List Obj) (X:List Obj),Keep K0 H H1→∃H2,H2=setH H1 mt (.map true false ks3 (putE [.int .i64 (i:Int),.int .i64 (b:Int),.int .i64 (d:Int)] [.int .i64 (gainI (rightW j i b d))] et))∧Keep (OwnS mk mt) H H2∧SS g1 g2 g3 g4 g5 j wo so mk mt most H2:=by
    intro H1 X K1
    refine ⟨_,rfl,?_,?_⟩
    · exact (K1.mono fun o h=>h.elim).trans (setK (.inr rfl))
    · have S1:=hS.keep K1
      have ht1:=K1.get id ht (by simp)
      have lt1:=lt_of_getH (h:=H1) (o:=mt) (by rw [ht1];simp)
      obtain ⟨ek,hek,hk1⟩:=S1.k
      have hne:mk≠mt:=by rintro rfl;rw [hk1] at ht1;cases ht1
      refine ⟨S1.ws.keepO (own:=fun o=>o=mt) (setK rfl) fun o ho _=>.inl ⟨true,false,ks3,et,(congrArg (getH H1) ho).trans ht1⟩,?_,⟨ek,hek,?_⟩,⟨_,het.put (i:=i) (b:=b) (d:=d),?_⟩⟩
      · rw [getH_setH,if_neg (fun h=>by rw [←h.1] at ht1;rw [S1.s] at ht1;cases ht1),S1.s]
      · rw [getH_setH,if_neg (fun h=>hne h.1),hk1]
      · rw [getH_setH,if_pos ⟨rfl,lt1⟩]
  cases hfe:findE [.int .i64 (i:Int),.int .i64 (b:Int),.int .i64 (d:Int)] et with
  | some cs=>
    obtain ⟨e,he,hke,rfl⟩:=findE_mem hfe
    obtain ⟨i',b',d',h1,h2⟩:=het e he
    rw [h1] at hke
    obtain ⟨rfl,rfl,rfl⟩:=key3_inj hke
    rw [h2] at hfe
    simp only [go_sem,f169,getH_left,ls,lt,es,ht,hfe,z0,z1,z2,z3]
    obtain ⟨H2,e2,k2,s2⟩:=fin _ [] (Keep.append (X:=[.cells [.int .i64 (i:Int),.int .i64 (b:Int),.int .i64 (d:Int)]]))
    rw [←e2]
    exact ⟨k2,s2⟩
  | none=>
    simp only [go_sem,f169,getH_left,ls,lt,es,ht,hfe,z0,z1,z2,z3]
    refine (Fright hj hi hb hd hS.ws.app).mono ?_
    rintro r H1 ⟨rfl,K1⟩
    have g0:getH H1 H.length = .cells [.int .i64 (i:Int),.int .i64 (b:Int),.int .i64 (d:Int)]:=K1.get id (getH_at0 H _) (by simp)
    have K2:=Keep.append.trans K1
    have es1:=K2.get id es (by simp)
    have ht1:=K2.get id ht (by simp)
    obtain ⟨H2,e2,k2,s2⟩:=fin _ [] K2
    cases hb:rightW j i b d with
    | true=>
      rw [hb] at e2
      have e3:gainI true=1:=rfl
      rw [e3] at e2 ⊢
      simp only [go_sem,g0,es1,ht1,←e2]
      exact ⟨k2,s2⟩
    | false=>
      rw [hb] at e2
      have e3:gainI false=0:=rfl
      rw [e3] at e2 ⊢
      simp only [go_sem,g0,es1,ht1,←e2]
      exact ⟨k2,s2⟩
end Am.Vt
namespace Am.Vt
open Go Am
set_option maxRecDepth 100000
set_option maxHeartbeats 4000000
set_option linter.unusedSimpArgs false
set_option linter.unusedVariables false
variable {g1 g2 g3 g4 g5 g gt:Bool × Bool} {j:Job} {v:Vat} {plan:List Stp} {t:Truth} {s:Sh} {wo so mk mt most:Nat}
theorem pbetter {r x:Res} {Q:V→Prop}:CallP tab 170 [resV r,resV x] Q↔Q (.c (.bool (betterB r x))):=CallP_of (by
  refine Val_X (fn:=f170) rfl ?_
  by_cases h1:r.many>x.many
  · have e:betterB r x=true:=by simp [betterB,h1]
    simp only [go_sem,f170,h1,e]
  · by_cases h2:r.many=x.many
    · by_cases h3:r.dips<x.dips
      · have e:betterB r x=true:=by simp [betterB,h2,h3]
        have h1':¬x.many>x.many:=by omega
        simp only [go_sem,f170,h1,h1',h2,h3,e]
      · have e:betterB r x=false:=by simp [betterB,h2,h3]
        have h1':¬x.many>x.many:=by omega
        simp only [go_sem,f170,h1,h1',h2,h3,e]
    · have e:betterB r x=false:=by simp [betterB,h1,h2]
      simp only [go_sem,f170,h1,h2,e])
theorem bit_rem {done i:Nat}:(((done:Int).fdiv (2^(min i IntKind.i64.bits))).tmod 2=1)↔done.testBit i=true∧i<64∨done.testBit 64=true∧64≤i:=by
  have e:(done:Int).fdiv (2^(min i IntKind.i64.bits))=((done / 2^(min i 64):Nat):Int):=by
    rw [Int.fdiv_eq_ediv_of_nonneg _ (by exact Int.le_of_lt (Int.pow_pos (by decide)))]
    simp [IntKind.bits]
  rw [e,Int.tmod_eq_emod_of_nonneg (Int.natCast_nonneg _)]
  have h2:∀k:Nat,done.testBit k=true↔(done / 2^k) % 2=1:=fun k=>by
    rw [Nat.testBit_eq_decide_div_mod_eq];simp
  by_cases h:i<64
  · rw [Nat.min_eq_left (by omega),h2 i];omega
  · rw [Nat.min_eq_right (by omega),h2 64];omega
theorem Ffrom (hj:j.Valid) (hmost:most≤20):∀(f done b:Nat) {H:List Obj},und j.pieces.length done=f→done<2^4→b≤most→SS g1 g2 g3 g4 g5 j wo so mk mt most H →
    Fn tab (.f 135 [.c (.ptr so 0),.agg [.int .i64 done,.int .i64 b]] H) fun r H'=>r=resV (frJ j most done b)∧Keep (OwnS mk mt) H H'∧SS g1 g2 g3 g4 g5 j wo so mk mt most H':=by
  intro f
  induction f using Nat.strongRecOn with
  | ind f ih=>
  intro done b H hu hdone hb hS
  refine Fn_X (fn:=f135) rfl rfl ?_
  have es:=hS.s
  obtain ⟨c,hw,hT⟩:=hS.ws.w
  obtain ⟨ek,hek,hk⟩:=hS.k
  have ls:=lt_of_getH (h:=H) (o:=so) (by rw [es];simp)
  have lk:=lt_of_getH (h:=H) (o:=mk) (by rw [hk];simp)
  have lw:=lt_of_getH (h:=H) (o:=wo) (by rw [hw];simp)
  have n4:=hj.pieces4
  have z0:¬so=H.length:=by omega
  have z1:¬H.length=so:=by omega
  have z2:¬so=H.length+1:=by omega
  have z3:¬H.length+1=so:=by omega
  have z4:¬so=H.length+2:=by omega
  have z5:¬H.length+2=so:=by omega
  have z6:¬mk=H.length:=by omega
  have z7:¬H.length=mk:=by omega
  have z8:¬mk=H.length+1:=by omega
  have z9:¬H.length+1=mk:=by omega
  have z10:¬mk=H.length+2:=by omega
  have z11:¬H.length+2=mk:=by omega
  have z12:¬wo=H.length:=by omega
  have z13:¬H.length=wo:=by omega
  have z14:¬wo=H.length+1:=by omega
  have z15:¬H.length+1=wo:=by omega
  have z16:¬wo=H.length+2:=by omega
  have z17:¬H.length+2=wo:=by omega
  cases hfe:findE [.int .i64 (done:Int),.int .i64 (b:Int)] ek with
  | some cs=>
    obtain ⟨e,he,hke,rfl⟩:=findE_mem hfe
    obtain ⟨done',b',h1,h2⟩:=hek e he
    rw [h1] at hke
    obtain ⟨rfl,rfl⟩:=key2_inj hke
    rw [h2] at hfe
    simp only [go_sem,f135,getH_left,ls,lk,lw,es,hk,hw,hfe,z0,z1,z2,z3,z4,z5,z6,z7,z8,z9,z10,z11,z12,z13,z14,z15,z16,z17]
    exact ⟨Keep.append,hS.app⟩
  | none=>
    simp only [go_sem,f135,getH_left,ls,lk,lw,es,hk,hw,hfe,z0,z1,z2,z3,z4,z5,z6,z7,z8,z9,z10,z11,z12,z13,z14,z15,z16,z17]
    obtain ⟨H0,hH0⟩:∃H0,H0=H++[.cells [.int .i64 (done:Int),.int .i64 (b:Int)],.cells (resC res0),.cells [.int .i64 0,.int .i64 0,.int .i64 0,.int .i64 0]]:=⟨_,rfl⟩
    have K0':Keep K0 H H0:=by rw [hH0];exact Keep.append
    have x0:getH H0 H.length = .cells [.int .i64 (done:Int),.int .i64 (b:Int)]:=by rw [hH0];simp only [go_sem]
    have b0:getH H0 (H.length+1) = .cells (resC res0):=by rw [hH0];simp only [go_sem]
    have S0:=hS.keep K0'
    have l0:H0.length=H.length+3:=by rw [hH0];simp
    have hfr:frJ j most done b=(List.range j.pieces.length).foldl (fromI (gnJ j) (frJ j most) most done b) res0:=fromS_eq
    have hH0':H++[.cells [.int .i64 (done:Int),.int .i64 (b:Int)],.cells [.int .i64 0,.int .i64 0,.int .i64 (-1),.int .i64 0],.cells [.int .i64 0,.int .i64 0,.int .i64 0,.int .i64 0]]=H0:=hH0.symm
    rw [hH0']
    have hmk:=S0.k
    refine RX_whileU (α:=Nat × List Obj) (fun y=>[(32,.c (.int .i64 (y.1:Nat)))]) (fun y=>y.2) (fun y=>y.1≤j.pieces.length∧Keep (fun o=>OwnS mk mt o∨o=H.length+1) H0 y.2∧SS g1 g2 g3 g4 g5 j wo so mk mt most y.2∧getH y.2 (H.length+1) = .cells (resC ((List.range y.1).foldl (fromI (gnJ j) (frJ j most) most done b) res0))) (fun y=>j.pieces.length-y.1) (0,H0) ⟨Nat.zero_le _,Keep.refl,S0,b0⟩ (by simp only [go_sem]<;>rfl) ?_
    rintro ⟨i,H1⟩ ⟨hi,K1,S1,b1⟩
    simp only at hi K1 S1 b1
    have nx:¬(OwnS mk mt H.length∨H.length=H.length+1):=by
      rintro ((h | h) | h)
      · omega
      · obtain ⟨et,_,ht⟩:=hS.t
        have:=lt_of_getH (h:=H) (o:=mt) (by rw [ht];simp)
        omega
      · omega
    have x1:=K1.get nx x0 (by simp)
    have l1:=K1.1
    have es1:=S1.s
    obtain ⟨ek1,hek1,hk1⟩:=S1.k
    have lk1:=lt_of_getH (h:=H1) (o:=mk) (by rw [hk1];simp)
    have lb1:=lt_of_getH (h:=H1) (o:=H.length+1) (by rw [b1];simp)
    have nkb:mk≠H.length+1:=by rintro rfl;rw [hk1] at b1;cases b1
    have ntb:mt≠H.length+1:=by rintro rfl;obtain ⟨et1,_,ht1⟩:=S1.t;rw [ht1] at b1;cases b1
    have nsb:so≠H.length+1:=by rintro rfl;rw [es1] at b1;cases b1
    have nwb:wo≠H.length+1:=by omega
    by_cases hlt:i<j.pieces.length
    · have e4:IntKind.i64.wrap ((i:Int)+1)=((i+1:Nat):Int):=wrap_succ (n:=3000) (by omega) (by decide)
      have i0:¬(i:Int)<0:=by omega
      have hbit:=bit_rem (done:=done) (i:=i)
      have hfold:(List.range (i+1)).foldl (fromI (gnJ j) (frJ j most) most done b) res0=fromI (gnJ j) (frJ j most) most done b ((List.range i).foldl (fromI (gnJ j) (frJ j most) most done b) res0) i:=by rw [List.range_succ,List.foldl_append];rfl
      cases hbt:done.testBit i with
      | true=>
        have hb1:((done:Int).fdiv (2^(min i IntKind.i64.bits))).tmod 2=1:=hbit.2 (.inl ⟨hbt,by omega⟩)
        simp only [go_sem,hlt,x1,i0,hb1,e4]
        refine ⟨(i+1,H1),⟨by simp only;omega,by simp only;omega,K1,S1,?_⟩,by trivial⟩
        simp only [hfold]
        rw [b1,fromI,if_pos hbt]
      | false=>
        have hb1:¬((done:Int).fdiv (2^(min i IntKind.i64.bits))).tmod 2=1:=fun h=>by
          rcases hbit.1 h with ⟨h,_⟩ | ⟨_,h⟩
          · rw [hbt] at h;cases h
          · omega
        have bd0:fromF (gnJ j) j.pieces.length most 0 0 0=res0:=rfl
        have e5:IntKind.i64.wrap (IntKind.i64.wrap ((most:Int)-b)+1)=((most+1-b:Nat):Int):=by rw [wrapB (n:=(most:Int)-b) (by omega) (by omega),wrapB (by omega) (by omega)];omega
        simp only [go_sem,hlt,x1,i0,hb1,es1,e5]
        obtain ⟨bi,hbi⟩:∃bi,bi=(List.range i).foldl (fromI (gnJ j) (frJ j most) most done b) res0:=⟨_,rfl⟩
        rw [←hbi] at b1 hfold
        obtain ⟨Lc,hLc⟩:∃Lc,Lc=candI (gnJ j) (frJ j most) most i done b:=⟨_,rfl⟩
        have hLl:Lc.length=most+1-b:=by rw [hLc];simp [candI]
        have hend:fromI (gnJ j) (frJ j most) most done b bi i=Lc.foldl pickR bi:=by rw [hLc,fromI,if_neg (by rw [hbt];decide)]
        have hor:done ||| 2^i<2^4:=Nat.or_lt_two_pow hdone (Nat.pow_lt_pow_right (by decide) (by omega))
        have hud:=und_or hlt hbt
        have f1:IntKind.i64.wrap ((1:Int)*2^(min i IntKind.i64.bits))=((2^i:Nat):Int):=by
          have:=shlW (a:=1) (k:=i) (by omega) (by omega)
          simpa using this
        have hp2:2^i<2^29:=Nat.pow_lt_pow_right (by decide) (by omega)
        have f2:=orW (a:=done) (b:=2^i) (Nat.lt_of_lt_of_le hdone (by decide)) hp2
        have b1':getH H1 (H.length+1) = .cells (resC ((Lc.take 0).foldl pickR bi)):=b1
        refine RX_whileU (α:=Nat × List Obj) (fun y=>[(49,.c (.int .i64 (y.1:Nat)))]) (fun y=>y.2) (fun y=>y.1≤most+1-b∧Keep (fun o=>OwnS mk mt o∨o=H.length+1) H0 y.2∧SS g1 g2 g3 g4 g5 j wo so mk mt most y.2∧getH y.2 (H.length+1) = .cells (resC ((Lc.take y.1).foldl pickR bi))) (fun y=>most+1-b-y.1) (0,H1) ⟨Nat.zero_le _,K1,S1,b1'⟩ (by simp only [go_sem]<;>rfl) ?_
        rintro ⟨d,H2⟩ ⟨hd,K2,S2,b2⟩
        simp only at hd K2 S2 b2
        have x2:=K2.get nx x0 (by simp)
        have l2:=K2.1
        have es2:=S2.s
        by_cases hdl:d<most+1-b
        · have d0:(d:Int)<((most+1-b:Nat):Int):=by omega
          have e6:IntKind.i64.wrap ((d:Int)+1)=((d+1:Nat):Int):=wrap_succ (n:=3000) (by omega) (by decide)
          have f3:IntKind.i64.wrap ((b:Int)+d)=((b+d:Nat):Int):=by rw [wrapB (by omega) (by omega)];omega
          have lx2:=lt_of_getH (h:=H2) (o:=H.length) (by rw [x2];simp)
          have ls2:=lt_of_getH (h:=H2) (o:=so) (by rw [es2];simp)
          have lb2:=lt_of_getH (h:=H2) (o:=H.length+1) (by rw [b2];simp)
          simp only [go_sem,hdl,d0,x2,es2,getH_left,lx2,ls2,lb2,f1,f2,f3,i0]
          refine (ih (und j.pieces.length (done ||| 2^i)) (by omega) (done ||| 2^i) (b+d) rfl hor (by omega) (S2.app (X:=[.none]))).mono ?_
          rintro r H3 ⟨rfl,K3,S3⟩
          have l3:=K3.1
          simp only [List.length_append,List.length_cons,List.length_nil] at l3
          have nmk2:mk<H2.length:=by obtain ⟨_,_,h⟩:=S2.k;exact lt_of_getH (by rw [h];simp)
          have nmt2:mt<H2.length:=by obtain ⟨_,_,h⟩:=S2.t;exact lt_of_getH (by rw [h];simp)
          have nown:¬OwnS mk mt H2.length:=by rintro (h | h)<;>omega
          have nownb:¬OwnS mk mt (H.length+1):=by rintro (h | h)<;>omega
          have nownx:¬OwnS mk mt H.length:=fun h=>nx (.inl h)
          have hh3:isHole H3 H2.length=true:=K3.hole nown (by simp) (by simp only [go_sem])
          have g3n:getH H3 H2.length = .none:=by rw [K3.2 _ nown (by simp)];simp only [go_sem]
          have x3:=K3.get nownx (getH_keep x2 (by simp)) (by simp)
          have b3:=K3.get nownb (getH_keep b2 (by simp)) (by simp)
          have es3:=S3.s
          have bd:=fromF_bd (g:=gnJ j) (n:=j.pieces.length) (most:=most) (f:=und j.pieces.length (done ||| 2^i)) (done:=done ||| 2^i) (b:=b+d)
          have hrd:frJ j most (done ||| 2^i) (b+d)=fromF (gnJ j) j.pieces.length most (und j.pieces.length (done ||| 2^i)) (done ||| 2^i) (b+d):=rfl
          rw [←hrd] at bd
          have hcd:Lc.getD d default=candR (gnJ j) (frJ j most (done ||| 2^i) (b+d)) i b d:=by
            rw [hLc,candI,List.getD_eq_getElem?_getD,List.getElem?_map,List.getElem?_range hdl];rfl
          obtain ⟨r,hr⟩:∃r,r=frJ j most (done ||| 2^i) (b+d):=⟨_,rfl⟩
          rw [←hr] at bd hcd ⊢
          have lh3:H2.length<H3.length:=by omega
          have y0:¬H2.length=so:=by omega
          have y1:¬so=H2.length:=by omega
          have y2:¬H2.length=H.length:=by omega
          have y3:¬H.length=H2.length:=by omega
          have y4:¬H2.length=H.length+1:=by omega
          have y5:¬H.length+1=H2.length:=by omega
          simp only [go_sem,hh3,x3,es3,getH_setH,length_setH,lh3,y0,y1,y2,y3,y4,y5]
          obtain ⟨H4,hH4⟩:∃H4,H4=setH (setH H3 H2.length (.cells [.int .i64 0,.int .i64 0,.int .i64 0,.int .i64 0])) H2.length (.cells (resC r)):=⟨_,rfl⟩
          have hH4':setH (setH H3 H2.length (.cells [.int .i64 0,.int .i64 0,.int .i64 0,.int .i64 0])) H2.length (.cells [.int .i64 r.many,.int .i64 r.dips,.int .i64 r.piece,.int .i64 r.sd])=H4:=hH4.symm
          rw [hH4']
          have K34:Keep (fun o=>o=H2.length) H3 H4:=by rw [hH4];exact (setK (own:=fun o=>o=H2.length) rfl).trans (setK rfl)
          have S4:=S3.keepO K34 (fun o ho _=>⟨by omega,by rw [ho,g3n];exact Free.none⟩)
          have q4:getH H4 H2.length = .cells (resC r):=by rw [hH4,getH_setH,if_pos ⟨rfl,by rw [length_setH];omega⟩]
          have x4:=K34.get (by omega) x3 (by simp)
          have b4:=K34.get (by omega) b3 (by simp)
          refine (Fgain hj hlt (by omega) (by omega) S4).mono ?_
          rintro v5 H5 ⟨rfl,K5,S5⟩
          have q5:=K5.get nown q4 (by simp)
          have x5:=K5.get nownx x4 (by simp)
          have b5:=K5.get nownb b4 (by simp)
          have lg5:=lt_of_getH (h:=H5) (o:=H2.length) (by rw [q5];simp)
          have lb5:=lt_of_getH (h:=H5) (o:=H.length+1) (by rw [b5];simp)
          have gb:=gain_bd (b:=rightW j i b d)
          have bd2:=bd.2.2.2.1 (by omega)
          have bd3:=bd.2.2.1
          have bd4:=und_le (n:=j.pieces.length) (done:=done ||| 2^i)
          have bd5:=bd.2.1
          have w1:IntKind.i64.wrap (r.many+gainI (rightW j i b d))=(Lc.getD d default).many:=by rw [hcd,wrapB (by omega) (by omega)];rfl
          have w2:IntKind.i64.wrap (r.dips+d)=(Lc.getD d default).dips:=by rw [hcd,wrapB (by omega) (by omega)];rfl
          have w3:(i:Int)=(Lc.getD d default).piece:=by rw [hcd];rfl
          have w4:(d:Int)=(Lc.getD d default).sd:=by rw [hcd];rfl
          have hstep:(Lc.take (d+1)).foldl pickR bi=pickR ((Lc.take d).foldl pickR bi) (Lc.getD d default):=by
            rw [take_getD (by omega) default,List.foldl_append];rfl
          obtain ⟨cn,hcn⟩:∃cn,cn=Lc.getD d default:=⟨_,rfl⟩
          obtain ⟨bs,hbs⟩:∃bs,bs=(Lc.take d).foldl pickR bi:=⟨_,rfl⟩
          rw [←hcn] at w1 w2 w3 w4 hstep
          rw [←hbs] at b5 hstep
          have hB:∀{Q:V→Prop},CallP tab 170 [.agg [.int .i64 cn.many,.int .i64 cn.dips,.int .i64 (i:Int),.int .i64 (d:Int)],.agg [.int .i64 bs.many,.int .i64 bs.dips,.int .i64 bs.piece,.int .i64 bs.sd]] Q↔Q (.c (.bool (betterB cn bs))):=by
            intro Q
            have:=pbetter (r:=cn) (x:=bs) (Q:=Q)
            simp only [resV,←w3,←w4] at this
            exact this
          have hcells:[C.int .i64 cn.many,.int .i64 cn.dips,.int .i64 (i:Int),.int .i64 (d:Int)]=resC cn:=by simp only [resC,←w3,←w4]
          have KF:∀(H6:List Obj),Keep (fun o=>o=H2.length∨o=H.length+1) H5 H6→Keep (fun o=>OwnS mk mt o∨o=H.length+1) H0 H6:=fun H6 K6=>by
            refine K2.trans ⟨by have:=K5.1;have:=K34.1;have:=K6.1;omega,fun o ho hl=>?_⟩
            rw [K6.2 o (fun h=>by rcases h with h | h;omega;exact ho (.inr h)) (by have:=K5.1;have:=K34.1;omega),K5.2 o (fun h=>ho (.inl h)) (by have:=K34.1;omega),K34.2 o (by omega) (by omega),K3.2 o (fun h=>ho (.inl h)) (by simp;omega),getH_left hl]
          have SF:∀(H6:List Obj),Keep (fun o=>o=H2.length∨o=H.length+1) H5 H6→SS g1 g2 g3 g4 g5 j wo so mk mt most H6:=fun H6 K6=>S5.keepO K6 (fun o ho _=>by
            rcases ho with rfl | rfl
            · exact ⟨by omega,by rw [q5];exact Free.cells (by simp)⟩
            · exact ⟨Ne.symm nsb,by rw [b5];exact Free.cells (by simp)⟩)
          cases hbt2:betterB cn bs with
          | true=>
            have hp:pickR bs cn=cn:=by rw [pickR,if_pos hbt2]
            rw [hp] at hstep
            simp only [go_sem,q4,q5,x5,b5,getH_setH,length_setH,lg5,lb5,y0,y1,y2,y3,y4,y5,false_and,w1,w2,←w3,←w4,hB,hbt2,e6]
            refine ⟨(d+1,_),⟨by simp only;omega,by simp only;omega,KF _ ?_,SF _ ?_,?_⟩,rfl,rfl⟩
            · exact (setK (.inl rfl)).trans (setK (.inr rfl))
            · exact (setK (.inl rfl)).trans (setK (.inr rfl))
            · simp only [getH_setH,length_setH,lb5,true_and,if_true,hstep,hcells]
          | false=>
            have hp:pickR bs cn=bs:=by rw [pickR,if_neg (by rw [hbt2];decide)]
            rw [hp] at hstep
            simp only [go_sem,q4,q5,x5,b5,getH_setH,length_setH,lg5,lb5,y0,y1,y2,y3,y4,y5,false_and,w1,w2,←w3,←w4,hB,hbt2,e6]
            refine ⟨(d+1,_),⟨by simp only;omega,by simp only;omega,KF _ (setK (.inl rfl)),SF _ (setK (.inl rfl)),?_⟩,rfl,rfl⟩
            simp only [hstep]
            rw [getH_setH,if_neg (by omega),b5]
        · have:d=most+1-b:=by omega
          subst this
          have d0:¬((most+1-b:Nat):Int)<((most+1-b:Nat):Int):=by omega
          simp only [go_sem,d0,e4]
          refine ⟨(i+1,H2),⟨by simp only;omega,by simp only;omega,K2,S2,?_⟩,by trivial⟩
          simp only [hfold,hend]
          rw [b2,List.take_of_length_le (by omega)]
    · have:i=j.pieces.length:=by omega
      subst this
      rw [←hfr] at b1
      simp only [go_sem,hlt,x1,b1,es1,hk1,z0,z1,z2,z3,z4,z5,z6,z7,z8,z9,z10,z11,z12,z13,z14,z15,z16,z17,nkb,ntb,nsb,getH_setH,length_setH,lb1,b1,false_and,Ne.symm nkb]
      obtain ⟨H2,hH2⟩:∃H2,H2=setH (setH H1 mk (.map true true ks2 (putE [.int .i64 (done:Int),.int .i64 (b:Int)] (resC (frJ j most done b)) ek1))) (H.length+1) (.cells (resC (frJ j most done b))):=⟨_,rfl⟩
      have hH2':setH (setH H1 mk (.map true true [some .i64,some .i64] (putE [.int .i64 (done:Int),.int .i64 (b:Int)] [.int .i64 (frJ j most done b).many,.int .i64 (frJ j most done b).dips,.int .i64 (frJ j most done b).piece,.int .i64 (frJ j most done b).sd] ek1))) (H.length+1) (.cells [.int .i64 (frJ j most done b).many,.int .i64 (frJ j most done b).dips,.int .i64 (frJ j most done b).piece,.int .i64 (frJ j most done b).sd])=H2:=hH2.symm
      rw [hH2']
      have gg:∀o,o≠mk→getH H2 o=getH H1 o:=fun o ho=>by
        rw [hH2,getH_setH]
        split
        · rename_i h;rw [h.1,b1]
        · rw [getH_setH,if_neg (fun h=>ho h.1)]
      have gl:H2.length=H1.length:=by rw [hH2,length_setH,length_setH]
      have gm:getH H2 mk = .map true true ks2 (putE [.int .i64 (done:Int),.int .i64 (b:Int)] (resC (frJ j most done b)) ek1):=by
        rw [hH2,getH_setH,if_neg (fun h=>nkb h.1),getH_setH,if_pos ⟨rfl,lk1⟩]
      have K12:Keep (fun o=>o=mk) H1 H2:=⟨by omega,fun o ho _=>gg o ho⟩
      obtain ⟨et1,het1,ht1⟩:=S1.t
      refine ⟨⟨by have:=K0'.1;omega,fun o ho hl=>by rw [K12.2 o (fun h=>ho (.inl h)) (by omega),K1.2 o (fun h=>h.elim ho (by omega)) (by omega),K0'.2 o id hl]⟩,S1.ws.keepO K12 fun o ho _=>.inl ⟨true,true,ks2,ek1,(congrArg (getH H1) ho).trans hk1⟩,?_,⟨_,hek1.put,gm⟩,⟨et1,het1,?_⟩⟩
      · rw [gg _ (by rintro rfl;rw [hk1] at es1;cases es1),es1]
      · rw [gg _ (by rintro rfl;rw [hk1] at ht1;cases ht1),ht1]
end Am.Vt
namespace Am.Vt
open Go Am
set_option maxRecDepth 100000
set_option maxHeartbeats 4000000
set_option linter.unusedSimpArgs false
set_option linter.unusedVariables false
variable {g1 g2 g3 g4 g5 g gt:Bool × Bool} {j:Job} {v:Vat} {plan:List Stp} {t:Truth} {s:Sh} {wo so mk mt most:Nat}
theorem Fsearched {H:List Obj} (hW:WS g1 g2 g3 g4 g5 j wo H):Fn tab (.f 93 [.c (.ptr wo 0),.c (.int .i64 (most:Int))] H) fun r H'=>∃so mk mt,H.length≤so∧H.length≤mk∧H.length≤mt∧r = .c (.ptr so 0)∧Keep K0 H H'∧SS g1 g2 g3 g4 g5 j wo so mk mt most H':=by
  refine Fn_X (fn:=f93) rfl rfl ?_
  simp only [go_sem,f93]
  refine ⟨H.length+2,H.length,H.length+1,by omega,by omega,by omega,rfl,Keep.append,⟨hW.app,?_,⟨[],(fun e he=>nomatch he),?_⟩,⟨[],(fun e he=>nomatch he),?_⟩⟩⟩
  all_goals simp only [go_sem]
theorem fromS_mem {g:Gn} {n most done b:Nat}:fromS g n most done b=res0∨∃i d,i<n∧done.testBit i=false∧b+d≤most∧fromS g n most done b=candR g (fromS g n most (done ||| 2^i) (b+d)) i b d:=by
  unfold fromS
  cases hu:und n done with
  | zero=>exact .inl rfl
  | succ f=>
    rcases fromF_mem (g:=g) (n:=n) (most:=most) (f:=f) (done:=done) (b:=b) with e | ⟨i,hi,hb,d,hd,e⟩
    · exact .inl e
    · have:=und_or hi hb
      exact .inr ⟨i,d,hi,hb,hd,by rw [e,show und n (done ||| 2^i)=f by omega]⟩
theorem Free.arr {f:Bool} {ver sz:Nat} {w:List (List D)} (h:sz≠20):Free (.arr f ver sz w):=⟨fun _ h=>Obj.noConfusion h,fun _ _ _ e=>(by cases e;exact h rfl),fun _ _ _ _ h=>Obj.noConfusion h⟩
abbrev planJ (j:Job) (most:Nat):List Stp:=pathS (gnJ j) j.pieces.length most 0 0
theorem Fplan (hj:j.Valid) (hmost:most≤20) {H:List Obj} (hS:SS g1 g2 g3 g4 g5 j wo so mk mt most H) :
    Fn tab (.f 94 [.c (.ptr so 0)] H) fun r H'=>∃o,H.length≤o∧r = .tup [.c (.sl o (planJ j most).length 0 (planJ j most).length),resV (frJ j most 0 0)]∧getH H' o = .arr false (planJ j most).length 2 ((planJ j most).map Row.row)∧Keep (OwnS mk mt) H H':=by
  refine Fn_X (fn:=f94) rfl rfl ?_
  simp only [go_sem,f94]
  refine (Ffrom hj hmost (und j.pieces.length 0) 0 0 rfl (by decide) (by omega) hS.app).mono ?_
  rintro r H1 ⟨rfl,K1,S1⟩
  have n4:=hj.pieces4
  have l1:=K1.1
  simp only [List.length_append,List.length_cons,List.length_nil] at l1
  have nmk:mk<H.length:=by obtain ⟨_,_,h⟩:=hS.k;exact lt_of_getH (by rw [h];simp)
  have nmt:mt<H.length:=by obtain ⟨_,_,h⟩:=hS.t;exact lt_of_getH (by rw [h];simp)
  have nso:=lt_of_getH (h:=H) (o:=so) (by rw [hS.s];simp)
  have now:∀o,H.length≤o→¬OwnS mk mt o:=fun o ho h=>by rcases h with h | h<;>omega
  have g0:=K1.get (now H.length (by omega)) (x:=.cells [.int .i64 0,.int .i64 0,.int .i64 0,.int .i64 0]) (by simp only [go_sem]) (by simp)
  have g1':=K1.get (now (H.length+1) (by omega)) (x:=.cells [.int .i64 0,.int .i64 0]) (by simp only [go_sem]) (by simp)
  have lg0:=lt_of_getH (h:=H1) (o:=H.length) (by rw [g0];simp)
  have lg1:=lt_of_getH (h:=H1) (o:=H.length+1) (by rw [g1'];simp)
  simp only [go_sem,g0,g1',getH_setH,length_setH,lg0,lg1,false_and,getH_left]
  obtain ⟨H2,hH2⟩:∃H2,H2=setH H1 H.length (.cells (resC (frJ j most 0 0))):=⟨_,rfl⟩
  have hH2':setH H1 H.length (.cells [.int .i64 (frJ j most 0 0).many,.int .i64 (frJ j most 0 0).dips,.int .i64 (frJ j most 0 0).piece,.int .i64 (frJ j most 0 0).sd])=H2:=hH2.symm
  rw [hH2']
  have l2:H2.length=H1.length:=by rw [hH2,length_setH]
  have k0:getH H2 H.length = .cells (resC (frJ j most 0 0)):=by rw [hH2,getH_setH,if_pos ⟨rfl,lg0⟩]
  have K12:Keep (fun o=>o=H.length) H1 H2:=by rw [hH2];exact setK rfl
  have k1:=K12.get (by omega) g1' (by simp)
  have S2:=S1.keepO K12 (fun o ho _=>⟨by omega,by rw [ho,g0];exact Free.cells (by simp)⟩)
  obtain ⟨H3,hH3⟩:∃H3,H3=H2++[.cells (resC (frJ j most 0 0)),.arr false 0 2 []]:=⟨_,rfl⟩
  have l3:H3.length=H1.length+2:=by rw [hH3];simp;omega
  have q0:getH H3 H.length = .cells (resC (frJ j most 0 0)):=by rw [hH3];exact getH_keep k0 (by simp)
  have q1:getH H3 (H.length+1) = .cells [.int .i64 ((0:Nat):Int),.int .i64 ((0:Nat):Int)]:=by rw [hH3];exact getH_keep k1 (by simp)
  have q2:getH H3 H1.length = .cells (resC (frJ j most 0 0)):=by rw [hH3,←l2];simp only [go_sem]
  have q3:getH H3 (H1.length+1) = .arr false 0 2 (([]:List Stp).map Row.row):=by rw [hH3,←l2];simp only [go_sem,List.map_nil]
  have S3:SS g1 g2 g3 g4 g5 j wo so mk mt most H3:=by rw [hH3];exact S2.app
  refine RX_whileU (α:=List Stp × Nat × Nat × Nat × List Obj) (fun y=>[(2,.c (.sl (H1.length+1) y.1.length 0 y.1.length)),(5,.c (.ptr y.2.2.2.1 0))]) (fun y=>y.2.2.2.2) (fun y=>Keep (fun o=>OwnS mk mt o∨o=H.length+1∨o=H1.length+1) H3 y.2.2.2.2∧getH y.2.2.2.2 (H.length+1) = .cells [.int .i64 (y.2.1:Int),.int .i64 (y.2.2.1:Int)]∧getH y.2.2.2.2 y.2.2.2.1 = .cells (resC (frJ j most y.2.1 y.2.2.1))∧H1.length≤y.2.2.2.1∧getH y.2.2.2.2 (H1.length+1) = .arr false y.1.length 2 (y.1.map Row.row)∧SS g1 g2 g3 g4 g5 j wo so mk mt most y.2.2.2.2∧y.1++pathS (gnJ j) j.pieces.length most y.2.1 y.2.2.1=planJ j most∧y.1.length+und j.pieces.length y.2.1=j.pieces.length∧y.2.1<2^4∧y.2.2.1≤most) (fun y=>und j.pieces.length y.2.1) ([],0,0,H1.length,H3) ⟨Keep.refl,q1,q2,Nat.le_refl _,q3,S3,rfl,by simp [und_0],(show (0:Nat)<2^4 by decide),Nat.zero_le _⟩ (by simp only [go_sem,hH3,l2]<;>rfl) ?_
  rintro ⟨pre,done,b,rc,H4⟩ ⟨K4,x4,r4,hrc,a4,S4,hpath,hlen,hdone,hb⟩
  simp only at K4 x4 r4 hrc a4 S4 hpath hlen hdone hb
  have nrc:rc≠H1.length+1:=by rintro rfl;rw [a4] at r4;cases r4
  have l4:=K4.1
  have lr4:=lt_of_getH (h:=H4) (o:=rc) (by rw [r4];simp)
  have lx4:=lt_of_getH (h:=H4) (o:=H.length+1) (by rw [x4];simp)
  have la4:=lt_of_getH (h:=H4) (o:=H1.length+1) (by rw [a4];simp)
  have k4:=K4.get (o:=H.length) (by rintro (h | h | h);exact now _ (by omega) h;omega;omega) q0 (by simp)
  have lk4:=lt_of_getH (h:=H4) (o:=H.length) (by rw [k4];simp)
  by_cases hp:(frJ j most done b).piece≥0
  · rcases fromS_mem (g:=gnJ j) (n:=j.pieces.length) (most:=most) (done:=done) (b:=b) with e | ⟨i,d,hi,hbt,hbd,e⟩
    · have:frJ j most done b=res0:=e
      rw [this] at hp;exact absurd hp (by decide)
    · have e':frJ j most done b=candR (gnJ j) (frJ j most (done ||| 2^i) (b+d)) i b d:=e
      have ep:(frJ j most done b).piece=i:=by rw [e'];rfl
      have ed:(frJ j most done b).sd=d:=by rw [e'];rfl
      have i0:(i:Int)≥0:=by omega
      have hpa:pathS (gnJ j) j.pieces.length most done b=⟨(i:Int),(d:Int)⟩::pathS (gnJ j) j.pieces.length most (done ||| 2^i) (b+d):=by
        rw [pathS_eq,if_pos hp]
        show (⟨(frJ j most done b).piece,(frJ j most done b).sd⟩:Stp)::pathS _ _ _ (done ||| 2^(frJ j most done b).piece.toNat) (b+(frJ j most done b).sd.toNat)=_
        rw [ep,ed,Int.toNat_natCast,Int.toNat_natCast]
      have hud:=und_or hi hbt
      have hor:done ||| 2^i<2^4:=Nat.or_lt_two_pow hdone (Nat.pow_lt_pow_right (by decide) (by omega))
      have f1:IntKind.i64.wrap ((1:Int)*2^(min i IntKind.i64.bits))=((2^i:Nat):Int):=by
        have:=shlW (a:=1) (k:=i) (by omega) (by omega)
        simpa using this
      have hp2:2^i<2^29:=Nat.pow_lt_pow_right (by decide) (by omega)
      have f2:=orW (a:=done) (b:=2^i) (Nat.lt_of_lt_of_le hdone (by decide)) hp2
      have f3:IntKind.i64.wrap ((b:Int)+d)=((b+d:Nat):Int):=by rw [wrapB (by omega) (by omega)];omega
      have i1:¬(i:Int)<0:=by omega
      have b5:(pre.length+1)*16≤2^40:=by omega
      obtain ⟨rr,hrr⟩:∃rr,rr=frJ j most done b:=⟨_,rfl⟩
      rw [←hrr] at r4 ep ed
      have r4':getH H4 rc = .cells [.int .i64 rr.many,.int .i64 rr.dips,.int .i64 (i:Int),.int .i64 (d:Int)]:=by rw [r4];simp only [resC,ep,ed]
      have z0:¬rc=H4.length:=by omega
      have z1:¬H4.length=rc:=by omega
      have z2:¬rc=H4.length+1:=by omega
      have z3:¬H4.length+1=rc:=by omega
      have z4:¬rc=H4.length+2:=by omega
      have z5:¬H4.length+2=rc:=by omega
      have z6:¬H1.length+1=H4.length:=by omega
      have z7:¬H4.length=H1.length+1:=by omega
      have z8:¬H1.length+1=H4.length+1:=by omega
      have z9:¬H4.length+1=H1.length+1:=by omega
      have z10:¬H1.length+1=H4.length+2:=by omega
      have z11:¬H4.length+2=H1.length+1:=by omega
      have z12:¬H.length+1=H4.length:=by omega
      have z13:¬H4.length=H.length+1:=by omega
      have z14:¬H.length+1=H4.length+1:=by omega
      have z15:¬H4.length+1=H.length+1:=by omega
      have z16:¬H.length+1=H4.length+2:=by omega
      have z17:¬H4.length+2=H.length+1:=by omega
      have w0:¬H1.length+1=rc:=by omega
      have w1:¬rc=H1.length+1:=by omega
      have w2:¬H1.length+1=H.length+1:=by omega
      have w3:¬H.length+1=H1.length+1:=by omega
      have w4:¬H1.length+1=H.length:=by omega
      have w5:¬H.length=H1.length+1:=by omega
      have w6:¬rc=H.length+1:=by omega
      have w7:¬H.length+1=rc:=by omega
      have w8:¬rc=H.length:=by omega
      have w9:¬H.length=rc:=by omega
      simp only [go_sem,r4',x4,a4,i0,i1,getH_left,setH_left,getH_setH,length_setH,getH_atL,getH_atL0,setH_atL,setH_atL0,isHole_atL,isHole_atL0,lr4,lx4,la4,z0,z1,z2,z3,z4,z5,z6,z7,z8,z9,z10,z11,z12,z13,z14,z15,z16,z17,w0,w1,w2,w3,w4,w5,w6,w7,w8,w9,b5,f1,f2,f3,false_and]
      obtain ⟨H5,hH5⟩:∃H5,H5=setH (setH H4 (H1.length+1) (.arr false (pre.length+1) 2 (pre.map Row.row++[[.int .i64 (i:Int),.int .i64 (d:Int)]]))) (H.length+1) (.cells [.int .i64 ((done ||| 2^i:Nat):Int),.int .i64 ((b+d:Nat):Int)])++[.arr false 0 2 [[.int .i64 (i:Int),.int .i64 (d:Int)]],.none,.cells [.int .i64 rr.many,.int .i64 rr.dips,.int .i64 (i:Int),.int .i64 (d:Int)]]:=⟨_,rfl⟩
      rw [←hH5]
      have l5:H5.length=H4.length+3:=by rw [hH5];simp [length_setH]
      have K45:Keep (fun o=>o=H.length+1∨o=H1.length+1) H4 H5:=by rw [hH5];exact (setK (.inr rfl)).trans ((setK (.inl rfl)).trans Keep.append)
      have a5:getH H5 (H1.length+1) = .arr false (pre.length+1) 2 ((pre++[(⟨(i:Int),(d:Int)⟩:Stp)]).map Row.row):=by
        rw [hH5,getH_left (by simp only [length_setH];omega),getH_setH,if_neg (by omega),getH_setH,if_pos ⟨rfl,la4⟩,List.map_append];rfl
      have x5:getH H5 (H.length+1) = .cells [.int .i64 ((done ||| 2^i:Nat):Int),.int .i64 ((b+d:Nat):Int)]:=by
        rw [hH5,getH_left (by simp only [length_setH];omega),getH_setH,if_pos ⟨rfl,by rw [length_setH];exact lx4⟩]
      have r5:getH H5 (H4.length+2) = .cells [.int .i64 rr.many,.int .i64 rr.dips,.int .i64 (i:Int),.int .i64 (d:Int)]:=by
        rw [hH5,getH_atL (by simp only [length_setH])];rfl
      have S5:=S4.keepO K45 (fun o ho _=>by
        rcases ho with rfl | rfl
        · exact ⟨by omega,by rw [x4];exact Free.cells (by simp)⟩
        · exact ⟨by omega,by rw [a4];exact Free.arr (by decide)⟩)
      refine (Ffrom hj hmost (und j.pieces.length (done ||| 2^i)) (done ||| 2^i) (b+d) rfl hor hbd S5).mono ?_
      rintro v6 H6 ⟨rfl,K6,S6⟩
      have l6:=K6.1
      have r6:=K6.get (now _ (by omega)) r5 (by simp)
      have x6:=K6.get (now _ (by omega)) x5 (by simp)
      have a6:=K6.get (now _ (by omega)) a5 (by simp)
      have lr6:=lt_of_getH (h:=H6) (o:=H4.length+2) (by rw [r6];simp)
      simp only [go_sem,r6]
      refine ⟨(pre++[⟨(i:Int),(d:Int)⟩],done ||| 2^i,b+d,H4.length+2,setH H6 (H4.length+2) (.cells (resC (frJ j most (done ||| 2^i) (b+d))))),⟨by simp only;omega,?_,?_,?_,by simp only;omega,?_,?_,?_,by simp only [List.length_append,List.length_singleton];omega,hor,hbd⟩,?_⟩
      · simp only
        refine ⟨by rw [length_setH];omega,fun o ho hl=>?_⟩
        rw [getH_setH,if_neg (by omega),K6.2 o (fun h=>ho (.inl h)) (by omega),K45.2 o (fun h=>ho (.inr h)) (by omega),K4.2 o ho hl]
      · simp only
        rw [getH_setH,if_neg (by omega)];exact x6
      · simp only
        rw [getH_setH,if_pos ⟨rfl,lr6⟩]
      · simp only
        rw [getH_setH,if_neg (by omega),a6,List.length_append,List.length_singleton]
      · simp only
        exact S6.keepO (own:=fun o=>o=H4.length+2) (setK rfl) (fun o ho _=>⟨by omega,by rw [ho,r6];exact Free.cells (by simp)⟩)
      · simp only
        rw [List.append_assoc,←hpath,hpa];rfl
      · simp only [List.length_append,List.length_singleton,and_self]
  · have hpa:pathS (gnJ j) j.pieces.length most done b=[]:=by rw [pathS_eq,if_neg hp]
    rw [hpa,List.append_nil] at hpath
    subst hpath
    simp only [go_sem,r4,hp,k4,getH_setH,length_setH,lk4]
    refine ⟨H1.length+1,by omega,rfl,?_,?_⟩
    · rw [if_neg (by omega)];exact a4
    · refine ⟨by rw [length_setH];omega,fun o ho hl=>?_⟩
      rw [getH_setH,if_neg (by omega),K4.2 o (by omega) (by omega),hH3,getH_left (by omega),hH2,getH_setH,if_neg (by omega),K1.2 o ho (by simp;omega),getH_left hl]
def BestR (j:Job):V:=if askJ j true≠0 then .tup [.c .nils,.c (.int .i64 0),.c (.int .i64 (askJ j true))] else if (frJ j 20 0 0).many<j.pieces.length then .tup [.c .nils,.c (.int .i64 0),.c (.int .i64 10)] else .tup [.c (L (false,false) (planJ j 20)),.c (.int .i64 (frJ j 20 0 0).dips),.c (.int .i64 0)]
theorem pBest (hf:j.Fits) {Q:V→Prop}:CallP tab 51 [jobV g1 g2 g3 g4 g5 j] Q↔Q (BestR j):=CallP_of (by
  refine Val_X (fn:=f51) rfl ?_
  have fa:=fun H=>Fasked7 (j:=j) (b:=true) (F:=.fn 95 false [] []) (H:=H) (g1:=g1) (g2:=g2) (g3:=g3) (g4:=g4) (g5:=g5) hf rfl (fun h0 H' hk=>by
    rw [CallV_fn]
    refine Fn_X (fn:=f95) rfl rfl ?_
    simp only [go_sem,f95]
    exact Keep.refl)
  simp only [jobV] at fa
  simp only [go_sem,f51]
  refine (fa _).mono ?_
  rintro r H1 ⟨hk,⟨h1,rfl⟩ | ⟨h1,wo,c,hwo,rfl,hw,hT⟩⟩
  · simp only [go_sem,BestR,h1]
  · obtain ⟨h0,_⟩:=askJ_ok h1
    have hj:=jvalid_of h0
    have W1:WS g1 g2 g3 g4 g5 j wo H1:=⟨c,hw,hT.zero⟩
    have e0:=hk.get (o:=0) id rfl (by simp [getH])
    have l1:=hk.1
    simp only [getH] at e0
    simp only [go_sem]
    refine (Fsearched (most:=20) W1.app).mono ?_
    rintro r H2 ⟨so,mk,mt,hs1,hs2,hs3,rfl,K2,S2⟩
    simp only [List.length_append,List.length_cons,List.length_nil] at hs1 hs2 hs3
    simp only [go_sem]
    refine (Fplan hj (by omega) S2).mono ?_
    rintro r H3 ⟨o,ho,rfl,go,K3⟩
    have l2:=K2.1
    have l3:=K3.1
    simp only [List.length_append,List.length_cons,List.length_nil] at l2
    simp only [List.length_append,List.length_cons,List.length_nil] at l1
    have K23:Keep (OwnS mk mt) (H1++[.none]) H3:=(K2.mono fun o h=>h.elim).trans K3
    have hh:isHole H3 H1.length=true:=K23.hole (by rintro (h | h)<;>omega) (by simp) (by simp only [go_sem])
    have e3:=K23.get (o:=0) (by rintro (h | h)<;>omega) (getH_keep e0 (by simp)) (by simp)
    have lh:H1.length<H3.length:=by omega
    have lo:=lt_of_getH (h:=H3) (o:=o) (by rw [go];simp)
    have l0:0<H3.length:=by omega
    have z0:¬H1.length=0:=by omega
    have z1:¬0=H1.length:=by omega
    have z2:¬H1.length=o:=by omega
    have z3:¬o=H1.length:=by omega
    have hpt:=part_map (l:=planJ j 20) (n:=(planJ j 20).length) rfl
    simp only [part,dropN] at hpt
    by_cases hm:(frJ j 20 0 0).many<j.pieces.length
    · simp only [go_sem,hh,getH_setH,length_setH,lh,lo,l0,z0,z1,z2,z3,e3,hm,false_and,BestR,h1]
    · simp only [go_sem,hh,getH_setH,length_setH,lh,lo,l0,z0,z1,z2,z3,e3,hm,false_and,go,hpt,BestR,h1])
def mostOk (d:Int):Bool:=inR d 0 20
def MostR (j:Job) (d:Int):V:=if askJ j (mostOk d)≠0 then .tup [.c .nils,.c (.int .i64 0),.c (.int .i64 (askJ j (mostOk d)))] else .tup [.c (L (false,false) (planJ j d.toNat)),.c (.int .i64 (frJ j d.toNat 0 0).many),.c (.int .i64 0)]
theorem pMost (hf:j.Fits) {d:Int} {Q:V→Prop}:CallP tab 49 [jobV g1 g2 g3 g4 g5 j,.c (.int .i64 d)] Q↔Q (MostR j d):=CallP_of (by
  refine Val_X (fn:=f49) rfl ?_
  have fa:=fun H (hH:H=[.cells (jobC g1 g2 g3 g4 g5 j),.cells [.int .i64 d]])=>Fasked7 (j:=j) (b:=mostOk d) (F:=.fn 92 false [] [.ptr 1 0]) (H:=H) (g1:=g1) (g2:=g2) (g3:=g3) (g4:=g4) (g5:=g5) hf rfl (fun h0 H' hk=>by
    rw [CallV_fn]
    refine Fn_X (fn:=f92) rfl rfl ?_
    have e1:=hk.get (o:=1) (x:=.cells [.int .i64 d]) id (by rw [hH];rfl) (by simp)
    simp only [go_sem,f92,e1,pwithin]
    exact ⟨rfl,Keep.refl⟩)
  simp only [jobV] at fa
  simp only [go_sem,f49]
  refine (fa _ rfl).mono ?_
  rintro r H1 ⟨hk,⟨h1,rfl⟩ | ⟨h1,wo,c,hwo,rfl,hw,hT⟩⟩
  · simp only [go_sem,MostR,h1]
  · obtain ⟨h0,hb⟩:=askJ_ok h1
    have hj:=jvalid_of h0
    have W1:WS g1 g2 g3 g4 g5 j wo H1:=⟨c,hw,hT.zero⟩
    rw [mostOk,inR_iff] at hb
    obtain ⟨n,rfl⟩:∃n:Nat,d=n:=⟨d.toNat,by omega⟩
    have e1:=hk.get (o:=1) (x:=.cells [.int .i64 (n:Int)]) id rfl (by simp)
    have l1:=hk.1
    have le1:=lt_of_getH (h:=H1) (o:=1) (by rw [e1];simp)
    simp only [go_sem,getH_left,le1,e1]
    refine (Fsearched (most:=n) W1.app).mono ?_
    rintro r H2 ⟨so,mk,mt,hs1,hs2,hs3,rfl,K2,S2⟩
    simp only [List.length_append,List.length_cons,List.length_nil] at hs1 hs2 hs3
    simp only [go_sem]
    refine (Fplan hj (by omega) S2).mono ?_
    rintro r H3 ⟨o,ho,rfl,go,K3⟩
    have l2:=K2.1
    have l3:=K3.1
    simp only [List.length_append,List.length_cons,List.length_nil] at l2
    simp only [List.length_append,List.length_cons,List.length_nil] at l1
    have K23:Keep (OwnS mk mt) (H1++[.none]) H3:=(K2.mono fun o h=>h.elim).trans K3
    have hh:isHole H3 H1.length=true:=K23.hole (by rintro (h | h)<;>omega) (by simp) (by simp only [go_sem])
    have lh:H1.length<H3.length:=by omega
    have lo:=lt_of_getH (h:=H3) (o:=o) (by rw [go];simp)
    have z0:¬H1.length=o:=by omega
    have z1:¬o=H1.length:=by omega
    have hpt:=part_map (l:=planJ j n) (n:=(planJ j n).length) rfl
    simp only [part,dropN] at hpt
    simp only [go_sem,hh,getH_setH,length_setH,lh,lo,z0,z1,false_and,go,hpt,MostR,h1])
end Am.Vt
namespace Am.Vt
open Go Am
set_option maxRecDepth 100000
set_option maxHeartbeats 4000000
set_option linter.unusedSimpArgs false
set_option linter.unusedVariables false
variable {g1 g2 g3 g4 g5 g gt:Bool × Bool} {j:Job} {v:Vat} {plan:List Stp} {t:Truth} {s:Sh} {wo so mk mt most:Nat}
def noB (j:Job) (i b:Nat):Bool:=(List.range (21-b)).all fun d=>!rightW j i b d
def hopeB (j:Job) (i:Nat):Bool:=(List.range 21).all fun b=>noB j i b
def hopeK (j:Job) (k:Nat):List Int:=((List.range k).filter (hopeB j)).map Int.ofNat
def hopeL (j:Job):List Int:=hopeK j j.pieces.length
theorem hopeK_succ {k:Nat}:hopeK j (k+1)=if hopeB j k=true then hopeK j k++[(k:Int)] else hopeK j k:=by
  unfold hopeK
  rw [List.range_succ,List.filter_append,List.map_append]
  cases h:hopeB j k<;>simp [h]
theorem hopeK_len {k:Nat}:(hopeK j k).length≤k:=by
  have:=List.length_filter_le (hopeB j) (List.range k)
  simpa [hopeK] using this
def HopeR (j:Job):V:=if askJ j true≠0 then .tup [.c .nils,.c (.int .i64 (askJ j true))] else .tup [.c (L (false,false) (hopeL j)),.c (.int .i64 0)]
theorem pHopeless (hf:j.Fits) {Q:V→Prop}:CallP tab 50 [jobV g1 g2 g3 g4 g5 j] Q↔Q (HopeR j):=CallP_of (by
  refine Val_X (fn:=f50) rfl ?_
  have fa:=fun H=>Fasked7 (j:=j) (b:=true) (F:=.fn 95 false [] []) (H:=H) (g1:=g1) (g2:=g2) (g3:=g3) (g4:=g4) (g5:=g5) hf rfl (fun h0 H' hk=>by
    rw [CallV_fn]
    refine Fn_X (fn:=f95) rfl rfl ?_
    simp only [go_sem,f95]
    exact Keep.refl)
  simp only [jobV] at fa
  simp only [go_sem,f50]
  refine (fa _).mono ?_
  rintro r H1 ⟨hk,⟨h1,rfl⟩ | ⟨h1,wo,c,hwo,rfl,hw,hT⟩⟩
  · simp only [go_sem,HopeR,h1]
  · obtain ⟨h0,_⟩:=askJ_ok h1
    have hj:=jvalid_of h0
    have n4:=hj.pieces4
    have W1:WS g1 g2 g3 g4 g5 j wo H1:=⟨c,hw,hT.zero⟩
    have e0:=hk.get (o:=0) (x:=.cells (jobC g1 g2 g3 g4 g5 j)) id rfl (by simp)
    have l1:=hk.1
    simp only [go_sem,e0]
    have hR:HopeR j = .tup [.c (L (false,false) (hopeL j)),.c (.int .i64 0)]:=by rw [HopeR,if_neg (by rw [h1];simp)]
    rw [hR]
    obtain ⟨H2,hH2⟩:∃H2,H2=H1++[.arr false 0 1 []]:=⟨_,rfl⟩
    have l2:H2.length=H1.length+1:=by rw [hH2];simp
    have W2:WS g1 g2 g3 g4 g5 j wo H2:=by rw [hH2];exact W1.app
    have a2:getH H2 H1.length = .arr false (hopeK j 0).length 1 ((hopeK j 0).map Row.row):=by rw [hH2,getH_at0];rfl
    refine RX_whileU (α:=Nat × List Obj) (fun y=>[(6,.c (.sl H1.length (hopeK j y.1).length 0 (hopeK j y.1).length)),(21,.c (.int .i64 (y.1:Nat)))]) (fun y=>y.2) (fun y=>y.1≤j.pieces.length∧H1.length<y.2.length∧WS g1 g2 g3 g4 g5 j wo y.2∧getH y.2 H1.length = .arr false (hopeK j y.1).length 1 ((hopeK j y.1).map Row.row)) (fun y=>j.pieces.length-y.1) (0,H2) ⟨Nat.zero_le _,by simp only;omega,W2,a2⟩ (by simp only [go_sem,hH2]<;>rfl) ?_
    rintro ⟨i,H3⟩ ⟨hi,l3,W3,a3⟩
    simp only at hi l3 W3 a3
    by_cases hlt:i<j.pieces.length
    · have e4:IntKind.i64.wrap ((i:Int)+1)=((i+1:Nat):Int):=wrap_succ (n:=3000) (by omega) (by decide)
      have hkl:=hopeK_len (j:=j) (k:=i)
      have b5:((hopeK j i).length+1)*8≤2^40:=by omega
      simp only [go_sem,hlt]
      refine RX_whileU (α:=Nat × List Obj) (fun y=>[(24,.c (.int .i64 (y.1:Nat)))]) (fun y=>y.2) (fun y=>y.1≤21∧Keep K0 H3 y.2∧∀b,b<y.1→noB j i b=true) (fun y=>21-y.1) (0,H3) ⟨Nat.zero_le _,Keep.refl,fun b h=>by omega⟩ (by simp only [go_sem]<;>rfl) ?_
      rintro ⟨b,H4⟩ ⟨hb,K4,hP⟩
      simp only at hb K4 hP
      by_cases hlb:b<21
      · have hlb':(b:Int)<21:=by omega
        have e5:IntKind.i64.wrap ((b:Int)+1)=((b+1:Nat):Int):=wrap_succ (n:=3000) (by omega) (by decide)
        have f1:IntKind.i64.wrap (IntKind.i64.wrap (20-(b:Int))+1)=((21-b:Nat):Int):=by rw [wrapB (n:=20-(b:Int)) (by omega) (by omega),wrapB (by omega) (by omega)];omega
        simp only [go_sem,hlb',f1]
        refine RX_whileU (α:=Nat × List Obj) (fun y=>[(30,.c (.int .i64 (y.1:Nat)))]) (fun y=>y.2) (fun y=>y.1≤21-b∧Keep K0 H3 y.2∧∀d,d<y.1→rightW j i b d=false) (fun y=>21-b-y.1) (0,H4) ⟨Nat.zero_le _,K4,fun d h=>by omega⟩ (by simp only [go_sem]<;>rfl) ?_
        rintro ⟨d,H5⟩ ⟨hd,K5,hD⟩
        simp only at hd K5 hD
        by_cases hld:d<21-b
        · have e6:IntKind.i64.wrap ((d:Int)+1)=((d+1:Nat):Int):=wrap_succ (n:=3000) (by omega) (by decide)
          simp only [go_sem,hld]
          refine (Fright hj hlt (b:=b) (d:=d) (by omega) (by omega) (W3.keep K5)).mono ?_
          rintro r H6 ⟨rfl,K6⟩
          cases hr:rightW j i b d with
          | true=>
            have hno:hopeB j i=false:=by
              rw [hopeB,List.all_eq_false]
              refine ⟨b,List.mem_range.2 hlb,?_⟩
              rw [noB,Bool.not_eq_true,List.all_eq_false]
              exact ⟨d,List.mem_range.2 hld,by rw [hr];decide⟩
            have hs:hopeK j (i+1)=hopeK j i:=by rw [hopeK_succ,if_neg (by rw [hno];decide)]
            simp only [go_sem,e4]
            have K36:=K5.trans K6
            have l6:=K36.1
            refine ⟨(i+1,H6),⟨by simp only;omega,by simp only;omega,by simp only;omega,W3.keep K36,?_⟩,by simp only [hs,and_self],rfl⟩
            simp only [hs]
            exact K36.get id a3 (by simp)
          | false=>
            simp only [go_sem,e6]
            refine ⟨(d+1,H6),⟨by simp only;omega,by simp only;omega,K5.trans K6,fun x hx=>?_⟩,rfl,rfl⟩
            simp only at hx
            by_cases hxd:x=d
            · rw [hxd];exact hr
            · exact hD x (by omega)
        · have:d=21-b:=by omega
          subst this
          have hn:noB j i b=true:=by
            rw [noB,List.all_eq_true]
            intro d hd
            rw [hD d (List.mem_range.1 hd)];rfl
          simp only [go_sem,hld,e5]
          refine ⟨(b+1,H5),⟨by simp only;omega,by simp only;omega,K5,fun x hx=>?_⟩,rfl,rfl⟩
          simp only at hx
          by_cases hxb:x=b
          · rw [hxb];exact hn
          · exact hP x (by omega)
      · have:b=21:=by omega
        subst this
        have hyes:hopeB j i=true:=by
          rw [hopeB,List.all_eq_true]
          exact fun b hb=>hP b (List.mem_range.1 hb)
        have hs:hopeK j (i+1)=hopeK j i++[(i:Int)]:=by rw [hopeK_succ,if_pos hyes]
        have a4:=K4.get id a3 (by simp)
        have l4:=K4.1
        have la4:=lt_of_getH (h:=H4) (o:=H1.length) (by rw [a4];simp)
        have z0:¬H1.length=H4.length:=by omega
        have z1:¬H4.length=H1.length:=by omega
        have z2:¬H1.length=H4.length+1:=by omega
        have z3:¬H4.length+1=H1.length:=by omega
        simp only [go_sem,hlb,e4,getH_left,setH_left,la4,z0,z1,z2,z3,a4,b5]
        refine ⟨(i+1,_),⟨by simp only;omega,by simp only;omega,by simp only [List.length_append,length_setH];omega,?_,?_⟩,⟨by simp only [hs,List.length_append,List.length_singleton],rfl⟩,rfl⟩
        · exact ((W3.keep K4).keepO (own:=fun o=>o=H1.length) (setK rfl) fun o ho _=>.inr (by rw [ho,a4];exact Free.arr (by decide))).app
        · simp only
          rw [getH_left (by rw [length_setH];exact la4),getH_setH,if_pos ⟨rfl,la4⟩,hs,List.length_append,List.length_singleton,List.map_append];rfl
    · have:i=j.pieces.length:=by omega
      subst this
      have hpt:=part_map (l:=hopeL j) (n:=(hopeL j).length) rfl
      simp only [part,dropN] at hpt
      have a3':getH H3 H1.length = .arr false (hopeL j).length 1 ((hopeL j).map Row.row):=a3
      have hkl:hopeK j j.pieces.length=hopeL j:=rfl
      simp only [go_sem,hlt,hkl,a3',hpt])
def PlayRP (j:Job) (plan:List Stp) (t:Truth):V:=if checkJob j≠0 then .tup [.c .nils,.c (.int .i64 (checkJob j))] else if (totalB j plan&&dipOk j t)=false then .tup [.c .nils,.c (.int .i64 2)] else .tup [.c (L (false,false) (ofS j (dipS j t) plan)),.c (.int .i64 0)]
theorem dipS_ok (hj:j.Valid) {t:Truth}:(dipS j t).Ok:=by
  unfold dipS
  split
  · rename_i h
    simp only [dipOk,Bool.and_eq_true,listed_iff] at h
    exact shadesT_ok hj h.2.1
  · intro x hx
    have:(default:Sh).l=List.replicate 20 0:=rfl
    rw [this] at hx
    have:=List.eq_of_mem_replicate hx
    omega
theorem pPlay (hf:j.Fits) (hp:plan.length<Big) {Q:V→Prop}:CallP tab 17 [jobV g1 g2 g3 g4 g5 j,.c (L g plan),truthG gt t] Q↔Q (PlayRP j plan t):=CallP_of (by
  refine Val_X (fn:=f17) rfl ?_
  have h4:=hf.pieces
  have hc:=fun {Q:V→Prop}=>pCheckJob (j:=j) (g1:=g1) (g2:=g2) (g3:=g3) (g4:=g4) (g5:=g5) hf (Q:=Q)
  have hT:=fun {Q:V→Prop}=>ptotal (plan:=plan) (g:=g) (g1:=g1) (g2:=g2) (g3:=g3) (g4:=g4) (g5:=g5) h4 hp (Q:=Q)
  have hP:=fun {gt:Bool × Bool} {Q:V→Prop}=>pdip (j:=j) (t:=t) (g1:=g1) (g2:=g2) (g3:=g3) (g4:=g4) (g5:=g5) (gt:=gt) hf (Q:=Q)
  simp only [jobV,truthG] at hc hT hP
  by_cases h0:checkJob j=0
  · have hj:=jvalid_of h0
    obtain ⟨d,hdd⟩:∃d,d=dipS j t:=⟨_,rfl⟩
    have hd:=d.h
    have hz:([.int .i64 0,.int .i64 0,.int .i64 0,.int .i64 0,.int .i64 0,.int .i64 0,.int .i64 0,.int .i64 0,.int .i64 0,.int .i64 0,.int .i64 0,.int .i64 0,.int .i64 0,.int .i64 0,.int .i64 0,.int .i64 0,.int .i64 0,.int .i64 0,.int .i64 0,.int .i64 0]:List C)=(default:Sh).l.map intC:=rfl
    have t1:=takeN20 (l:=d.l) hd
    have t2:=splice_eq (xs:=d.l.map intC) (l:=(default:Sh).l.map intC) (by rw [List.length_map,List.length_map,hd];rfl)
    have t3:(d.l.map intC).length=20:=by rw [List.length_map];exact hd
    cases ht:totalB j plan with
    | false=>
      have hR:PlayRP j plan t = .tup [.c .nils,.c (.int .i64 2)]:=by rw [PlayRP,if_neg (by rw [h0];simp),if_pos (by rw [ht];rfl)]
      rw [hR]
      simp only [go_sem,f17,hc,h0,hT,hP,←hdd,ht,hz,t1,t2,t3,obj_ints,disj_nil]
    | true=>
      cases hb:dipOk j t with
      | false=>
        have hR:PlayRP j plan t = .tup [.c .nils,.c (.int .i64 2)]:=by rw [PlayRP,if_neg (by rw [h0];simp),if_pos (by rw [ht,hb];rfl)]
        rw [hR]
        simp only [go_sem,f17,hc,h0,hT,hP,←hdd,ht,hb,hz,t1,t2,t3,obj_ints,disj_nil]
      | true=>
        have hR:PlayRP j plan t = .tup [.c (L (false,false) (ofS j d plan)),.c (.int .i64 0)]:=by rw [PlayRP,if_neg (by rw [h0];simp),if_neg (by rw [ht,hb];decide),hdd]
        have hO:=fun {Q:V→Prop}=>pof (g:=g) (g1:=g1) (g2:=g2) (g3:=g3) (g4:=g4) (g5:=g5) (s:=d) (by rw [hdd];exact dipS_ok hj) h4 ht (Q:=Q)
        simp only [jobV] at hO
        rw [hR]
        simp only [go_sem,f17,hc,h0,hT,hP,←hdd,ht,hb,hz,t1,t2,t3,obj_ints,disj_nil,hO]
  · have hR:PlayRP j plan t = .tup [.c .nils,.c (.int .i64 (checkJob j))]:=by rw [PlayRP,if_pos h0]
    rw [hR]
    simp only [go_sem,f17,hc,h0])
end Am.Vt
