/-
  A part of the proof: the texts Am25, Am26, Am27, Am28, Am29 of this seat, joined.
-/
import Derived.Test.YtninmcgiegmonaaAmF
import Derived.RangeFuncIn
import Derived.RangeFuncRecord
import Derived.RowKit3
namespace Am
open Go
set_option linter.unusedVariables false
set_option linter.unusedSimpArgs false
variable {P:Program} {cfg:Cfg}
theorem run_enterOuter (fn:FuncId) (tmps:Array Value) (ps:Array Tmp) (assign body:Code) (w:World) :
    (Instr.enterLoop fn tmps ps assign body none).run P w = .ok (w.heap.size+1,[mark w.heap.size])
        ((w.pushBlk (.deferred (some []))).pushBlk (.loop { state:=.ready,pending:=none,fn,tmps,params:=ps,assign,body,defers:=w.heap.size })):=
  run_enterLoop_outer fn tmps ps assign body
theorem run_enterInner {l:Nat} {L:Loop} (fn:FuncId) (tmps:Array Value) (ps:Array Tmp) (assign body:Code) {w:World} (hl:w.heap[l]?=some (.loop L)) :
    (Instr.enterLoop fn tmps ps assign body (some l)).run P w = .ok (w.heap.size,[])
        (w.pushBlk (.loop { state:=.ready,pending:=none,fn,tmps,params:=ps,assign,body,defers:=L.defers })):=by
  unfold Instr.enterLoop
  simp only [Sem.run_bind,run_getLoop hl,Result.andThen,Sem.run_pure,run_newObj]
  rfl
theorem run_endLoop' {w:World} {l:Nat} {r:Loop} (h:w.heap[l]?=some (.loop r)) (hb:r.state ≠ .busy):(Instr.endLoop l).run P w = .ok r.pending (w.setBlk l (.loop { r with state:=.exhausted })):=run_endLoop h hb
theorem run_endRound' {w:World} {l:Nat} {r:Loop} (jump:Option Code) (h:w.heap[l]?=some (.loop r)) :
    (Instr.endRound l jump).run P w = .ok (.bool jump.isNone) (w.setBlk l (.loop { r with state:=if jump.isNone then .ready else .done,pending:=jump })):=run_endRound jump h
theorem run_beginRound' {w:World} {l:Nat} {r:Loop} (h:w.heap[l]?=some (.loop r)) (hr:r.state = .ready):(Instr.beginRound l).run P w = .ok () (w.setBlk l (.loop { r with state:=.busy })):=run_beginRound h hr
section
variable {b:Frame} {a:Act} {k:List Item} {cs:List Frame} {w:World}
theorem stepR_rangeRound {g:Operand} {ps:Array Tmp} {assign body:Code} {l:Nat} {mk:List Deferred} {w₁ w₁' w₂:World} {d:Deferred} {l':Nat} {f':FuncId} {tm:Array Value} {x y:Code}
    (he:(Instr.enterLoop b.fn a.tmps ps assign body b.roundOf).run P w = .ok (l,mk) w₁)
    (hres:(resolve a.eval (rangeCall g l) 0).run P w₁ = .ok d w₁') (hinv:(invoke d.target d.args).run P w₁' = .ok (.round l' f' tm x y) w₂) :
    step P (lone (b.atR a (.code (.rangeFunc g ps assign body)::k)) cs w) =
      .next (lone (Frame.round l' f' tm x y .normal) (b.atR { a with defers:=mk++a.defers } (.inRangeFunc l::k)::cs) w₂):=
  step_lone_go (by
    have hev:=Frame.eval_atR b { a with defers:=mk++a.defers } (.inRangeFunc l::k)
    simp only [Frame.atR] at hev
    have hres':Sem.run P (resolve ({ tmps:=a.tmps,defers:=mk++a.defers }:Act).eval { callee:=.value g,args:=#[.const (.func (.yield l) #[] #[])],argTypes:=#[] } 0) w₁ = .ok d w₁':=hres
    simp [stepG,stepG.exec,Frame.atR,Sem.runT_eq,he,GStep.bare_after,stepG.apply,hev,Sem.run_bind,hres',hinv,Result.andThen])
end
theorem RW.loop {h:List Obj} {pl:Nat→Pl} {fo:Kept} {w:World} (hW:RW P cfg h pl fo w) {o lb:Nat} {al:ALoop} (ho:getH h o = .loop al) (hb:(pl o).blk=some lb) :
    ∃L:Loop,w.heap[lb]?=some (.loop L)∧L.state=al.state.of∧L.pending=jumpOf al.pending∧RS (mkEnv h pl fo w) al.slots L.tmps∧L.params.toList=al.params∧cCode P cfg L.fn L.assign=some al.assign∧cCode P cfg L.fn L.body=some al.body:=by
  have h0:=hW.obj o
  rw [ho] at h0
  obtain ⟨b,L,h1,h2,h3⟩:=h0
  have:b=lb:=by have:=h1.symm.trans hb;injection this
  subst this
  exact ⟨L,h2,h3⟩
theorem RW.setLoop {h:List Obj} {pl:Nat→Pl} {fo:Kept} {w:World} (hW:RW P cfg h pl fo w) {o lb:Nat} {al:ALoop} {L:Loop} (ho:getH h o = .loop al) (hb:(pl o).blk=some lb) (hL:w.heap[lb]?=some (.loop L)) {s:LState} {p:X} {s':LoopState} {p':Option Code} (hs:s'=s.of) (hp:p'=jumpOf p) :
    RW P cfg (setH h o (.loop { al with state:=s,pending:=p })) pl fo (w.setBlk lb (.loop { L with state:=s',pending:=p' }))∧Mv h pl w (setH h o (.loop { al with state:=s,pending:=p })) pl (w.setBlk lb (.loop { L with state:=s',pending:=p' })):=by
  obtain ⟨L',g1,g2,g3,g4,g5,g6,g7⟩:=hW.loop ho hb
  rw [hL] at g1;cases g1
  obtain ⟨A,B,C'⟩:=hW.update (o:=o) (x:=.loop { al with state:=s,pending:=p }) (ob:=.loop { L with state:=s',pending:=p' }) (by rw [ho];rfl) hb (by rw [ho];exact ⟨_,rfl⟩) rfl (fun hE=>
    ⟨lb,_,hb,setBlk_get _ _ _ (Array.getElem?_eq_some_iff.1 hL).1,hs,hp,g4.mono hE,g5,g6,g7⟩)
  exact ⟨A,B,C'⟩
section
variable {r:Rec} {f:Nat}
theorem good_rangeFunc (hr:Sound P cfg r) (g:Operand) (ps:Array Tmp) (x y:Code):Good P cfg r f (.rangeFunc g ps x y):=by
  intro ac hc n st xx st' he b k cs a pl fo w n0 hb hS hR hn hD
  simp only [cCode] at hc
  split at hc
  · rename_i g' x' y' e0 e1 e2
    cases hc
    unfold evC at he
    cases hcv:callV r (g'.ev st.slots) [.c (.yld st.heap.length)] (st.heap++[.loop ⟨.ready,.normal,st.slots,ps.toList,x',y'⟩]) with
    | none=>rw [hcv] at he;cases he
    | some z=>
      obtain ⟨v,h'⟩:=z
      rw [hcv] at he
      simp only at he
      -- the record is laid
      have enter:∃(l:Nat) (mk:List Deferred) (L:Loop) (w1:World),(Instr.enterLoop b.fn a.tmps ps x y b.roundOf).run P w = .ok (l,mk) w1∧Still w w1∧(∀i,i<w.heap.size→w1.heap[i]?=w.heap[i]?)∧w.heap.size≤l∧w1.heap[l]?=some (.loop L) ∧
          L.state = .ready∧L.pending=none∧L.tmps=a.tmps∧L.params=ps∧L.fn=b.fn∧L.assign=x∧L.body=y∧(DD b n0 a w→DD b n0 { a with defers:=mk++a.defers } w1):=by
        cases hro:b.roundOf with
        | none=>
          refine ⟨_,_,{ state:=.ready,pending:=none,fn:=b.fn,tmps:=a.tmps,params:=ps,assign:=x,body:=y,defers:=w.heap.size },_,run_enterOuter _ _ _ _ _ _,((Still.refl _).push rfl).push rfl,fun i hi=>?_,by omega,?_,rfl,rfl,rfl,rfl,rfl,rfl,rfl,fun hd _=>?_⟩
          · rw [pushBlk_old _ _ (by rw [pushBlk_size];omega),pushBlk_old _ _ hi]
          · have:=pushBlk_get (w.pushBlk (.deferred (some []))) (.loop { state:=.ready,pending:=none,fn:=b.fn,tmps:=a.tmps,params:=ps,assign:=x,body:=y,defers:=w.heap.size })
            rwa [pushBlk_size] at this
          · obtain ⟨rs,q1,q2,q3⟩:=hd hro
            refine ⟨w.heap.size::rs,by simp [q1],List.nodup_cons.2 ⟨fun hm=>?_,q2⟩,fun r hr=>?_⟩
            · have:=(Array.getElem?_eq_some_iff.1 (q3 _ hm).2).1;omega
            · rcases List.mem_cons.1 hr with rfl | hr
              · refine ⟨hn,?_⟩
                rw [pushBlk_old _ _ (by rw [pushBlk_size];omega)]
                exact pushBlk_get _ _
              · have hlt:=(Array.getElem?_eq_some_iff.1 (q3 _ hr).2).1
                refine ⟨(q3 r hr).1,?_⟩
                rw [pushBlk_old _ _ (by rw [pushBlk_size];omega),pushBlk_old _ _ hlt]
                exact (q3 r hr).2
        | some l0=>
          obtain ⟨o,al,g1,g2⟩:=hR l0 hro
          obtain ⟨L0,g3,_⟩:=hS.rw.loop g1 g2
          refine ⟨_,_,{ state:=.ready,pending:=none,fn:=b.fn,tmps:=a.tmps,params:=ps,assign:=x,body:=y,defers:=L0.defers },_,run_enterInner _ _ _ _ _ g3,(Still.refl _).push rfl,fun i hi=>pushBlk_old _ _ hi,Nat.le_refl _,pushBlk_get _ _,rfl,rfl,rfl,rfl,rfl,rfl,rfl,fun _ hno=>?_⟩
          rw [hro] at hno;cases hno
      obtain ⟨l,mk,L,w1,en,hsz,hold,hl,hL,L1,L2,L3,L4,L5,L6,L7,hDD⟩:=enter
      have hD1:=hDD hD
      obtain ⟨A,B⟩:=RW.push (x:=.loop ⟨.ready,.normal,st.slots,ps.toList,x',y'⟩) (p:=⟨some l,0⟩) (w':=w1) hS.fo hS.rw hsz hold (fun b' hb'=>by injection hb' with hb';omega) (fun m=>
        ⟨l,L,rfl,hL,by rw [L1];rfl,by rw [L2];rfl,by rw [L3];exact hS.rs.mono m.le,by rw [L4],by rw [L5,L6,hb];exact e1,by rw [L5,L7,hb];exact e2⟩)
      have hpl:(updP pl st.heap.length ⟨some l,0⟩ st.heap.length).blk=some l:=by rw [updP_same]
      have hyl:RVs (mkEnv (st.heap++[.loop ⟨.ready,.normal,st.slots,ps.toList,x',y'⟩]) (updP pl st.heap.length ⟨some l,0⟩) fo w1) [.c (.yld st.heap.length)] #[.func (.yield l) #[] #[]]:=by
        refine ⟨rfl,fun i z hz=>?_⟩
        cases i with
        | succ i=>cases hz
        | zero=>cases hz;exact .c (.yld (getH_last _ _) hpl)
      have hfo1:∀b,fo b→b<w1.heap.size:=fun b hb=>Nat.lt_of_lt_of_le (hS.fo b hb) hsz.size
      have hyv:(#[Operand.const (.func (.yield l) #[] #[])]:Array Operand).map a.eval=#[.func (.yield l) #[] #[]]:=by simp [Act.eval]
      have hg:=(hS.rho g g' e0).mono B.le
      -- the call
      have call:∃cv w2 pl2,Steps P (lone (b.atR a (.code (.rangeFunc g ps x y)::k)) cs w) (lone (b.atR { a with defers:=mk++a.defers } (.endRangeFunc l::k)) cs w2) ∧
          RV (mkEnv h' pl2 fo w2) v cv∧RW P cfg h' pl2 fo w2∧Mv (st.heap++[.loop ⟨.ready,.normal,st.slots,ps.toList,x',y'⟩]) (updP pl st.heap.length ⟨some l,0⟩) w1 h' pl2 w2:=by
        unfold callV at hcv
        split at hcv
        · rename_i fk agg first caps hv
          rw [hv] at hg
          generalize hval:a.eval g=xv at hg
          cases hg.c_inv with
          | @fn _ _ _ _ fv _ vs ws q1 q2 q3 q4=>
            subst q2
            have hargs:=((RVs.first q1 q3).append hyl).append (RVs.of_cells q4)
            obtain ⟨⟨fn,code,g1,g2,g3⟩,hall⟩:=hr.f hcv hargs A hfo1
            obtain ⟨cv,w2,pl2,p1,p2,p3,p4⟩:=hall (b.atR { a with defers:=mk++a.defers } (.inRangeFunc l::k)::cs)
            obtain ⟨fr,s1,s2,_⟩:=p1
            refine ⟨cv,w2,pl2,?_,p2,p3,p4⟩
            have h1:=stepR_rangeFunc (P:=P) (k:=k) (cs:=cs) (g:=g) (d:={ target:=.fn (.func fk) ((Array.range caps.length).map ws),args:=fv++#[.func (.yield l) #[] #[]] }) (w₁':=w1) en (by simp only [resolve,rangeCall,Deferred.ofValue,hval,Sem.run_pure,hyv]) (run_call_func (P:=P) g1 g2 g3 _ w1)
            refine .head h1 (s1.trans (.one ?_))
            have:=step_leave_returned (P:=P) (c:=b.atR { a with defers:=mk++a.defers } (.inRangeFunc l::k)) (cs:=cs) s2
            rwa [finish_atR_inRangeFunc] at this
        · rename_i lo hv
          rw [hv] at hg
          generalize hval:a.eval g=xv at hg
          cases hg.c_inv with
          | yld hob hbl=>
            rename_i lb al
            obtain ⟨L',g1,g2,hall⟩:=hr.y hcv hyl A hfo1 hbl
            obtain ⟨cv,w2,pl2,p1,p2,p3,p4⟩:=hall (b.atR { a with defers:=mk++a.defers } (.inRangeFunc l::k)) cs
            refine ⟨cv,w2,pl2,?_,p2,p3,p4⟩
            have h1:=stepR_rangeRound (P:=P) (k:=k) (cs:=cs) (g:=g) en (by simp only [resolve,rangeCall,Deferred.ofValue,hval,Sem.run_pure];rfl)
              (l':=lb) (f':=L'.fn) (tm:=(L'.params.zip #[.func (.yield l) #[] #[]]).foldl (fun tmps (t,a)=>tmps.setIfInBounds t a) L'.tmps) (x:=L'.assign) (y:=L'.body) (w₂:=w1) (by
                have:=run_getLoop (P:=P) g1
                simp only [invoke,Instr.yield,Sem.run_bind,this,Result.andThen_ok]
                have g2':L'.params.size=1:=by simpa using g2.symm
                simp [g2',Act.eval])
            refine .head h1 ?_
            have:=p1
            rwa [finish_atR_inRangeFunc] at this
        · cases hcv
      obtain ⟨cv,w2,pl2,s1,_,A2,B2⟩:=call
      -- the end
      have hlo:getH (st.heap++[.loop ⟨.ready,.normal,st.slots,ps.toList,x',y'⟩]) st.heap.length = .loop ⟨.ready,.normal,st.slots,ps.toList,x',y'⟩:=getH_last _ _
      have hpl2:(pl2 st.heap.length).blk=some l:=by
        have h3:=B2.hle.obj st.heap.length
        rw [hlo] at h3
        obtain ⟨al',h3⟩:=h3
        rw [B2.hle.pl st.heap.length (by rw [hlo];simp) (by rw [hlo,h3];trivial)]
        exact hpl
      split at he
      · rename_i al hal
        obtain ⟨L2',k1,k2,k3,k4⟩:=A2.loop hal hpl2
        have fin:∀{q},al.state=q→q ≠ .busy→some (al.pending,(⟨st.slots,setH h' st.heap.length (.loop { al with state:=.exhausted })⟩:St))=some (xx,st')→CodeOk P cfg (lone (b.atR a (.code (.rangeFunc g ps x y)::k)) cs w) b k cs st.heap pl fo w n0 xx st':=by
          intro q hq hne hee
          cases hee
          have hnb:L2'.state ≠ .busy:=by
            rw [k2,hq];cases q<;>first | exact (hne rfl).elim | (intro h;cases h)
          obtain ⟨A3,B3⟩:=A2.setLoop hal hpl2 k1 (s:=.exhausted) (p:=al.pending) (s':=.exhausted) (p':=L2'.pending) rfl k3
          have hend:=stepR_endRangeFunc (P:=P) (b:=b) (a:={ a with defers:=mk++a.defers }) (k:=k) (cs:=cs) (run_endLoop' k1 hnb)
          have m:=(B.trans B2).trans B3
          refine ⟨{ a with defers:=mk++a.defers },_,pl2,?_,⟨hS.rs.mono m.le,A3,m.keepFo hS.fo⟩,m,?_⟩
          · refine Arr.head (s1.trans (.one hend)) ?_
            rw [k3]
            cases al.pending with
            | normal=>exact .refl _ _
            | exit id=>exact ⟨k,rfl,.refl _ _⟩
            | ret=>exact ⟨k,.refl _ _⟩
          · exact (hD1.mv A B2 rfl).mv A2 B3 rfl
        split at he
        · cases he
        · rename_i hne
          exact fin rfl (fun e=>hne e) he
      · cases he
  · cases hc
theorem good_all (hr:Sound P cfg r) (hcl:ClonesOk P cfg) (hm:P.follows .mixedOrders=true):∀c:Code,Good P cfg r f c:=by
  have key:∀c:Code,Good P cfg r f c∧∀d,c = .loop d→Good P cfg r f d:=by
    intro c
    induction c with
    | skip=>exact ⟨good_skip,fun d e=>by cases e⟩
    | label l=>exact ⟨good_label l,fun d e=>by cases e⟩
    | region id ops draw=>exact ⟨good_region hr hcl hm id ops draw,fun d e=>by cases e⟩
    | seq c d h1 h2=>exact ⟨good_seq h1.1 h2.1,fun d e=>by cases e⟩
    | cond c p q h1 h2=>exact ⟨good_cond h1.1 h2.1,fun d e=>by cases e⟩
    | block id c h=>exact ⟨good_block h.1 h.2,fun d e=>by cases e⟩
    | loop c h=>exact ⟨good_loop h.1,fun d e=>by cases e;exact h.1⟩
    | scope c h=>exact ⟨good_scope h.1,fun d e=>by cases e⟩
    | rangeFunc g ps x y _ _=>exact ⟨good_rangeFunc hr g ps x y,fun d e=>by cases e⟩
    | exit id=>exact ⟨good_exit id,fun d e=>by cases e⟩
    | goto l=>exact ⟨(by intro ac hc;cases hc),fun d e=>by cases e⟩
    | refuse s=>exact ⟨(by intro ac hc;cases hc),fun d e=>by cases e⟩
    | ret=>exact ⟨good_ret,fun d e=>by cases e⟩
  exact fun c=>(key c).1
end
end Am
namespace Am
open Go
set_option linter.unusedVariables false
set_option linter.unusedSimpArgs false
variable {P:Program} {cfg:Cfg}
theorem cellAt_deferred {w:World} {r i:Nat} {x:Option (List Deferred)} (h:w.heap[r]?=some (.deferred x)):cellAt w r i=none:=by
  unfold cellAt World.cell?;simp [h]
theorem Sim.unmark {st:St} {a:Act} {pl:Nat→Pl} {fo:Kept} {w:World} {r:Nat} {x y:Option (List Deferred)} (hS:Sim P cfg st a pl fo w) (hr:w.heap[r]?=some (.deferred x)):Sim P cfg st a pl fo (w.setBlk r (.deferred y)):=by
  have hle:(mkEnv st.heap pl fo w).Le (mkEnv st.heap pl fo (w.setBlk r (.deferred y))):=by
    have hc:∀b i v,cellAt w b i=some v→cellAt (w.setBlk r (.deferred y)) b i=some v:=fun b i v e=>by
      by_cases hb:b=r
      · subst hb;rw [cellAt_deferred hr] at e;cases e
      · rw [cellAt_of_heap (setBlk_ne w r b _ hb)];exact e
    exact ⟨fun _=>Obj.le_refl _,fun _ _ _=>rfl,fun b hb=>⟨by rw [setBlk_size];exact hb.1,hb.2⟩,fun b hb=>⟨by rw [setBlk_size];exact hb.1,hb.2⟩,
      fun b i v _ e=>hc b i v e,fun b i v _ e=>hc b i v e⟩
  refine ⟨hS.rs.mono hle,⟨fun o=>?_,hS.rw.ne,hS.rw.fo⟩,fun b hb=>by rw [setBlk_size];exact hS.fo b hb⟩
  by_cases hn:getH st.heap o = .none
  · rw [hn];trivial
  · exact (hS.rw.obj o).mono hle fun b hb=>setBlk_ne w r b _ (fun e=>hS.rw.not_deferred hr o hn (by rw [hb,e]))
theorem Mv.unmark {h0 h:List Obj} {pl0 pl:Nat→Pl} {w0 w:World} {r:Nat} {x y:Option (List Deferred)} (m:Mv h0 pl0 w0 h pl w) (hr:w0.heap.size≤r) (hx:w.heap[r]?=some (.deferred x)):Mv h0 pl0 w0 h pl (w.setBlk r (.deferred y)):=
  ⟨m.hle,⟨m.fr.st.trans (Still.set (fun o0 e=>by rw [hx] at e;cases e;rfl) rfl),fun b hb hno=>by rw [setBlk_ne _ _ _ _ (by omega)];exact m.fr.same b hb hno,m.fr.own⟩⟩
theorem step_unmark {b:Frame} {a:Act} {todo:List Item} {cs:List Frame} {w:World} {r:Nat} {ds:List Deferred} (ha:a.defers=mark r::ds) (hr:w.heap[r]?=some (.deferred (some []))) :
    step P (lone { b.atR a todo with mode:=.returning } cs w) = .next (lone { b.atR { a with defers:=ds } todo with mode:=.returning } cs (w.setBlk r (.deferred none))):=by
  have ht:(Instr.takeDeferred r).run P w = .ok [] (w.setBlk r (.deferred none)):=run_takeDeferred hr
  exact step_lone_go (by simp [stepG,unwind,Frame.atR,ha,mark,Sem.runT_eq,ht,GStep.bare_after])
theorem unwind_ok {b:Frame} {todo:List Item} {cs:List Frame} {h0:List Obj} {pl0 pl:Nat→Pl} {w0:World} {st:St} {fo:Kept}:∀(rs:List Nat) {a:Act} {w:World},a.defers=rs.map mark→rs.Nodup→(∀r∈rs,w0.heap.size≤r∧w.heap[r]?=some (.deferred (some [])))→Sim P cfg st a pl fo w→Mv h0 pl0 w0 st.heap pl w →
    ∃w',Steps P (lone { b.atR a todo with mode:=.returning } cs w) (lone { b.atR { a with defers:=[] } todo with mode:=.returning } cs w')∧Sim P cfg st { a with defers:=[] } pl fo w'∧Mv h0 pl0 w0 st.heap pl w'
  | [],a,w,ha,_,_,hS,m=>by
    have:({ a with defers:=[] }:Act)=a:=by cases a;simp only [List.map_nil] at ha;subst ha;rfl
    rw [this]
    exact ⟨w,.refl _ _,hS,m⟩
  | r::rs,a,w,ha,hnd,hall,hS,m=>by
    rw [List.nodup_cons] at hnd
    obtain ⟨h1,h2⟩:=hall r (List.mem_cons_self ..)
    have hS1:=hS.unmark (y:=none) h2
    have hS2:Sim P cfg st { a with defers:=rs.map mark } pl fo (w.setBlk r (.deferred none)):=⟨hS1.rs,hS1.rw,hS1.fo⟩
    obtain ⟨w',q1,q2,q3⟩:=unwind_ok (b:=b) (todo:=todo) (cs:=cs) rs (a:={ a with defers:=rs.map mark }) rfl hnd.2 (fun r' hr'=>⟨(hall r' (List.mem_cons_of_mem _ hr')).1,by
      rw [setBlk_ne _ _ _ _ (fun e=>hnd.1 (by rw [←e];exact hr'))];exact (hall r' (List.mem_cons_of_mem _ hr')).2⟩) hS2 (m.unmark h1 h2)
    exact ⟨w',.head (step_unmark ha h2) q1,q2,q3⟩
theorem run_asAddr (x:Addr) (w:World):(asAddr (.pointer (some x))).run P w = .ok x w:=rfl
theorem results_ok {st:St} {a:Act} {pl:Nat→Pl} {fo:Kept} {w:World} (hS:Sim P cfg st a pl fo w):∀{l:List ResultVar} {res:List RVar} {vs:List V},cRes P l=some res→resV st res=some vs →
    ∃cvs:List Value,(l.mapM (fun | .tmp t=>pure (a.tmps.getD t undef) | .cell c t=>do loadVar t (←asAddr (a.tmps.getD c undef)):ResultVar→Sem Value)).run P w = .ok cvs w∧cvs.length=vs.length∧∀(i:Nat) x,nth vs i=some x→∃y,nth cvs i=some y∧RV (mkEnv st.heap pl fo w) x y
  | [],res,vs,hc,hv=>by
    cases hc;cases hv
    exact ⟨[],by simp,rfl,fun i x h=>by cases h⟩
  | .tmp t::l,res,vs,hc,hv=>by
    simp only [cRes] at hc
    cases hr:cRes P l with
    | none=>rw [hr] at hc;cases hc
    | some res'=>
      rw [hr] at hc;cases hc
      simp only [resV] at hv
      cases hv':resV st res' with
      | none=>rw [hv'] at hv;cases hv
      | some vs'=>
        rw [hv'] at hv;cases hv
        obtain ⟨cvs,q1,q2,q3⟩:=results_ok hS hr hv'
        refine ⟨a.tmps.getD t undef::cvs,?_,by simp [q2],fun i x hx=>?_⟩
        · rw [List.mapM_cons]
          simp only [Sem.run_bind,Sem.run_pure,Result.andThen_ok,q1]
        · cases i with
          | zero=>cases hx;exact ⟨_,rfl,hS.rs.2 t⟩
          | succ i=>exact q3 i x hx
  | .cell c t::l,res,vs,hc,hv=>by
    simp only [cRes] at hc
    split at hc
    · rename_i n res' hn hr
      cases hc
      simp only [resV] at hv
      split at hv
      · rename_i x hx
        split at hv
        · rename_i v vs' g1 g2
          cases hv
          obtain ⟨cvs,q1,q2,q3⟩:=results_ok hS hr g2
          cases hl:loadC st.heap (num n) x with
          | none=>rw [hl] at g1;cases g1
          | some cells=>
            rw [hl] at g1
            simp only [Option.bind_some] at g1
            have hrx:=hS.rs.2 c
            rw [hx] at hrx
            obtain ⟨b,p,cv,e1,e2,e3⟩:=loadVar_ok hS.rw hn hrx.c_inv hl g1
            refine ⟨cv::cvs,?_,by simp [q2],fun i y hy=>?_⟩
            · rw [List.mapM_cons]
              simp only [Sem.run_bind,e1,run_asAddr,Sem.run_pure,Result.andThen_ok,e2,q1]
            · cases i with
              | zero=>cases hy;exact ⟨_,rfl,e3⟩
              | succ i=>exact q3 i y hy
        · cases hv
      · cases hv
    · cases hc
theorem results_run {st:St} {a:Act} {pl:Nat→Pl} {fo:Kept} {w:World} (hS:Sim P cfg st a pl fo w) {fn:Func} {res:List RVar} {vs:List V} (hc:cRes P fn.results.toList=some res) (hv:resV st res=some vs) :
    ∃cv,(results fn a.tmps).run P w = .ok cv w∧RV (mkEnv st.heap pl fo w) (resOf vs) cv:=by
  obtain ⟨cvs,q1,q2,q3⟩:=results_ok hS hc hv
  have hrun:(fn.results.mapM (fun | .tmp t=>pure (a.tmps.getD t undef) | .cell c t=>do loadVar t (←asAddr (a.tmps.getD c undef)):ResultVar→Sem Value)).run P w = .ok cvs.toArray w:=by
    rw [←Array.toArray_toList (xs:=fn.results)]
    rw [List.mapM_toArray]
    have hmap:∀m:Sem (List Value),(List.toArray <$> m:Sem (Array Value))=(do let x ←m;pure x.toArray):=fun _=>rfl
    rw [hmap,Sem.run_bind,q1]
    rfl
  have hres:∀cv,(if h:cvs.toArray.size=1 then cvs.toArray[0] else .tuple cvs.toArray)=cv→(results fn a.tmps).run P w = .ok cv w:=by
    intro cv e
    unfold results
    rw [Sem.run_bind]
    erw [hrun]
    simp only [Result.andThen_ok,Sem.run_pure,e]
  match cvs,vs,q2,q3,hres with
  | [],[],_,_,hres=>exact ⟨_,hres _ rfl,.tup rfl fun i x h=>by cases h⟩
  | [y],[x],_,q3,hres=>
    obtain ⟨y',e1,e2⟩:=q3 0 x rfl
    cases e1
    exact ⟨y,hres _ (by simp),e2⟩
  | y::y2::ys,x::x2::xs,q2,q3,hres=>
    refine ⟨_,hres (.tuple (y::y2::ys).toArray) (by simp),.tup (by simpa using q2) fun i z hz=>?_⟩
    obtain ⟨y',e1,e2⟩:=q3 i z hz
    rw [nth_get] at e1
    rw [Array.getD_eq_getD_getElem?]
    simp only [List.getElem?_toArray,e1,Option.getD_some]
    exact e2
end Am
namespace Am
open Go
set_option linter.unusedVariables false
set_option linter.unusedSimpArgs false
variable {P:Program} {cfg:Cfg}
theorem RS_frame {E:Env} {args:List V} {vs:Array Value} (h:RVs E args vs) (n:Nat):RS E (args++List.replicate (n-args.length) undefV) (vs++Array.replicate (n-vs.size) undef):=by
  refine ⟨by simp [h.1],fun i=>?_⟩
  rw [Array.getD_eq_getD_getElem?,Array.getElem?_append]
  by_cases hi:i<args.length
  · rw [if_pos (by rw [h.1];exact hi)]
    obtain ⟨x,hx⟩:∃x,nth args i=some x:=by rw [nth_get];exact ⟨_,List.getElem?_eq_getElem hi⟩
    have:=h.2 i x hx
    rw [Array.getD_eq_getD_getElem?] at this
    rw [getS_append_left _ _ _ hi,getS_nth hx]
    exact this
  · rw [if_neg (by rw [h.1];exact hi)]
    rw [getS_append_right _ _ _ (by omega)]
    have e1:getS (List.replicate (n-args.length) undefV) (i-args.length)=undefV:=by
      rw [getS_eq,List.getD_eq_getElem?_getD,List.getElem?_replicate];split<;>rfl
    have e2:((Array.replicate (n-vs.size) undef)[i-vs.size]?).getD undef=undef:=by
      rw [Array.getElem?_replicate];split<;>rfl
    rw [e1,e2]
    exact RV_undef
theorem setParams_ok {E:Env}:∀{ps:List Nat} {args:List V} {vs:List Value} {s:List V} {tmps:Array Value},RS E s tmps→args.length=vs.length→(∀(i:Nat) x,nth args i=some x→∃y,nth vs i=some y∧RV E x y)→ps.length=args.length →
    RS E (setParams ps args s) ((ps.zip vs).foldl (fun tmps (t,a)=>tmps.setIfInBounds t a) tmps)
  | [],[],[],s,tmps,h,_,_,_=>h
  | p::ps,x::args,y::vs,s,tmps,h,hl,hv,hp=>by
    obtain ⟨y',e1,e2⟩:=hv 0 x rfl
    cases e1
    simp only [setParams,List.zip_cons_cons,List.foldl_cons]
    have h1:RS E (setS s p x) (tmps.setIfInBounds p y):=RS.put (a:=⟨tmps,[]⟩) h (d:=some p) e2
    exact setParams_ok h1 (by simpa using hl) (fun i z hz=>hv (i+1) z hz) (by simpa using hp)
  | [],_::_,_,_,_,_,_,_,hp=>by simp at hp
  | _::_,[],_,_,_,_,_,_,hp=>by simp at hp
  | [],[],_::_,_,_,_,hl,_,_=>by simp at hl
  | _::_,_::_,[],_,_,_,hl,_,_=>by simp at hl
theorem RW.nil {pl:Nat→Pl} {fo:Kept} {w:World}:RW P cfg [] pl fo w:=⟨fun o=>trivial,fun o o' b _ h=>(h rfl).elim,fun o b h=>(h rfl).elim⟩
theorem resD_ok {h:List Obj} {pl:Nat→Pl} {fo:Kept} {w:World} (hW:RW P cfg h pl fo w) {c:C} {d:D} {v:Value} (hr:R (mkEnv h pl fo w) c v) (e:resD h c=some d):RD (pureE fo w).K0 w d v:=by
  cases c with
  | int k n=>cases e;cases hr;exact .int _ _
  | bool b=>cases e;cases hr;exact .bool _
  | nils=>cases e;cases hr;exact .nil _ _
  | lst t rows=>
    cases t with
    | true=>cases e
    | false=>
      cases e
      cases hr with
      | lst hd=>exact hd.mono (fun b hb=>⟨hb.1,hb.2.2⟩) fun _ _ _ _ e=>e
  | sl o ver off len=>
    simp only [resD] at e
    split at e
    · rename_i fz ver' sz rows ho
      split at e
      · rename_i hv
        subst hv
        cases hp:part off len rows with
        | none=>rw [hp] at e;cases e
        | some r=>
          rw [hp] at e;cases e
          have hne:getH h o ≠ .none:=by rw [ho];simp
          exact sl_data hW hr ho hp (fun b hb=>⟨hb.1,hb.2.2⟩) fun b hb=>⟨hW.lt hne hb,hW.fo o b hne hb⟩
      · cases e
    · cases e
  | _=>cases e
theorem resDs_ok {h:List Obj}:∀{cs:List C} {ds:List (List D)},resDs h cs=some ds→ds.length=cs.length∧∀(i:Nat) (row:List D),nth ds i=some row→∃c d,row=[d]∧nth cs i=some c∧resD h c=some d
  | [],ds,e=>by cases e;exact ⟨rfl,fun i row h=>by cases h⟩
  | c::cs,ds,e=>by
    simp only [resDs] at e
    split at e
    · rename_i a as h1 h2
      cases e
      obtain ⟨p,q⟩:=resDs_ok h2
      refine ⟨by simp [p],fun i row hc=>?_⟩
      cases i with
      | zero=>cases hc;exact ⟨c,a,rfl,rfl,h1⟩
      | succ i=>exact q i row hc
    · cases e
theorem toResC_ok {h:List Obj} {pl:Nat→Pl} {fo:Kept} {w:World} (hW:RW P cfg h pl fo w) {c c':C} {v:Value} (hr:R (mkEnv h pl fo w) c v) (e:toResC h c=some c'):R (pureE fo w) c' v:=by
  cases c with
  | int k n=>cases e;cases hr;exact .int _ _
  | bool b=>cases e;cases hr;exact .bool _
  | nils=>cases e;cases hr;exact .nils
  | ptr o f=>cases e;exact .any _
  | lst t rows=>
    cases t with
    | true=>cases e
    | false=>
      cases e
      cases hr with
      | lst hd=>exact .lst (hd.mono (fun b hb=>⟨hb.1,hb.2.2⟩) fun _ _ _ _ e=>e)
  | sl o ver off len=>
    simp only [toResC] at e
    split at e
    · rename_i fz ver' sz rows ho
      split at e
      · rename_i hv
        subst hv
        cases hp:part off len rows with
        | none=>rw [hp] at e;cases e
        | some r=>
          rw [hp] at e;cases e
          have hne:getH h o ≠ .none:=by rw [ho];simp
          exact .lst (sl_data hW hr ho hp (fun b hb=>⟨hb.1,hb.2.2⟩) fun b hb=>⟨hW.lt hne hb,hW.fo o b hne hb⟩)
      · cases e
    · cases e
  | ls cs=>
    simp only [toResC] at e
    cases hd:resDs h cs with
    | none=>rw [hd] at e;cases e
    | some ds=>
      rw [hd] at e;cases e
      obtain ⟨p,q⟩:=resDs_ok hd
      cases hr with
      | @ls _ b off cap vs hK hl hc hr=>
        refine .lst ?_
        show RD (pureE fo w).K0 w (.lst ds) (.slice (some ⟨b,off,none⟩) cs.length cap)
        rw [←p]
        refine .lst 1 (fun i _=>vs i) ⟨hK.1,hK.2.2⟩ (by rw [p];exact hl) (fun i row hi=>?_) (fun i row j d hi hj=>?_) (fun i row j d hi hj=>?_)
        · obtain ⟨c,d,e1,_⟩:=q i row hi
          rw [e1];rfl
        · obtain ⟨c,d',e1,e2,_⟩:=q i row hi
          subst e1
          cases j with
          | zero=>rw [Nat.mul_one,Nat.add_zero];exact hc i (nth_lt e2)
          | succ j=>cases hj
        · obtain ⟨c,d',e1,e2,e3⟩:=q i row hi
          subst e1
          cases j with
          | zero=>cases hj;exact resD_ok hW (hr i c e2) e3
          | succ j=>cases hj
  | _=>cases e
theorem toResCs_ok {h:List Obj}:∀{cs cs':List C},toResCs h cs=some cs'→cs'.length=cs.length∧∀(i:Nat) (c':C),nth cs' i=some c'→∃c,nth cs i=some c∧toResC h c=some c'
  | [],cs',e=>by cases e;exact ⟨rfl,fun i c h=>by cases h⟩
  | c::cs,cs',e=>by
    simp only [toResCs] at e
    split at e
    · rename_i a as h1 h2
      cases e
      obtain ⟨p,q⟩:=toResCs_ok h2
      refine ⟨by simp [p],fun i c' hc=>?_⟩
      cases i with
      | zero=>cases hc;exact ⟨c,rfl,h1⟩
      | succ i=>exact q i c' hc
    · cases e
mutual
theorem toRes_ok {h:List Obj} {pl:Nat→Pl} {fo:Kept} {w:World} (hW:RW P cfg h pl fo w):∀{x x':V} {v:Value},RV (mkEnv h pl fo w) x v→toRes h x=some x'→RV (pureE fo w) x' v
  | .c x,x',v,hr,e=>by
    simp only [toRes] at e
    cases hc:toResC h x with
    | none=>rw [hc] at e;cases e
    | some c'=>rw [hc] at e;cases e;exact .c (toResC_ok hW hr.c_inv hc)
  | .agg cs,x',v,hr,e=>by
    simp only [toRes] at e
    cases hc:toResCs h cs with
    | none=>rw [hc] at e;cases e
    | some cs'=>
      rw [hc] at e;cases e
      obtain ⟨p,q⟩:=toResCs_ok hc
      cases hr with
      | agg hn hR=>
        refine .agg (by rw [hn,p]) fun i c' hc'=>?_
        obtain ⟨c,g1,g2⟩:=q i c' hc'
        exact toResC_ok hW (hR i c g1) g2
  | .tup xs,x',v,hr,e=>by
    simp only [toRes] at e
    cases hc:toRess h xs with
    | none=>rw [hc] at e;cases e
    | some xs'=>
      rw [hc] at e;cases e
      cases hr with
      | tup hn hR=>
        obtain ⟨p,q⟩:=toRess_ok hW hc
        refine .tup (by rw [hn,p]) fun i x' hx'=>?_
        obtain ⟨x,g1,g2⟩:=q i x' hx'
        exact g2 _ (hR i x g1)
theorem toRess_ok {h:List Obj} {pl:Nat→Pl} {fo:Kept} {w:World} (hW:RW P cfg h pl fo w):∀{xs xs':List V},toRess h xs=some xs'→xs'.length=xs.length∧∀(i:Nat) (x':V),nth xs' i=some x'→∃x,nth xs i=some x∧∀v,RV (mkEnv h pl fo w) x v→RV (pureE fo w) x' v
  | [],xs',e=>by cases e;exact ⟨rfl,fun i c h=>by cases h⟩
  | x::xs,xs',e=>by
    simp only [toRess] at e
    split at e
    · rename_i a as h1 h2
      cases e
      obtain ⟨p,q⟩:=toRess_ok hW h2
      refine ⟨by simp [p],fun i c' hc=>?_⟩
      cases i with
      | zero=>cases hc;exact ⟨x,rfl,fun v hv=>toRes_ok hW hv h1⟩
      | succ i=>exact q i c' hc
    · cases e
end
theorem cFunc_inv {k : Nat} {fn : AFunc} (h : cFunc P cfg k = some fn) : ∃ gfn c, P.funcs[k]? = some gfn ∧ (gfn.name == "runtime.NumGoroutine") = false ∧ gfn.body = some c ∧ cCode P cfg k c = some fn.code ∧ cRes P gfn.results.toList = some fn.res ∧ fn.ntmps = gfn.ntmps := by
  unfold cFunc at h
  split at h
  · rename_i gfn hg
    split at h
    · cases h
    · rename_i hn
      split at h
      · rename_i c hb
        split at h
        · rename_i a r h1 h2
          cases h
          exact ⟨gfn,c,hg,by simpa using hn,hb,h1,h2,rfl⟩
        · cases h
      · cases h
  · cases h
theorem enter_at {k:Nat} {gfn:Func} {c:Code} {vs:Array Value} (hg:P.funcs[k]?=some gfn) (hb:gfn.body=some c) :
    Frame.enter P k vs .normal=({ (default:Frame) with fn:=k,kind:=.normal }:Frame).atR { tmps:=vs++Array.replicate (gfn.ntmps-vs.size) undef,defers:=[] } [.code c]:=by
  simp [Frame.enter,Frame.atR,hg,hb]
  rfl
theorem fn_ok {r:Rec} {n:Nat} (hr:Sound P cfg r) (hcl:ClonesOk P cfg) (hm:P.follows .mixedOrders=true) {k:Nat} {fn:AFunc} (hf:cFunc P cfg k=some fn) {args:List V} {h:List Obj} {x:X} {st:St} {vs:List V}
    (he:evC r n fn.code ⟨frameOf fn args,h⟩=some (x,st)) (hx:∀id,x ≠ .exit id) (hv:resV st fn.res=some vs) {avs:Array Value} {pl:Nat→Pl} {fo:Kept} {w:World} (ha:RVs (mkEnv h pl fo w) args avs) (hW:RW P cfg h pl fo w) (hfo:∀b,fo b→b<w.heap.size) (cs:List Frame) :
    ∃cv w' pl',(∃fr,Steps P (lone (Frame.enter P k avs .normal) cs w) (lone fr cs w')∧fr.leaving P w' (.returned cv)∧fr.fn=k)∧RV (mkEnv st.heap pl' fo w') (resOf vs) cv∧RW P cfg st.heap pl' fo w'∧Mv h pl w st.heap pl' w':=by
  obtain ⟨gfn,c,hg,hn,hb,hc,hres,hnt⟩:=cFunc_inv hf
  let b:Frame:={ (default:Frame) with fn:=k,kind:=.normal }
  have hS:Sim P cfg ⟨frameOf fn args,h⟩ { tmps:=avs++Array.replicate (gfn.ntmps-avs.size) undef,defers:=[] } pl fo w:=
    ⟨by unfold frameOf;rw [hnt];exact RS_frame ha _,hW,hfo⟩
  have hro:b.roundOf=none:=rfl
  obtain ⟨a1,w1,pl1,q1,q2,q3,q4⟩:=good_all hr hcl hm c hc he (b:=b) (k:=[]) (cs:=cs) (n0:=w.heap.size) rfl hS (fun l hl=>by cases hl) (Nat.le_refl _) (fun _=>⟨[],rfl,List.nodup_nil,fun r hr=>by cases hr⟩)
  have hend:∃todo,Steps P (lone (Frame.enter P k avs .normal) cs w) (lone { b.atR a1 todo with mode:=.returning } cs w1):=by
    rw [enter_at hg hb]
    cases x with
    | normal=>exact ⟨[],Steps.trans q1 (.one (stepR_end hro))⟩
    | ret=>obtain ⟨todo,s⟩:=q1;exact ⟨_,s.trans (.one (stepR_ret hro))⟩
    | exit id=>exact (hx id rfl).elim
  obtain ⟨todo,s1⟩:=hend
  obtain ⟨rs,d1,d2,d3⟩:=q4 hro
  obtain ⟨w2,s2,hS2,m2⟩:=unwind_ok (b:=b) (todo:=todo) (cs:=cs) rs d1 d2 d3 q2 q3
  obtain ⟨cv,e1,e2⟩:=results_run hS2 (fn:=gfn) hres hv
  exact ⟨cv,w2,pl1,⟨_,s1.trans s2,⟨rfl,rfl,rfl,gfn,hg,e1⟩,rfl⟩,e2,hS2.rw,m2⟩
def FnOk (P:Program) (cfg:Cfg) (k:Nat) (fn:AFunc):Prop:=
  (∃ gfn c, P.funcs[k]? = some gfn ∧ (gfn.name == "runtime.NumGoroutine") = false ∧ gfn.body = some c) ∧
  ∀{r:Rec} {n:Nat},Sound P cfg r→∀{args:List V} {h:List Obj} {x:X} {st:St} {vs:List V},evC r n fn.code ⟨frameOf fn args,h⟩=some (x,st)→(∀id,x ≠ .exit id)→resV st fn.res=some vs →
    ∀{avs:Array Value} {pl:Nat→Pl} {fo:Kept} {w:World},RVs (mkEnv h pl fo w) args avs→RW P cfg h pl fo w→(∀b,fo b→b<w.heap.size)→∀cs:List Frame,
    ∃cv w' pl',(∃fr,Steps P (lone (Frame.enter P k avs .normal) cs w) (lone fr cs w')∧fr.leaving P w' (.returned cv)∧fr.fn=k)∧RV (mkEnv st.heap pl' fo w') (resOf vs) cv∧RW P cfg st.heap pl' fo w'∧Mv h pl w st.heap pl' w'
theorem fnOk_of (hcl:ClonesOk P cfg) (hm:P.follows .mixedOrders=true) {k:Nat} {fn:AFunc} (hf:cFunc P cfg k=some fn):FnOk P cfg k fn:=by
  obtain ⟨gfn,c,hg,hn,hb,_⟩:=cFunc_inv hf
  exact ⟨⟨gfn,c,hg,hn,hb⟩,fun hr _ _ _ _ _ he hx hv _ _ _ _ ha hW hfo cs=>fn_ok hr hcl hm hf he hx hv ha hW hfo cs⟩
theorem sound_body {G:Nat→Option AFunc} (hG:∀k fn,G k=some fn→FnOk P cfg k fn) {r:Rec} {n:Nat} (hr:Sound P cfg r) (hcl:ClonesOk P cfg) (hm:P.follows .mixedOrders=true):Sound P cfg (evBody G r n) where
  framed:=⟨fun hx=>evBody_fill hx (hr.framed.fill hx),evBody_stays hr.framed.stay⟩
  f:=by
    intro k args h v h' he vs pl fo w ha hW hfo
    simp only [evBody] at he
    cases hk:G k with
    | none=>rw [hk] at he;cases he
    | some fn=>
      rw [hk] at he
      simp only at he
      obtain ⟨⟨gfn,c,hg,hn,hb⟩,hf⟩:=hG k fn hk
      refine ⟨⟨gfn,c,hg,hn,hb⟩,fun cs=>?_⟩
      cases hev:evC r n fn.code ⟨frameOf fn args,h⟩ with
      | none=>rw [hev] at he;cases he
      | some z=>
        obtain ⟨x,st⟩:=z
        rw [hev] at he
        have fin:(∀id,x ≠ .exit id)→(match resV st fn.res with
            | some vs=>match fn.drop with
              | true=>match trunc h.length vs st.heap with
                | some h'=>some (resOf vs,h')
                | none=>none
              | false=>some (resOf vs,st.heap)
            | none=>none)=some (v,h')→∃cv w' pl',(∃fr,Steps P (lone (Frame.enter P k vs .normal) cs w) (lone fr cs w')∧fr.leaving P w' (.returned cv)∧fr.fn=k)∧RV (mkEnv h' pl' fo w') v cv∧RW P cfg h' pl' fo w'∧Mv h pl w h' pl' w':=by
          intro hx he
          cases hv:resV st fn.res with
          | none=>rw [hv] at he;cases he
          | some xs=>
            rw [hv] at he
            simp only at he
            obtain ⟨cv,w',pl',q1,q2,q3,q4⟩:=hf hr hev hx hv ha hW hfo cs
            cases hd:fn.drop with
            | false=>rw [hd] at he;cases he;exact ⟨cv,w',pl',q1,q2,q3,q4⟩
            | true=>
              rw [hd] at he
              simp only at he
              cases ht:trunc h.length xs st.heap with
              | none=>rw [ht] at he;cases he
              | some h2=>
                rw [ht] at he;cases he
                obtain ⟨rfl,g1,g2⟩:=trunc_spec ht
                refine ⟨cv,w',pl',q1,q2.take ?_,q3.take g2,q4.take (Nat.le_refl _)⟩
                match xs,g1 with
                | [],_=>rfl
                | [y],g1=>simpa [V.underL,resOf] using g1
                | y::z::ys,g1=>exact g1
        cases x with
        | exit id=>cases he
        | normal=>exact fin (fun _ e=>by cases e) he
        | ret=>exact fin (fun _ e=>by cases e) he
  p:=by
    intro k args v h' he vs fo w ha hfo
    simp only [evBody] at he
    cases hk:G k with
    | none=>rw [hk] at he;cases he
    | some fn=>
      rw [hk] at he
      simp only at he
      obtain ⟨⟨gfn,c,hg,hn,hb⟩,hf⟩:=hG k fn hk
      refine ⟨⟨gfn,c,hg,hn,hb⟩,fun cs=>?_⟩
      cases hev:evC r n fn.code ⟨frameOf fn args,[]⟩ with
      | none=>rw [hev] at he;cases he
      | some z=>
        obtain ⟨x,st⟩:=z
        rw [hev] at he
        have fin:(∀id,x ≠ .exit id)→(match resV st fn.res with
            | some vs=>match toRes st.heap (resOf vs) with
              | some v=>some (v,([]:List Obj))
              | none=>none
            | none=>none)=some (v,h')→∃cv w',(∃fr,Steps P (lone (Frame.enter P k vs .normal) cs w) (lone fr cs w')∧fr.leaving P w' (.returned cv)∧fr.fn=k)∧RV (pureE fo w') v cv∧Still w w'∧∀b,b<w.heap.size→w'.heap[b]?=w.heap[b]?:=by
          intro hx he
          cases hv:resV st fn.res with
          | none=>rw [hv] at he;cases he
          | some xs=>
            rw [hv] at he
            simp only at he
            obtain ⟨cv,w',pl',q1,q2,q3,q4⟩:=hf hr hev hx hv (pl:=fun _=>⟨none,0⟩) ha RW.nil hfo cs
            cases ht:toRes st.heap (resOf xs) with
            | none=>rw [ht] at he;cases he
            | some v'=>
              rw [ht] at he;cases he
              exact ⟨cv,w',q1,toRes_ok q3 q2 ht,q4.fr.st,fun b hb=>q4.fr.same b hb not_owned_nil⟩
        cases x with
        | exit id=>cases he
        | normal=>exact fin (fun _ e=>by cases e) he
        | ret=>exact fin (fun _ e=>by cases e) he
  y:=by
    intro o args h v h' he vs pl fo w lb ha hW hfo hb
    simp only [evBody] at he
    split at he
    · rename_i l ho
      split at he
      · rename_i hlen
        obtain ⟨L,g1,g2,g3,g4,g5,g6,g7⟩:=hW.loop ho hb
        have hl:args.length=l.params.length:=by simpa [Nat.beq_eq] using hlen
        have hps:L.params.size=l.params.length:=by rw [←g5];simp
        refine ⟨L,g1,by rw [ha.1,hl,hps],fun c cs=>?_⟩
        let b:Frame:={ (default:Frame) with fn:=L.fn,kind:=.normal,roundOf:=some lb }
        have hround:Frame.round lb L.fn ((L.params.zip vs).foldl (fun tmps (t,a)=>tmps.setIfInBounds t a) L.tmps) L.assign L.body .normal =
            b.atR { tmps:=(L.params.zip vs).foldl (fun tmps (t,a)=>tmps.setIfInBounds t a) L.tmps,defers:=[] } [.code L.assign,.beginRound,.code L.body]:=rfl
        have hRS:RS (mkEnv h pl fo w) (setParams l.params args l.slots) ((L.params.zip vs).foldl (fun tmps (t,a)=>tmps.setIfInBounds t a) L.tmps):=by
          have h1:(L.params.zip vs).foldl (fun tmps (t,a)=>tmps.setIfInBounds t a) L.tmps=((l.params.zip vs.toList)).foldl (fun tmps (t,a)=>tmps.setIfInBounds t a) L.tmps:=by
            rw [←Array.foldl_toList,Array.toList_zip,g5]
          rw [h1]
          refine setParams_ok g4 (by have:=ha.1;simp;omega) (fun i x hx=>?_) hl.symm
          have:=ha.2 i x hx
          have hi:i<vs.size:=by rw [ha.1];exact nth_lt hx
          refine ⟨vs[i],by rw [nth_get];simp [hi],?_⟩
          rwa [Array.getD_eq_getD_getElem?,Array.getElem?_eq_getElem hi] at this
        have hS:Sim P cfg ⟨setParams l.params args l.slots,h⟩ { tmps:=(L.params.zip vs).foldl (fun tmps (t,a)=>tmps.setIfInBounds t a) L.tmps,defers:=[] } pl fo w:=⟨hRS,hW,hfo⟩
        have hR:RoundOk b h pl:=fun l' hl'=>by cases hl';exact ⟨o,l,ho,hb⟩
        have hD:∀{a w},DD b w.heap.size a w:=fun hno=>by cases hno
        have hD0:∀{n a w},DD b n a w:=fun hno=>by cases hno
        cases hev:evC r n l.assign ⟨setParams l.params args l.slots,h⟩ with
        | none=>rw [hev] at he;cases he
        | some z=>
          obtain ⟨x,st⟩:=z
          rw [hev] at he
          cases x with
          | exit id=>cases he
          | ret=>cases he
          | normal=>
            simp only at he
            obtain ⟨a1,w1,pl1,q1,q2,q3,_⟩:=good_all hr hcl hm L.assign g6 hev (b:=b) (k:=[.beginRound,.code L.body]) (cs:=c::cs) (n0:=w.heap.size) rfl hS hR (Nat.le_refl _) hD0
            split at he
            · rename_i l1 ho1
              split at he
              · rename_i hst
                have hb1:(pl1 o).blk=some lb:=by rw [q3.hle.pl o (by rw [ho];simp) (by rw [ho,ho1];trivial)];exact hb
                obtain ⟨L1,k1,k2,k3,_⟩:=q2.rw.loop ho1 hb1
                have hrd:L1.state = .ready:=by rw [k2,hst];rfl
                obtain ⟨A2,B2⟩:=q2.rw.setLoop ho1 hb1 k1 (s:=.busy) (p:=l1.pending) (s':=.busy) (p':=L1.pending) rfl k3
                have s2:=stepR_beginRound (P:=P) (b:=b) (a:=a1) (k:=[.code L.body]) (cs:=c::cs) (l:=lb) rfl (run_beginRound' k1 hrd)
                have hS2:Sim P cfg ⟨st.slots,setH st.heap o (.loop { l1 with state:=.busy })⟩ a1 pl1 fo (w1.setBlk lb (.loop { L1 with state:=.busy })):=⟨q2.rs.mono B2.le,A2,B2.keepFo q2.fo⟩
                have m2:=q3.trans B2
                have hR2:RoundOk b (setH st.heap o (.loop { l1 with state:=.busy })) pl1:=hR.mv m2
                cases hev2:evC r n l.body ⟨st.slots,setH st.heap o (.loop { l1 with state:=.busy })⟩ with
                | none=>rw [hev2] at he;cases he
                | some z2=>
                  obtain ⟨x2,st2⟩:=z2
                  rw [hev2] at he
                  simp only at he
                  obtain ⟨a3,w3,pl3,p1,p2,p3,_⟩:=good_all hr hcl hm L.body g7 hev2 (b:=b) (k:=[]) (cs:=c::cs) (n0:=0) rfl hS2 hR2 (Nat.zero_le _) hD0
                  have m3:=m2.trans p3
                  split at he
                  · rename_i l2 ho2
                    have hb2:(pl3 o).blk=some lb:=by rw [m3.hle.pl o (by rw [ho];simp) (by rw [ho,ho2];trivial)];exact hb
                    obtain ⟨L2,j1,_⟩:=p2.rw.loop ho2 hb2
                    have start:Steps P (lone (Frame.round lb L.fn ((L.params.zip vs).foldl (fun tmps (t,a)=>tmps.setIfInBounds t a) L.tmps) L.assign L.body .normal) (c::cs) w) (lone (b.atR a1 [.code L.body]) (c::cs) (w1.setBlk lb (.loop { L1 with state:=.busy }))):=by
                      rw [hround];exact Steps.trans q1 (.one s2)
                    have endR:=fun j=>run_endRound' (P:=P) j j1
                    cases x2 with
                    | normal=>
                      cases he
                      obtain ⟨A4,B4⟩:=p2.rw.setLoop ho2 hb2 j1 (s:=.ready) (p:=.normal) (s':=.ready) (p':=none) rfl rfl
                      exact ⟨.bool true,_,pl3,start.trans (Steps.trans p1 (.one (stepR_round_end rfl rfl (endR none)))),.c (.bool _),A4,m3.trans B4⟩
                    | ret=>
                      cases he
                      obtain ⟨A4,B4⟩:=p2.rw.setLoop ho2 hb2 j1 (s:=.done) (p:=.ret) (s':=.done) (p':=some .ret) rfl rfl
                      obtain ⟨todo,s⟩:=p1
                      exact ⟨.bool false,_,pl3,start.trans (s.trans (.one (stepR_round_ret rfl rfl (endR (some .ret))))),.c (.bool _),A4,m3.trans B4⟩
                    | exit id=>
                      cases he
                      obtain ⟨A4,B4⟩:=p2.rw.setLoop ho2 hb2 j1 (s:=.done) (p:=.exit id) (s':=.done) (p':=some (.exit id)) rfl rfl
                      obtain ⟨todo,e,s⟩:=p1
                      exact ⟨.bool false,_,pl3,start.trans (s.trans (.one (stepR_round_exit rfl rfl (by rw [e];rfl) (endR (some (.exit id)))))),.c (.bool _),A4,m3.trans B4⟩
                  · cases he
              · cases he
            · cases he
      · cases he
    · cases he
theorem sound_ev {G:Nat→Option AFunc} (hG:∀k fn,G k=some fn→FnOk P cfg k fn) (hcl:ClonesOk P cfg) (hm:P.follows .mixedOrders=true):∀n,Sound P cfg (ev G n)
  | 0=>⟨ev_framed G 0,(by intro k args h v h' e;cases e),(by intro k args v h' e;cases e),(by intro o args h v h' e;cases e)⟩
  | n+1=>sound_body hG (sound_ev hG hcl hm n) hcl hm
end Am
namespace Am
open Go
set_option linter.unusedVariables false
set_option linter.unusedSimpArgs false
variable {P:Program} {cfg:Cfg}
def nilFn : Rec:=fun _=>none
theorem sound_nil : Sound P cfg nilFn:=⟨⟨fun _=>⟨(by intro k args h v h1 h' e;cases e),(by intro o args h v h1 h' e;cases e)⟩,⟨(by intro k args h v h1 e;cases e),(by intro o args h v h1 e;cases e)⟩⟩,(by intro k args h v h' e;cases e),(by intro k args v h' e;cases e),(by intro o args h v h' e;cases e)⟩
def cfg0 : Cfg:={ pure:=fun _=>false,clone:=fun _=>none,drop:=fun _=>false,ann:=fun _ _=>{} }
theorem clones0 : ClonesOk P cfg0:=⟨fun f e he=>(by cases he),fun f e he=>(by cases he)⟩
structure CloneCode (P:Program) (f e sz by_:Nat) where
  fn:Func
  i0:Nat
  i1:Nat
  i2:Nat
  i3:Nat
  ops0:Array Oper
  ops1:Array Oper
  ops2:Array Oper
  ops3:Array Oper
  o1:Oper
  o2:Oper
  t:Nat
  u:Nat
  e':Nat
  z:List C
  zd:List D
  hf:P.funcs[f]?=some fn
  hn : (fn.name == "runtime.NumGoroutine") = false
  hb:fn.body=some (.seq (.region i0 ops0 false) (.seq (.seq (.region i1 ops1 false) (.cond (.tmp 4) (.seq (.region i2 ops2 false) .ret) .skip)) (.seq (.region i3 ops3 false) .ret)))
  hr:fn.results.toList=[.tmp 2]
  ht:fn.ntmps=8
  h0:cRegion P cfg0 f ops0 false=some (.region 0 [] [⟨some 2,.mov (.cst (.c .nils)),none,0⟩])
  h2:cRegion P cfg0 f ops2 false=some (.region 0 [] [⟨some 2,.mov (.cst (.c .nils)),none,0⟩])
  h3:cRegion P cfg0 f ops3 false=some (.region 2 [] [⟨some 5,.bslice sz 0 z [],none,0⟩,⟨some 6,.mov (.tmp 0),none,1⟩,⟨some 7,.append sz by_ (.tmp 5) (.tmp 6),none,1⟩,⟨some 2,.mov (.tmp 7),none,2⟩])
  h1:ops1=#[o1,o2]
  k1:o1.op = .move (.tmp 0)∧o1.dst=some 3∧o1.guard=none
  k2:o2.op = .binOp .eql t (.tmp 3) (.const (.slice none 0 0)) u∧o2.dst=some 4∧o2.guard=none
  hu:P.underlying t=some (.slice e')
  hz:∀h,toDs h z=some (zd,[])
  hzl:zd.length=sz
theorem run_isnil {ρ:Operand→Value} {o:Oper} {t u e:Nat} {x:Operand} (ho:o.op = .binOp .eql t x (.const (.slice none 0 0)) u) (hu:P.underlying t=some (.slice e)) (hc:ρ (.const (.slice none 0 0)) = .slice none 0 0) {a:Option Addr} {l c:Nat} (ex:ρ x = .slice a l c) (w:World) :
    (execOp ρ o).run P w = .ok (.value (.bool a.isNone)) w:=by
  have heq:(Op.equal t (.slice a l c) (.slice none 0 0)).run P w = .ok a.isNone w:=run_equal_slice_nil w t e a l c hu
  have hg:(eqGuard .eql t x (.const (.slice none 0 0)) (.slice a l c) (.slice none 0 0)).run P w = .ok () w:=by unfold eqGuard;simp
  have hb:(binOp .eql t (.slice a l c) (.slice none 0 0)).run P w = .ok (.bool a.isNone) w:=by simp [binOp,heq]
  simp only [execOp,ho,Sem.run_bind,ex,hc,hg,Result.andThen_ok,hb,Sem.run_pure]
theorem src_arg {h:List Obj} {pl:Nat→Pl} {fo:Kept} {w:World} (hW:RW P cfg h pl fo w) {c:C} {v:Value} (hr:R (mkEnv h pl fo w) c v) {new:List (List D)} (hs:sliceRows h c=some new):R (argE (foOf h pl fo) w) (.lst true new) v:=by
  cases c with
  | nils=>cases hs;cases hr;exact .lst (.nil _ _)
  | lst t rows=>
    simp only [sliceRows] at hs
    split at hs
    · cases hs
    · cases hs
      cases hr with
      | lst hd=>
        refine .lst (hd.mono (fun b hb=>?_) fun _ _ _ _ e=>e)
        cases t with
        | false=>exact ⟨hb.1,not_owned_nil⟩
        | true=>exact ⟨hb.1,not_owned_nil⟩
  | sl o ver off len=>
    simp only [sliceRows] at hs
    split at hs
    · rename_i fz ver' sz rows ho
      split at hs
      · rename_i hv
        subst hv
        exact .lst (sl_data hW hr ho hs (fun b hb=>⟨hb.1,not_owned_nil⟩) fun b hb=>⟨hW.lt (by rw [ho];simp) hb,not_owned_nil⟩)
      · cases hs
    · cases hs
  | psl o off len=>
    simp only [sliceRows] at hs
    split at hs
    · rename_i cs ho
      cases hp:part off len cs with
      | none=>rw [hp] at hs;cases hs
      | some l=>
        rw [hp] at hs
        rcases psl_view hW hr ho hp hs with ⟨e1,a,cap,e2⟩ | ⟨b,cap,vs,e1,e4,e5,e2,e3⟩
        · subst e1;subst e2;exact .lst (.nil _ _)
        · subst e1
          exact .lst (.lst 1 vs ⟨hW.lt (by rw [ho];simp) e5,not_owned_nil⟩ e4 e2 (fun i row j d hi hj=>(e3 i row j d hi hj).1) (fun i row j d hi hj=>(e3 i row j d hi hj).2 _ _))
    · cases hs
  | _=>cases hs
theorem slice_of_lst {E:Env} {t:Bool} {rows:List (List D)} {v:Value} (hr:R E (.lst t rows) v):∃a l c,v = .slice a l c∧(a=none→rows=[]):=by
  cases hr with
  | lst hd=>cases hd with
    | nil a cap=>exact ⟨a,0,cap,rfl,fun _=>rfl⟩
    | lst sz vs hK hcap hs hc hr=>exact ⟨_,_,_,rfl,fun e=>by cases e⟩
theorem scalRows_nth {rows:List (List D)} (h:scalRows rows=true) (i:Nat) (row:List D) (hi:nth rows i=some row) (j:Nat) (d:D) (hj:nth row j=some d):∀r,d ≠ .lst r:=by
  have hrow:∀{row:List D},scalRow row=true→∀(j:Nat) (d:D),nth row j=some d→∀r,d ≠ .lst r:=by
    intro row
    induction row with
    | nil=>intro _ j d hj;cases hj
    | cons x row ih=>
      intro hs j d hj
      cases x with
      | lst r=>simp [scalRow] at hs
      | int k n=>cases j with
        | zero=>cases hj;intro r e;cases e
        | succ j=>exact ih (by simpa [scalRow] using hs) j d hj
      | bool b=>cases j with
        | zero=>cases hj;intro r e;cases e
        | succ j=>exact ih (by simpa [scalRow] using hs) j d hj
  induction rows generalizing i with
  | nil=>cases hi
  | cons x rows ih=>
    simp only [scalRows,Bool.and_eq_true] at h
    cases i with
    | zero=>cases hi;exact hrow h.1 j d hj
    | succ i=>exact ih h.2 i hi
def CloneRes (p:Pl) (n sz:Nat) (cv:Value):Prop:=∃(ca:Option Addr) (cc:Nat),cv = .slice ca n cc∧n≤cc ∧
  ((∃b,p.blk=some b∧ca=some ⟨b,0*sz,none⟩∧cc=p.cap-0)∨(p.blk=none∧ca=none∧cc=0)∨(0≠0∧cc=0))
theorem clone_run {f e sz by_:Nat} (C:CloneCode P f e sz by_) (hm:P.follows .mixedOrders=true) {new:List (List D)} {xv:Value} {fo':Kept} {w:World} (harg:R (argE fo' w) (.lst true new) xv) (hfo:∀b,fo' b→b<w.heap.size) (q1:headLen sz new=true) (q2:scalRows new=true) (q3:new.length*by_≤2^40) (cs:List Frame) :
    ∃(cv:Value) (w':World) (p:Pl),(∃fr,Steps P (lone (Frame.enter P f #[xv] .normal) cs w) (lone fr cs w')∧fr.leaving P w' (.returned cv)∧fr.fn=f)∧CloneRes p new.length sz cv∧Still w w'∧(∀b,b<w.heap.size→w'.heap[b]?=w.heap[b]?)∧(∀b,p.blk=some b→w.heap.size≤b) ∧
      ∃E:Env,E.w=w'∧RO' P cfg0 E p (.arr false 0 sz new):=by
  obtain ⟨fn,i0,i1,i2,i3,ops0,ops1,ops2,ops3,o1,o2,t,u,e',z,zd,hf,hn,hb,hr,ht,h0,h2,h3,h1,⟨k11,k12,k13⟩,⟨k21,k22,k23⟩,hu,hz,hzl⟩:=C
  subst h1
  let b:Frame:={ (default:Frame) with fn:=f,kind:=.normal }
  have hro:b.roundOf=none:=rfl
  let plN:Nat→Pl:=fun _=>⟨none,0⟩
  let R3:Code:=.seq (.region i3 ops3 false) .ret
  let CD:Code:=.cond (.tmp 4) (.seq (.region i2 ops2 false) .ret) .skip
  have hargs:RVs (argE fo' w) [.c (.lst true new)] #[xv]:=⟨rfl,fun i y hy=>by
    cases i with
    | succ i=>cases hy
    | zero=>cases hy;exact .c harg⟩
  have hS0:Sim P cfg0 ⟨[.c (.lst true new),undefV,undefV,undefV,undefV,undefV,undefV,undefV],[]⟩ { tmps:=#[xv]++Array.replicate (fn.ntmps-(#[xv]:Array Value).size) undef,defers:=[] } plN fo' w:=by
    refine ⟨?_,RW.nil,hfo⟩
    have:=RS_frame hargs 8
    rw [ht];exact this
  have henter:=enter_at (P:=P) (k:=f) (vs:=#[xv]) hf hb
  -- the first region
  obtain ⟨_,a1,w1,pl1,s1,S1,m1,d1⟩:=region_ok (id:=i0) (b:=b) (k:=[.code (.seq (.seq (.region i1 #[o1,o2] false) CD) R3)]) (cs:=cs) sound_nil clones0 hm h0 (n:=0) (x:=.normal) (st':=⟨[.c (.lst true new),undefV,.c .nils,undefV,undefV,undefV,undefV,undefV],[]⟩) rfl hS0
  -- the second one
  have hc1:COp P (cfg0.at 0) #[o1,o2] o1 ⟨some 3,.mov (.tmp 0),none,0⟩:=⟨by rw [k11];rfl,k12.symm,by rw [k13];rfl⟩
  obtain ⟨a2,w2,pl2,s2,S2,m2,d2⟩:=step_op (b:=b) (k:=[.code CD,.code R3]) (cs:=cs) (rest:=[1]) (i:=0) (r:=nilFn) (rb:=0) sound_nil clones0 rfl hc1 (st':=⟨[.c (.lst true new),undefV,.c .nils,.c (.lst true new),undefV,undefV,undefV,undefV],[]⟩) rfl S1
  have hx3:R (mkEnv [] pl2 fo' w2) (.lst true new) (a2.tmps.getD 3 undef):=(S2.rs.2 3).c_inv
  obtain ⟨ad,l,cp,hv3,hnil⟩:=slice_of_lst hx3
  have hrun:=run_isnil (P:=P) (ρ:=a2.eval) k21 hu rfl (show a2.eval (.tmp 3) = .slice ad l cp from hv3) w2
  have hw2:Region.wanted o2 (yielded #[o1,o2] a2.tmps)=true:=by unfold Region.wanted;rw [k23]
  have s3:=step_value (P:=P) (b:=b) (a:=a2) (k:=[.code CD,.code R3]) (cs:=cs) (w:=w2) (w':=w2) (ops:=#[o1,o2]) (i:=1) (rest:=[]) (o:=o2) rfl hw2 (by intro c e;rw [k21] at e;cases e) (.inl hrun)
  rw [k22] at s3
  have S3:Sim P cfg0 ⟨[.c (.lst true new),undefV,.c .nils,.c (.lst true new),.c (.bool ad.isNone),undefV,undefV,undefV],[]⟩ (a2.put (some 4) (.bool ad.isNone)) pl2 fo' w2:=
    S2.put (Mv.refl _ _ _) S2.rw (d:=some 4) (v:=.c (.bool ad.isNone)) (.c (.bool _))
  have h4:(a2.put (some 4) (.bool ad.isNone)).eval (.tmp 4) = .bool ad.isNone:=(S3.rs.2 4).c_inv.bool_inv
  have sA:Steps P (lone (Frame.enter P f #[xv] .normal) cs w) (lone (b.atR (a2.put (some 4) (.bool ad.isNone)) [.code CD,.code R3]) cs w2):=by
    rw [henter]
    refine .head stepR_seq (s1.trans (.head stepR_seq (.head stepR_seq (.head stepR_region ?_))))
    exact s2.trans (.head s3 (.one stepR_region_end))
  have m12:=m1.trans m2
  have d12:a2.defers=[]:=by rw [d2,d1]
  have dput:(a2.put (some 4) (.bool ad.isNone)).defers=[]:=d12
  cases hn4:ad.isNone with
  | true=>
    rw [hn4] at h4 S3 sA dput
    have hnew:new=[]:=hnil (by cases ad with
      | none=>rfl
      | some _=>cases hn4)
    subst hnew
    obtain ⟨_,a5,w5,pl5,s5,S5,m5,d5⟩:=region_ok (b:=b) (k:=[.code .ret,.code R3]) (cs:=cs) sound_nil clones0 hm h2 (n:=0) (x:=.normal) (st':=⟨[.c (.lst true []),undefV,.c .nils,.c (.lst true []),.c (.bool true),undefV,undefV,undefV],[]⟩) rfl S3
    obtain ⟨cv,e1,e2⟩:=results_run S5 (fn:=fn) (res:=[.tmp 2]) (vs:=[.c .nils]) (by rw [hr];rfl) rfl
    have hcv:cv = .slice none 0 0:=by
      have:=e2.c_inv
      cases this;rfl
    subst hcv
    have m:=m12.trans m5
    refine ⟨_,w5,⟨none,0⟩,⟨{ b.atR a5 (.code .ret::[.code R3]) with mode:=.returning },?_,⟨rfl,?_,rfl,fn,hf,e1⟩,rfl⟩,⟨none,0,rfl,Nat.le_refl _,.inr (.inl ⟨rfl,rfl,rfl⟩)⟩,m.fr.st,(fun i hi=>m.fr.same i hi not_owned_nil),(fun i hi=>by cases hi),mkEnv [] pl5 fo' w5,rfl,⟨Nat.le_refl _,(fun i row hr=>by cases hr),rfl⟩⟩
    · exact sA.trans (.head (stepR_cond h4) (.head stepR_seq (s5.trans (.one (stepR_ret hro)))))
    · show a5.defers=[]
      rw [d5,dput]
  | false=>
    rw [hn4] at h4 S3 sA dput
    have hev:evC nilFn 0 (.region 2 [] [⟨some 5,.bslice sz 0 z [],none,0⟩,⟨some 6,.mov (.tmp 0),none,1⟩,⟨some 7,.append sz by_ (.tmp 5) (.tmp 6),none,1⟩,⟨some 2,.mov (.tmp 7),none,2⟩])
        ⟨[.c (.lst true new),undefV,.c .nils,.c (.lst true new),.c (.bool false),undefV,undefV,undefV],[]⟩ =
        some (.normal,⟨[.c (.lst true new),undefV,.c (.sl 0 1 0 new.length),.c (.lst true new),.c (.bool false),.c (.sl 0 0 0 0),.c (.lst true new),.c (.sl 0 1 0 new.length)],[.arr false 1 sz new,.none]⟩):=by
      simp only [evC,evOs,evO,wantedA,opEv,hz,hzl,if_true,setRows,rowsOf,List.replicate_zero,Option.bind_some,newV,List.nil_append,List.length_nil,List.replicate_succ,isHole,freeze,List.map_nil,applyW,setH,putD,setS,Opd.ev,getS,sliceRows,q2,q1,Bool.not_true,Bool.and_false,Bool.false_eq_true,if_false,getH,Nat.zero_add,q3,and_self,pairsOk,Nat.add_zero]
    obtain ⟨_,a5,w5,pl5,s5,S5,m5,d5⟩:=region_ok (b:=b) (k:=[.code .ret]) (cs:=cs) sound_nil clones0 hm h3 (n:=0) (x:=.normal) hev S3
    obtain ⟨cv,e1,e2⟩:=results_run S5 (fn:=fn) (res:=[.tmp 2]) (vs:=[.c (.sl 0 1 0 new.length)]) (by rw [hr];rfl) rfl
    have m:=m12.trans m5
    have hobj:=S5.rw.obj 0
    refine ⟨cv,w5,pl5 0,⟨{ b.atR a5 (.code .ret::[]) with mode:=.returning },?_,⟨rfl,?_,rfl,fn,hf,e1⟩,rfl⟩,?_,m.fr.st,fun i hi=>m.fr.same i hi not_owned_nil,fun i hi=>?_,mkEnv [.arr false 1 sz new,.none] pl5 fo' w5,rfl,hobj⟩
    · exact sA.trans (.head (stepR_cond h4) (.head stepR_skip (.head stepR_seq (s5.trans (.one (stepR_ret hro))))))
    · show a5.defers=[]
      rw [d5,dput]
    · generalize hcv:cv=cv0 at e2
      cases e2.c_inv with
      | @sl _ _ _ _ cap a fz ver' sz' rows ho hver hl hb3=>
        have ho':(Obj.arr false 1 sz new) = .arr fz ver' sz' rows:=ho
        cases ho'
        obtain ⟨_,hb4⟩:=hb3 rfl
        exact ⟨a,cap,rfl,hl,hb4⟩
    · rcases Nat.lt_or_ge i w.heap.size with hlt | hge
      · exact (m.fr.own i hlt not_owned_nil ⟨0,rfl,hi⟩).elim
      · exact hge
theorem clone_ok {f e sz by_:Nat} (C:CloneCode P f e sz by_) (hm:P.follows .mixedOrders=true) {rid:Nat} {x:Opd} {s:List V} {h:List Obj} {v:V} {wr:Wr} (he:opEv rid s h (.clone f sz by_ x)=some (v,wr)) {pl:Nat→Pl} {fo:Kept} {w:World} {xv:Value} (hx:RV (mkEnv h pl fo w) (x.ev s) xv) (hW:RW P cfg h pl fo w) (hfo:∀b,fo b→b<w.heap.size) (cs:List Frame) :
    ∃cv w' pl',(∃fr,Steps P (lone (Frame.enter P f #[xv] .normal) cs w) (lone fr cs w')∧fr.leaving P w' (.returned cv)∧fr.fn=f)∧RV (mkEnv (applyW h wr) pl' fo w') v cv∧RW P cfg (applyW h wr) pl' fo w'∧Mv h pl w (applyW h wr) pl' w':=by
  have C':=C
  simp only [opEv] at he
  split at he
  · rename_i c hc
    rw [hc] at hx
    split at he
    · rename_i new hs
      split at he
      · rename_i hq
        simp only [Bool.and_eq_true,decide_eq_true_eq] at hq
        obtain ⟨⟨q1,q2⟩,q3⟩:=hq
        unfold newV at he
        split at he
        · rename_i hh
          cases he
          obtain ⟨hh1,hh2⟩:=isHole_iff.1 hh
          have harg:R (argE (foOf h pl fo) w) (.lst true new) xv:=src_arg hW hx.c_inv hs
          have hfo':=foOf_lt hW hfo
          have key:=clone_run (P:=P) C' hm harg hfo' q1 q2 q3 cs
          obtain ⟨cv,w',p,q4,hcv,hsz,hold,hp,E0,hE0,hro⟩:=key
          have hRO:∀{E:Env},E.w=w'→(∀b,b<w'.heap.size→¬foOf h pl fo b→¬p.blk=some b→E.K0 b)→RO' P cfg E p (.arr false 0 sz new):=fun {E} hw hK=>by
            obtain ⟨r1,r2,r3⟩:=hro
            refine ⟨r1,r2,?_⟩
            cases hpb:p.blk with
            | none=>rw [hpb] at r3;exact r3
            | some b=>
              rw [hpb] at r3
              obtain ⟨arr,T,a1,a2,a3⟩:=r3
              refine ⟨arr,T,by rw [hw,←hE0];exact a1,a2,fun i row j d g1 g2=>?_⟩
              obtain ⟨y,g3,g4⟩:=a3 i row j d g1 g2
              exact ⟨y,g3,RD_scal g4 (scalRows_nth q2 i row g1 j d g2)⟩
          obtain ⟨A,B,D'⟩:=hW.place (o:=rid) (x:=.arr false 0 sz new) (p:=p) (w':=w') hfo hh1 (by rw [hh2];trivial) (.inl hh2) (.inr hh2) hsz hold hp (fun _=>hRO rfl fun b hb hno hne=>⟨hb,by
            rintro ⟨o,hm1,hb1⟩
            by_cases ho:o=rid
            · subst ho;rw [updP_same] at hb1;exact hne hb1
            · rw [updP_ne _ _ ho] at hb1
              rw [getH_setH,if_neg (fun e=>ho e.1)] at hm1
              exact hno (.inr ⟨o,hm1,hb1⟩),fun hf=>hno (.inl hf)⟩)
          refine ⟨cv,w',_,q4,?_,A,⟨B,D'⟩⟩
          obtain ⟨ca,cc,rfl,hl,hb3⟩:=hcv
          refine .c (.sl (by show getH (setH h rid (.arr false 0 sz new)) rid=_;rw [getH_setH,if_pos ⟨rfl,hh1⟩]) (Nat.le_refl _) hl fun _=>?_)
          show 0+new.length≤new.length∧_
          refine ⟨by omega,?_⟩
          have hpl:updP pl rid p rid=p:=updP_same pl rid p
          show (∃b,(updP pl rid p rid).blk=some b∧_∧_=(updP pl rid p rid).cap-0)∨((updP pl rid p rid).blk=none∧_)∨_
          rw [hpl]
          exact hb3
        · cases he
      · cases he
    · cases he
  · cases he
def cloneParts (c:Option Code):(Nat × Array Oper) × (Nat × Array Oper) × (Nat × Array Oper) × (Nat × Array Oper):=match c with
  | some (.seq (.region i0 o0 false) (.seq (.seq (.region i1 o1 false) (.cond (.tmp 4) (.seq (.region i2 o2 false) .ret) .skip)) (.seq (.region i3 o3 false) .ret)))=>((i0,o0),(i1,o1),(i2,o2),(i3,o3))
  | _=>((0,#[]),(0,#[]),(0,#[]),(0,#[]))
theorem clonesOk_of (hm:P.follows .mixedOrders=true) (hgr:GrowsOk P cfg) (h:∀f e,cfg.clone f=some e→∃sz by_,sizeT P e=some sz∧bytesT P e=some by_∧Nonempty (CloneCode P f e sz by_)):ClonesOk P cfg:=by
  refine ⟨?_,hgr⟩
  intro f e he sz by_ hs hb
  obtain ⟨sz',by',g1,g2,⟨C⟩⟩:=h f e he
  rw [hs] at g1;cases g1
  rw [hb] at g2;cases g2
  exact ⟨⟨C.fn,_,C.hf,C.hn,C.hb⟩,fun {rid x s h v wr} he {pl fo w xv} hx hW hfo cs=>clone_ok C hm he hx hW hfo cs⟩
end Am
namespace Am
open Go
set_option linter.unusedVariables false
set_option linter.unusedSimpArgs false
variable {P:Program} {cfg:Cfg}
theorem grown_of {w w':World} (h:Still w w') (hs:∀b,b<w.heap.size→w'.heap[b]?=w.heap[b]?):RowKit.Grown w w':=by
  refine ⟨⟨h.os,h.out,fun i hi=>?_⟩,h.fz,h.size⟩
  rw [hs i hi]
  cases w.heap[i]? with
  | none=>rfl
  | some o=>cases o<;>first | rfl | exact ⟨rfl,rfl,rfl,fun _ _=>rfl⟩ | exact .inr ⟨rfl,rfl⟩
end Am
