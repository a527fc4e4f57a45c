/-
  A part of the proof: the texts Am19, Am20, Am21, Am22, Am23, Am24 of this seat, joined.
-/
import Derived.Test.YtninmcgiegmonaaAmD
import Derived.Test.YtninmcgiegmonaaAmE
import Derived.AtR
namespace Am
open Go
set_option linter.unusedVariables false
set_option linter.unusedSimpArgs false
variable {P:Program} {cfg:Cfg}
structure Sim (P:Program) (cfg:Cfg) (st:St) (a:Act) (pl:Nat→Pl) (fo:Kept) (w:World):Prop where
  rs:RS (mkEnv st.heap pl fo w) st.slots a.tmps
  rw:RW P cfg st.heap pl fo w
  fo:∀b,fo b→b<w.heap.size
structure Mv (h:List Obj) (pl:Nat→Pl) (w:World) (h':List Obj) (pl':Nat→Pl) (w':World):Prop where
  hle:HLe h pl h' pl'
  fr:Fr h pl w h' pl' w'
theorem Mv.refl (h:List Obj) (pl:Nat→Pl) (w:World):Mv h pl w h pl w:=⟨HLe.refl _ _,Fr.refl _ _ _⟩
theorem Mv.trans {h1 h2 h3:List Obj} {p1 p2 p3:Nat→Pl} {w1 w2 w3:World} (a:Mv h1 p1 w1 h2 p2 w2) (b:Mv h2 p2 w2 h3 p3 w3):Mv h1 p1 w1 h3 p3 w3:=⟨a.hle.trans b.hle,a.fr.trans b.fr⟩
theorem Mv.le {h h':List Obj} {pl pl':Nat→Pl} {fo:Kept} {w w':World} (m:Mv h pl w h' pl' w'):(mkEnv h pl fo w).Le (mkEnv h' pl' fo w'):=Env.le_of m.hle m.fr
theorem RV_undef {E:Env}:RV E undefV undef:=.c (.any _)
theorem RV_skip {E:Env}:RV E skipV undef:=.tup rfl fun i x h=>by cases h
theorem RS.put {E:Env} {s:List V} {a:Act} (h:RS E s a.tmps) {d:Option Nat} {v:V} {cv:Value} (hv:RV E v cv):RS E (putD s d v) (a.put d cv).tmps:=by
  cases d with
  | none=>exact h
  | some d=>
    refine ⟨by simp [putD,Act.put,setS_len,h.1],fun i=>?_⟩
    simp only [putD,Act.put]
    rw [getS_setS,Array.getD_eq_getD_getElem?]
    by_cases hi:i=d∧d<s.length
    · rw [if_pos hi]
      have:d<a.tmps.size:=by rw [←h.1];exact hi.2
      rw [hi.1]
      simp [this,hv]
    · rw [if_neg hi]
      have e:(a.tmps.setIfInBounds d cv)[i]?=a.tmps[i]?:=by
        by_cases hid:i=d
        · subst hid
          have hd:¬i<a.tmps.size:=by rw [←h.1];exact fun x=>hi ⟨rfl,x⟩
          rw [Array.getElem?_setIfInBounds_self]
          rw [if_neg hd,Array.getElem?_eq_none (by omega)]
        · exact Array.getElem?_setIfInBounds_ne (fun x=>hid x.symm)
      rw [e,←Array.getD_eq_getD_getElem?]
      exact h.2 i
theorem Sim.rho {st:St} {a:Act} {pl:Nat→Pl} {fo:Kept} {w:World} (h:Sim P cfg st a pl fo w):Rho st.slots (mkEnv st.heap pl fo w) a.eval:=Rho.of h.rs (fun _=>rfl) (fun _=>rfl) (fun _=>rfl)
def mark (r:Nat):Deferred:={ target:=.collected r,args:=#[] }
def DOK (n:Nat) (ds:List Deferred) (w:World):Prop:=∃rs:List Nat,ds=rs.map mark∧rs.Nodup∧∀r∈rs,n≤r∧w.heap[r]?=some (.deferred (some []))
theorem RW.not_deferred {h:List Obj} {pl:Nat→Pl} {fo:Kept} {w:World} (hW:RW P cfg h pl fo w) {r:Nat} {x:Option (List Deferred)} (hr:w.heap[r]?=some (.deferred x)):∀o,getH h o ≠ .none→(pl o).blk≠some r:=by
  intro o hn hb
  have:=hW.obj o
  cases hx:getH h o with
  | none=>exact hn hx
  | cells cs=>rw [hx] at this;obtain ⟨b',arr,T,h1,h2,_⟩:=this;rw [hb] at h1;cases h1;have:w.heap[r]?=_:=h2;rw [hr] at this;cases this
  | arr fz ver sz rows=>rw [hx] at this;obtain ⟨_,_,h3⟩:=this;rw [hb] at h3;obtain ⟨arr,T,h2,_⟩:=h3;have:w.heap[r]?=_:=h2;rw [hr] at this;cases this
  | map ka va ks es=>rw [hx] at this;obtain ⟨b',en,ck,h1,h2,_⟩:=this;rw [hb] at h1;cases h1;have:w.heap[r]?=_:=h2;rw [hr] at this;cases this
  | loop l=>rw [hx] at this;obtain ⟨b',L,h1,h2,_⟩:=this;rw [hb] at h1;cases h1;have:w.heap[r]?=_:=h2;rw [hr] at this;cases this
theorem RW.not_owned {h:List Obj} {pl:Nat→Pl} {fo:Kept} {w:World} (hW:RW P cfg h pl fo w) {r:Nat} {x:Option (List Deferred)} (hr:w.heap[r]?=some (.deferred x)):¬owned h pl r:=by
  rintro ⟨o,hm,hb⟩
  exact hW.not_deferred hr o (Obj.ne_none_of_mutable hm) hb
theorem DOK.mv {n:Nat} {ds:List Deferred} {h h':List Obj} {pl pl':Nat→Pl} {fo:Kept} {w w':World} (hd:DOK n ds w) (hW:RW P cfg h pl fo w) (m:Mv h pl w h' pl' w'):DOK n ds w':=by
  obtain ⟨rs,h1,h2,h3⟩:=hd
  refine ⟨rs,h1,h2,fun r hr=>⟨(h3 r hr).1,?_⟩⟩
  have h4:=(h3 r hr).2
  rw [m.fr.same r (Array.getElem?_eq_some_iff.1 h4).1 (hW.not_owned h4)]
  exact h4
def RoundOk (b:Frame) (h:List Obj) (pl:Nat→Pl):Prop:=∀l,b.roundOf=some l→∃o al,getH h o = .loop al∧(pl o).blk=some l
theorem RoundOk.mv {b:Frame} {h h':List Obj} {pl pl':Nat→Pl} {w w':World} (hb:RoundOk b h pl) (m:Mv h pl w h' pl' w'):RoundOk b h' pl':=by
  intro l hl
  obtain ⟨o,al,h1,h2⟩:=hb l hl
  have h3:=m.hle.obj o
  rw [h1] at h3
  obtain ⟨al',h3⟩:=h3
  refine ⟨o,al',h3,?_⟩
  rw [m.hle.pl o (by rw [h1];simp) (by rw [h1,h3];trivial)];exact h2
def pureE (fo:Kept) (w:World):Env:=⟨[],fun _=>⟨none,0⟩,fun b=>b<w.heap.size∧¬fo b,fun _=>False,w⟩
def argE (fo:Kept) (w:World):Env:=mkEnv [] (fun _=>⟨none,0⟩) fo w
structure Sound (P:Program) (cfg:Cfg) (r:Rec):Prop where
  framed:Framed r
  f:∀{k:Nat} {args:List V} {h:List Obj} {v:V} {h':List Obj},r (.f k args h)=some (v,h')→∀{vs:Array Value} {pl:Nat→Pl} {fo:Kept} {w:World},RVs (mkEnv h pl fo w) args vs→RW P cfg h pl fo w→(∀b,fo b→b<w.heap.size) →
    (∃ fn c, P.funcs[k]? = some fn ∧ (fn.name == "runtime.NumGoroutine") = false ∧ fn.body = some c) ∧
    ∀cs,∃cv w' pl',(∃fr,Steps P (lone (Frame.enter P k vs .normal) cs w) (lone fr cs w')∧fr.leaving P w' (.returned cv)∧fr.fn=k)∧RV (mkEnv h' pl' fo w') v cv∧RW P cfg h' pl' fo w'∧Mv h pl w h' pl' w'
  p:∀{k:Nat} {args:List V} {v:V} {h':List Obj},r (.p k args)=some (v,h')→∀{vs:Array Value} {fo:Kept} {w:World},RVs (argE fo w) args vs→(∀b,fo b→b<w.heap.size) →
    (∃ fn c, P.funcs[k]? = some fn ∧ (fn.name == "runtime.NumGoroutine") = false ∧ fn.body = some c) ∧
    ∀cs,∃cv w',(∃fr,Steps P (lone (Frame.enter P k vs .normal) cs w) (lone fr cs w')∧fr.leaving P w' (.returned cv)∧fr.fn=k)∧RV (pureE fo w') v cv∧Still w w'∧∀b,b<w.heap.size→w'.heap[b]?=w.heap[b]?
  y:∀{o:Nat} {args:List V} {h:List Obj} {v:V} {h':List Obj},r (.y o args h)=some (v,h')→∀{vs:Array Value} {pl:Nat→Pl} {fo:Kept} {w:World} {lb:Nat},RVs (mkEnv h pl fo w) args vs→RW P cfg h pl fo w→(∀b,fo b→b<w.heap.size)→(pl o).blk=some lb →
    ∃L:Loop,w.heap[lb]?=some (.loop L)∧vs.size=L.params.size ∧
    ∀c cs,∃cv w' pl',(Steps P (lone (Frame.round lb L.fn ((L.params.zip vs).foldl (fun tmps (t,a)=>tmps.setIfInBounds t a) L.tmps) L.assign L.body .normal) (c::cs) w) (lone (c.finish cv) cs w'))∧RV (mkEnv h' pl' fo w') v cv∧RW P cfg h' pl' fo w'∧Mv h pl w h' pl' w'
def ClonesOk1 (P:Program) (cfg:Cfg):Prop:=∀f e,cfg.clone f=some e→∀{sz by_:Nat},sizeT P e=some sz→bytesT P e=some by_ →
  (∃ fn c, P.funcs[f]? = some fn ∧ (fn.name == "runtime.NumGoroutine") = false ∧ fn.body = some c) ∧
  ∀{rid:Nat} {x:Opd} {s:List V} {h:List Obj} {v:V} {wr:Wr},opEv rid s h (.clone f sz by_ x)=some (v,wr)→∀{pl:Nat→Pl} {fo:Kept} {w:World} {xv:Value},RV (mkEnv h pl fo w) (x.ev s) xv→RW P cfg h pl fo w→(∀b,fo b→b<w.heap.size) →
    ∀cs,∃cv w' pl',(∃fr,Steps P (lone (Frame.enter P f #[xv] .normal) cs w) (lone fr cs w')∧fr.leaving P w' (.returned cv)∧fr.fn=f)∧RV (mkEnv (applyW h wr) pl' fo w') v cv∧RW P cfg (applyW h wr) pl' fo w'∧Mv h pl w (applyW h wr) pl' w'
def GrowsOk (P:Program) (cfg:Cfg):Prop:=∀f e,cfg.grow f=some e→∀{sz by_:Nat},sizeT P e=some sz→bytesT P e=some by_ →
  (∃ fn c, P.funcs[f]? = some fn ∧ (fn.name == "runtime.NumGoroutine") = false ∧ fn.body = some c) ∧
  ∀{n:Nat},n*by_≤2^40→∀(w:World) (cs:List Frame),∃(a:Option Addr) (cap:Nat) (w':World),
    (∃fr,Steps P (lone (Frame.enter P f #[.slice none 0 0,.int .i64 n] .normal) cs w) (lone fr cs w')∧fr.leaving P w' (.returned (.slice a 0 cap))∧fr.fn=f)∧Still w w'∧(∀b,b<w.heap.size→w'.heap[b]?=w.heap[b]?) ∧
    ((a=none∧cap=0)∨∃b arr T,w.heap.size≤b∧a=some ⟨b,0,none⟩∧w'.heap[b]?=some (.cells arr T (0,0))∧cap*sz≤arr.size)
def ClonesOk (P:Program) (cfg:Cfg):Prop:=ClonesOk1 P cfg∧GrowsOk P cfg
end Am
namespace Am
open Go
set_option linter.unusedVariables false
set_option linter.unusedSimpArgs false
variable {P:Program} {cfg:Cfg}
theorem cOpds_RVs {E:Env} {s:List V} {ρ:Operand→Value} (hρ:Rho s E ρ):∀{l:List Operand} {l':List Opd},cOpds l=some l'→RVs E (l'.map (·.ev s)) (l.map ρ).toArray
  | [],l',h=>by cases h;exact ⟨rfl,fun i x h=>by cases h⟩
  | x::l,l',h=>by
    simp only [cOpds] at h
    cases hx:cOpd x with
    | none=>rw [hx] at h;cases h
    | some y=>
      cases hl:cOpds l with
      | none=>rw [hx,hl] at h;cases h
      | some ys=>
        rw [hx,hl] at h;cases h
        obtain ⟨a,b⟩:=cOpds_RVs hρ hl
        refine ⟨by simpa using a,fun i z hz=>?_⟩
        cases i with
        | zero=>cases hz;simpa using hρ x y hx
        | succ i=>
          have:=b i z hz
          simpa [Array.getD_eq_getD_getElem?] using this
theorem RVs.append {E:Env} {a b:List V} {x y:Array Value} (h1:RVs E a x) (h2:RVs E b y):RVs E (a++b) (x++y):=by
  refine ⟨by simp [h1.1,h2.1],fun i v hv=>?_⟩
  rw [Am.nth_append] at hv
  rw [Array.getD_eq_getD_getElem?,Array.getElem?_append]
  split at hv
  · rename_i hi
    rw [if_pos (by rw [h1.1];exact hi)]
    have:=h1.2 i v hv
    rwa [Array.getD_eq_getD_getElem?] at this
  · rename_i hi
    rw [if_neg (by rw [h1.1];exact hi)]
    have:=h2.2 (i-a.length) v hv
    rw [Array.getD_eq_getD_getElem?] at this
    rw [h1.1];exact this
theorem RVs.of_cells {E:Env} {cs:List C} {vs:Nat→Value} (h:∀(i:Nat) (c:C),nth cs i=some c→R E c (vs i)):RVs E (cs.map V.c) ((Array.range cs.length).map vs):=by
  refine ⟨by simp,fun i v hv=>?_⟩
  rw [nth_map] at hv
  cases hc:nth cs i with
  | none=>rw [hc] at hv;cases hv
  | some c=>
    rw [hc] at hv;cases hv
    have hi:=nth_lt hc
    simp only [Array.getD_eq_getD_getElem?,Array.getElem?_map]
    rw [show (Array.range cs.length)[i]?=some i by simp [hi]]
    exact .c (h i c hc)
theorem RVs.first {E:Env} {agg:Bool} {first:List C} {vs:Nat→Value} {fv:Array Value} (h1:fv=if agg then #[.agg ((Array.range first.length).map vs)] else (Array.range first.length).map vs) (h:∀(i:Nat) (c:C),nth first i=some c→R E c (vs i)) :
    RVs E (firstV agg first) fv:=by
  cases agg with
  | false=>subst h1;exact RVs.of_cells h
  | true=>
    subst h1
    refine ⟨rfl,fun i v hv=>?_⟩
    cases i with
    | succ i=>cases hv
    | zero=>
      cases hv
      simp only [Array.getD_eq_getD_getElem?]
      refine .agg (by simp) fun i c hc=>?_
      have hi:=nth_lt hc
      simp only [Array.getD_eq_getD_getElem?,Array.getElem?_map]
      rw [show (Array.range first.length)[i]?=some i by simp [hi]]
      exact h i c hc
section
variable {h:List Obj} {pl:Nat→Pl} {fo:Kept} {w:World}
def foOf (h:List Obj) (pl:Nat→Pl) (fo:Kept):Kept:=fun b=>fo b∨owned h pl b
theorem foOf_lt (hW:RW P cfg h pl fo w) (hfo:∀b,fo b→b<w.heap.size):∀b,foOf h pl fo b→b<w.heap.size:=by
  rintro b (hb | ⟨o,hm,hb⟩)
  · exact hfo b hb
  · exact hW.lt (Obj.ne_none_of_mutable hm) hb
theorem not_owned_nil {pl:Nat→Pl} {b:Nat}:¬owned [] pl b:=by rintro ⟨o,hm,_⟩;cases hm
theorem toArgC_ok (hW:RW P cfg h pl fo w) {c c':C} {v:Value} (hr:R (mkEnv h pl fo w) c v) (e:toArgC h c=some c'):R (argE (foOf h pl fo) w) c' v:=by
  cases c with
  | int k n=>cases e;cases hr;exact .int _ _
  | bool b=>cases e;cases hr;exact .bool _
  | nils=>cases e;cases hr;exact .nils
  | ptr o f=>cases e;exact .any _
  | any=>cases e;exact .any _
  | lst t rows=>
    cases e
    cases hr with
    | lst hd=>
      refine .lst (hd.mono (fun b hb=>?_) fun _ _ _ _ e=>e)
      cases t with
      | false=>exact ⟨hb.1,not_owned_nil,fun hq=>hq.elim hb.2.2 hb.2.1⟩
      | true=>exact ⟨hb.1,not_owned_nil⟩
  | sl o ver off len=>
    simp only [toArgC] at e
    split at e
    · rename_i fz ver' sz rows ho
      split at e
      · rename_i hv
        subst hv
        cases hp:part off len rows with
        | none=>rw [hp] at e;cases e
        | some r=>
          rw [hp] at e;cases e
          exact .lst (sl_data hW hr ho hp (fun b hb=>⟨hb.1,not_owned_nil⟩) fun b hb=>⟨hW.lt (by rw [ho];simp) hb,not_owned_nil⟩)
      · cases e
    · cases e
  | _=>cases e
theorem toArgCs_ok (hW:RW P cfg h pl fo w):∀{cs cs':List C},toArgCs h cs=some cs'→cs'.length=cs.length∧∀(i:Nat) (c':C),nth cs' i=some c'→∃c,nth cs i=some c∧toArgC h c=some c'
  | [],cs',e=>by cases e;exact ⟨rfl,fun i c h=>by cases h⟩
  | c::cs,cs',e=>by
    simp only [toArgCs] at e
    split at e
    · rename_i a as h1 h2
      cases e
      obtain ⟨p,q⟩:=toArgCs_ok hW h2
      refine ⟨by simp [p],fun i c' hc=>?_⟩
      cases i with
      | zero=>cases hc;exact ⟨c,rfl,h1⟩
      | succ i=>exact q i c' hc
    · cases e
theorem toArg_ok (hW:RW P cfg h pl fo w) {x x':V} {v:Value} (hr:RV (mkEnv h pl fo w) x v) (e:toArg h x=some x'):RV (argE (foOf h pl fo) w) x' v:=by
  cases x with
  | c x=>
    simp only [toArg] at e
    cases hc:toArgC h x with
    | none=>rw [hc] at e;cases e
    | some c'=>rw [hc] at e;cases e;exact .c (toArgC_ok hW hr.c_inv hc)
  | agg cs=>
    simp only [toArg] at e
    cases hc:toArgCs h cs with
    | none=>rw [hc] at e;cases e
    | some cs'=>
      rw [hc] at e;cases e
      obtain ⟨p,q⟩:=toArgCs_ok hW hc
      cases hr with
      | agg hn hR=>
        refine .agg (by rw [hn,p]) fun i c' hc'=>?_
        obtain ⟨c,g1,g2⟩:=q i c' hc'
        exact toArgC_ok hW (hR i c g1) g2
  | tup xs=>cases e
theorem toArgs_ok (hW:RW P cfg h pl fo w):∀{xs xs':List V} {vs:Array Value},RVs (mkEnv h pl fo w) xs vs→toArgs h xs=some xs'→RVs (argE (foOf h pl fo) w) xs' vs:=by
  have key:∀{xs xs':List V},toArgs h xs=some xs'→xs'.length=xs.length∧∀(i:Nat) x',nth xs' i=some x'→∃x,nth xs i=some x∧toArg h x=some x':=by
    intro xs
    induction xs with
    | nil=>intro xs' e;cases e;exact ⟨rfl,fun i c h=>by cases h⟩
    | cons x xs ih=>
      intro xs' e
      simp only [toArgs] at e
      split at e
      · rename_i a as h1 h2
        cases e
        obtain ⟨p,q⟩:=ih h2
        refine ⟨by simp [p],fun i c' hc=>?_⟩
        cases i with
        | zero=>cases hc;exact ⟨x,rfl,h1⟩
        | succ i=>exact q i c' hc
      · cases e
  intro xs xs' vs hr e
  obtain ⟨p,q⟩:=key e
  refine ⟨by rw [hr.1,p],fun i x' hx=>?_⟩
  obtain ⟨x,g1,g2⟩:=q i x' hx
  exact toArg_ok hW (hr.2 i x g1) g2
theorem pureE_le {w':World}:(pureE (foOf h pl fo) w').Le (mkEnv h pl fo w') where
  obj o:=trivial
  pl o hn:=(hn rfl).elim
  k0 b hb:=⟨hb.1,fun hq=>hb.2 (.inr hq),fun hq=>hb.2 (.inl hq)⟩
  k1 b hb:=hb.elim
  w0 b i x _ e:=e
  w1 b i x hb e:=hb.elim
end
section
variable {b:Frame} {a:Act} {k:List Item} {cs:List Frame} {w w':World} {ops:Array Oper} {i:Nat} {rest:List Nat} {o:Oper}
theorem finish_op (ho:ops[i]?=some o) (v:Value):(b.atR a (.inRegion ops (i::rest)::k)).finish v=b.atR (a.put o.dst v) (.inRegion ops rest::k):=by
  rw [Frame.finish_atR,ho];rfl
theorem step_value (ho:ops[i]?=some o) (hw:Region.wanted o (yielded ops a.tmps)=true) (hd:∀c,o.op ≠ .defer c) {v:Value} (hr:(execOp a.eval o).run P w = .ok (.value v) w'∨((execOp a.eval o).run P w = .ok .skip w'∧v=undef)) :
    step P (lone (b.atR a (.inRegion ops (i::rest)::k)) cs w) = .next (lone (b.atR (a.put o.dst v) (.inRegion ops rest::k)) cs w'):=by
  refine step_lone_go ?_
  rw [stepGR_op ho hw,Oper.semAt_eq _ _ _ hd,←finish_op ho]
  rcases hr with hr | ⟨hr,rfl⟩<;>simp [stepG.apply,hr]
theorem step_enter (ho:ops[i]?=some o) (hw:Region.wanted o (yielded ops a.tmps)=true) (hd:∀c,o.op ≠ .defer c) {f:FuncId} {args:Array Value} {cv:Value} (hr:(execOp a.eval o).run P w = .ok (.enter f args) w)
    (hc:∃fr,Steps P (lone (Frame.enter P f args .normal) (b.atR a (.inRegion ops (i::rest)::k)::cs) w) (lone fr (b.atR a (.inRegion ops (i::rest)::k)::cs) w')∧fr.leaving P w' (.returned cv)∧fr.fn=f) :
    Steps P (lone (b.atR a (.inRegion ops (i::rest)::k)) cs w) (lone (b.atR (a.put o.dst cv) (.inRegion ops rest::k)) cs w'):=by
  obtain ⟨fr,h1,h2,_⟩:=hc
  have henter:step P (lone (b.atR a (.inRegion ops (i::rest)::k)) cs w) = .next (lone (Frame.enter P f args .normal) (b.atR a (.inRegion ops (i::rest)::k)::cs) w):=
    step_lone_go (by rw [stepGR_op ho hw,Oper.semAt_eq _ _ _ hd];simp [stepG.apply,hr,Frame.atR])
  refine .head henter (h1.trans (.one ?_))
  rw [←finish_op ho]
  exact step_leave_returned h2
theorem step_round (ho:ops[i]?=some o) (hw:Region.wanted o (yielded ops a.tmps)=true) (hd:∀c,o.op ≠ .defer c) {l:Nat} {f:FuncId} {tmps:Array Value} {x y:Code} {cv:Value} (hr:(execOp a.eval o).run P w = .ok (.round l f tmps x y) w)
    (hc:Steps P (lone (Frame.round l f tmps x y .normal) (b.atR a (.inRegion ops (i::rest)::k)::cs) w) (lone ((b.atR a (.inRegion ops (i::rest)::k)).finish cv) cs w')) :
    Steps P (lone (b.atR a (.inRegion ops (i::rest)::k)) cs w) (lone (b.atR (a.put o.dst cv) (.inRegion ops rest::k)) cs w'):=by
  have henter:step P (lone (b.atR a (.inRegion ops (i::rest)::k)) cs w) = .next (lone (Frame.round l f tmps x y .normal) (b.atR a (.inRegion ops (i::rest)::k)::cs) w):=
    step_lone_go (by rw [stepGR_op ho hw,Oper.semAt_eq _ _ _ hd];simp [stepG.apply,hr])
  refine .head henter ?_
  rw [←finish_op ho]
  exact hc
end
theorem run_call_func {f : FuncId} {fn : Func} {c : Code} (hf : P.funcs[f]? = some fn) (hn : (fn.name == "runtime.NumGoroutine") = false) (hb : fn.body = some c) (args : Array Value) (w : World) : (callFunc f args).run P w = .ok (.enter f args) w := by
  have h1 : fn.name ≠ "runtime.NumGoroutine" := by simpa using hn
  simp [callFunc,hf,h1,hb]
theorem run_op_func {ρ : Operand → Value} {o : Oper} {cl : Call} {x : Operand} (ho : o.op = .call cl) (hcl : cl.callee = .value x) {f : FuncId} {fv cv : Array Value} (hx : ρ x = .func (.func f) fv cv) {fn : Func} {c : Code} (hf : P.funcs[f]? = some fn) (hn : (fn.name == "runtime.NumGoroutine") = false) (hb : fn.body = some c) (w : World) :
    (execOp ρ o).run P w = .ok (.enter f (fv++cl.args.map ρ++cv)) w:=by
  simp only [execOp,ho,resolve,hcl,Deferred.ofValue,hx,Sem.run_bind,Sem.run_pure,Result.andThen_ok,invoke]
  exact run_call_func hf hn hb _ w
theorem run_getLoop {w:World} {l:Nat} {L:Loop} (hl:w.heap[l]?=some (.loop L)):(Instr.getLoop l).run P w = .ok L w:=by
  simp [Instr.getLoop,getObj,Sem.run,hl,Result.andThen]
theorem run_op_yield {ρ:Operand→Value} {o:Oper} {cl:Call} {x:Operand} (ho:o.op = .call cl) (hcl:cl.callee = .value x) {l:Nat} (hx:ρ x = .func (.yield l) #[] #[]) {w:World} {L:Loop} (hl:w.heap[l]?=some (.loop L)) (hs:(cl.args.map ρ).size=L.params.size) :
    (execOp ρ o).run P w = .ok (.round l L.fn ((L.params.zip (cl.args.map ρ)).foldl (fun tmps (t,a)=>tmps.setIfInBounds t a) L.tmps) L.assign L.body) w:=by
  simp only [execOp,ho,resolve,hcl,Deferred.ofValue,hx,Sem.run_bind,Sem.run_pure,Result.andThen_ok,invoke,Array.empty_append,Instr.yield]
  have:=run_getLoop (P:=P) hl
  simp only [this,Result.andThen_ok]
  rw [if_neg (by omega)]
  rfl
end Am
namespace Am
open Go
set_option linter.unusedVariables false
set_option linter.unusedSimpArgs false
variable {P:Program} {cfg:Cfg}
def gOf (all:Array Oper):Option (Nat × Bool)→Option (Option (Nat × Bool))
  | none=>some none
  | some (j,b)=>match all[j]? with
    | some x=>x.dst.map fun d=>some (d,b)
    | none=>none
structure COp (P:Program) (cfg:Cfg) (all:Array Oper) (o:Oper) (ao:AOper):Prop where
  op:cOp P cfg o.op=some ao.op
  dst:ao.dst=o.dst
  guard:gOf all o.guard=some ao.guard
theorem cOpers_spec {fk:Nat} {all:Array Oper}:∀{l:List Oper} {n:Nat} {r:List AOper × Nat},cOpers P cfg fk all l n=some r→r.1.length=l.length∧∀(i:Nat) ao,nth r.1 i=some ao→∃o,l[i]?=some o∧COp P (cfg.at (siteOf fk o.dst)) all o ao
  | [],n,r,h=>by cases h;exact ⟨rfl,fun i ao h=>by cases h⟩
  | o::os,n,r,h=>by
    unfold cOpers at h
    cases ho:cOp P (cfg.at (siteOf fk o.dst)) o.op with
    | none=>rw [ho] at h;cases h
    | some a=>
      rw [ho] at h
      simp only at h
      have key:∀g,gOf all o.guard=some g→(cOpers P cfg fk all os (if a.makes then n+1 else n)).map (fun r=>((⟨o.dst,a,g,n⟩::r.1,r.2):List AOper × Nat))=some r→r.1.length=(o::os).length∧∀(i:Nat) ao,nth r.1 i=some ao→∃o',(o::os)[i]?=some o'∧COp P (cfg.at (siteOf fk o'.dst)) all o' ao:=by
        intro g hg hm
        cases hr:cOpers P cfg fk all os (if a.makes then n+1 else n) with
        | none=>rw [hr] at hm;cases hm
        | some r'=>
          rw [hr] at hm;cases hm
          obtain ⟨p,q⟩:=cOpers_spec hr
          refine ⟨by simp [p],fun i ao hi=>?_⟩
          cases i with
          | zero=>cases hi;exact ⟨o,rfl,ho,rfl,hg⟩
          | succ i=>exact q i ao hi
      cases hg:o.guard with
      | none=>rw [hg] at h;exact key none (by rw [hg];rfl) h
      | some p=>
        obtain ⟨j,b⟩:=p
        rw [hg] at h
        simp only at h
        cases hj:all[j]? with
        | none=>rw [hj] at h;cases h
        | some x=>
          rw [hj] at h
          simp only at h
          cases hx:x.dst with
          | none=>rw [hx] at h;cases h
          | some d=>rw [hx] at h;exact key (some (d,b)) (by rw [hg];simp [gOf,hj,hx]) h
theorem wanted_ok {E:Env} {s:List V} {tmps:Array Value} {all:Array Oper} {o:Oper} {g:Option (Nat × Bool)} (hs:RS E s tmps) (hg:gOf all o.guard=some g) {t:Bool} (hw:wantedA s g=some t):Region.wanted o (yielded all tmps)=t:=by
  unfold Region.wanted
  cases hog:o.guard with
  | none=>
    rw [hog] at hg
    cases hg
    cases hw;rfl
  | some p=>
    obtain ⟨j,b⟩:=p
    rw [hog] at hg
    simp only [gOf] at hg
    cases hj:all[j]? with
    | none=>rw [hj] at hg;cases hg
    | some x=>
      rw [hj] at hg
      cases hx:x.dst with
      | none=>simp only [hx] at hg;cases hg
      | some d=>
        simp only [hx,Option.map_some] at hg
        cases hg
        simp only [wantedA] at hw
        have hv:=hs.2 d
        simp only [yielded,hj,Option.bind_some,hx]
        split at hw
        · rename_i bv hb
          cases hw
          rw [hb] at hv
          have e:=hv.c_inv.bool_inv
          rw [Array.getD_eq_getD_getElem?] at e
          cases hd:tmps[d]? with
          | none=>rw [hd] at e;cases e
          | some y=>
            rw [hd] at e
            simp only [Option.getD_some] at e
            subst e
            cases bv<;>cases b<;>rfl
        · rename_i hb
          cases hw
          rw [hb] at hv
          rw [Array.getD_eq_getD_getElem?] at hv
          cases hd:tmps[d]? with
          | none=>rfl
          | some y=>
            rw [hd] at hv
            simp only [Option.getD_some] at hv
            cases hv with
            | tup hn _=>rfl
        · cases hw
section
variable {b:Frame} {k:List Item} {cs:List Frame} {ops:Array Oper} {i:Nat} {rest:List Nat} {o:Oper} {ao:AOper} {r:Rec} {rb:Nat} {st st':St} {f:Foot} {a:Act} {pl:Nat→Pl} {fo:Kept} {w:World}
theorem cOp_defer {c:Call} (h:o.op = .defer c):cOp P cfg o.op=none:=by rw [h];rfl
theorem cOp_opens {op:Op} {a:AOp} (h:cOp P cfg op=some a) (ha:a.opens=true):∃c,op = .call c∧cCall P cfg c=some a:=by
  cases op
  case call c=>exact ⟨c,rfl,h⟩
  all_goals (
    exfalso
    simp only [cOp,cListc] at h
    repeat' (split at h)
    all_goals first
      | (obtain ⟨_,_,rfl⟩:=Option.map_eq_some_iff.1 h;cases ha;done)
      | (cases h;done)
      | (cases h;cases ha;done)
      | (rename_i hq;cases hq;done))
theorem cCall_inv {c:Call} {a:AOp} (h:cCall P cfg c=some a) (ha:a.opens=true) :
    (∃f e x' sz by_,c.callee = .value (.func f)∧cfg.clone f=some e∧cOpds c.args.toList=some [x']∧sizeT P e=some sz∧bytesT P e=some by_∧a = .clone f sz by_ x') ∨
    (∃f args,c.callee = .value (.func f)∧cOpds c.args.toList=some args∧a = .call f (cfg.pure f) args) ∨
    (∃t args,c.callee = .value (.tmp t)∧cOpds c.args.toList=some args∧a = .callv (.tmp t) args) ∨
    (∃f e x' sz by_,c.callee = .value (.func f)∧cfg.grow f=some e∧cOpds c.args.toList=some [.cst (.c .nils),x']∧sizeT P e=some sz∧bytesT P e=some by_∧a = .grow f sz by_ x'):=by
  unfold cCall at h
  split at h
  · rename_i f args h1 h2
    split at h
    · rename_i e x' h3
      split at h
      · rename_i sz by_ h4 h5
        cases h
        exact .inl ⟨_,_,_,_,_,h1,h3,h2,h4,h5,rfl⟩
      · cases h
    · split at h
      · rename_i e x' h3 _
        split at h
        · rename_i sz by_ h4 h5
          cases h
          exact .inr (.inr (.inr ⟨_,_,_,_,_,h1,h3,h2,h4,h5,rfl⟩))
        · cases h
      · cases h
        exact .inr (.inl ⟨_,_,h1,h2,rfl⟩)
  · rename_i t args h1 h2
    cases h
    exact .inr (.inr (.inl ⟨_,_,h1,h2,rfl⟩))
  all_goals (
    exfalso
    repeat' (split at h)
    all_goals first
      | (cases h;done)
      | (cases h;cases ha;done))
def After (P:Program) (cfg:Cfg) (m:Machine) (b:Frame) (todo:List Item) (cs:List Frame) (st:St) (a:Act) (pl:Nat→Pl) (fo:Kept) (w:World) (st':St):Prop:=
  ∃a' w' pl',Steps P m (lone (b.atR a' todo) cs w')∧Sim P cfg st' a' pl' fo w'∧Mv st.heap pl w st'.heap pl' w'∧a'.defers=a.defers
theorem Act.put_defers' (a:Act) (d:Option Nat) (v:Value):(a.put d v).defers=a.defers:=by cases d<;>rfl
theorem Mv.keepFo {h h':List Obj} {pl pl':Nat→Pl} {fo:Kept} {w w':World} (m:Mv h pl w h' pl' w') (hfo:∀b,fo b→b<w.heap.size):∀b,fo b→b<w'.heap.size:=fun b hb=>Nat.lt_of_lt_of_le (hfo b hb) m.fr.size
theorem Sim.put {h':List Obj} {pl':Nat→Pl} {w':World} (hS:Sim P cfg st a pl fo w) (m:Mv st.heap pl w h' pl' w') (hW:RW P cfg h' pl' fo w') {d:Option Nat} {v:V} {cv:Value} (hv:RV (mkEnv h' pl' fo w') v cv):Sim P cfg ⟨putD st.slots d v,h'⟩ (a.put d cv) pl' fo w':=
  ⟨(hS.rs.mono m.le).put hv,hW,m.keepFo hS.fo⟩
theorem step_op {g:Nat} (hr:Sound P cfg r) (hcl:ClonesOk P cfg) (ho:ops[i]?=some o) (hc:COp P (cfg.at g) ops o ao) (he:evO r rb ao st=some (st',f)) (hS:Sim P cfg st a pl fo w) :
    After P cfg (lone (b.atR a (.inRegion ops (i::rest)::k)) cs w) b (.inRegion ops rest::k) cs st a pl fo w st':=by
  obtain ⟨dst,op,guard,rid⟩:=ao
  obtain ⟨hop,hdst,hg⟩:=hc
  simp only at hop hdst hg
  subst hdst
  have hd:∀c,o.op ≠ .defer c:=fun c e=>by rw [cOp_defer e] at hop;cases hop
  unfold evO at he
  simp only at he
  cases hw:wantedA st.slots guard with
  | none=>rw [hw] at he;cases he
  | some t=>
    rw [hw] at he
    have hwant:=wanted_ok hS.rs hg hw
    cases t with
    | false=>
      cases he
      refine ⟨a.put o.dst undef,w,pl,.one ?_,hS.put (Mv.refl _ _ _) hS.rw RV_skip,Mv.refl _ _ _,Act.put_defers' _ _ _⟩
      have:=stepR_op_skip (P:=P) (b:=b) (a:=a) (k:=k) (cs:=cs) (w:=w) (ops:=ops) (i:=i) (rest:=rest) (by rw [ho];simpa using hwant)
      rw [ho] at this
      exact this
    | true=>
      simp only at he
      -- an operation that is no call
      have plain:∀{v wr},op.opens=false→opEv (rb+rid) st.slots st.heap op=some (v,wr)→After P cfg (lone (b.atR a (.inRegion ops (i::rest)::k)) cs w) b (.inRegion ops rest::k) cs st a pl fo w ⟨putD st.slots o.dst v,applyW st.heap wr⟩:=by
        intro v wr hn hev
        obtain ⟨cv,w',pl',h1,h2,h3,h4,h5⟩:=op_ok hS.fo hS.rw hS.rho (fun _=>rfl) hop hn hev
        exact ⟨a.put o.dst cv,w',pl',.one (step_value ho hwant hd h1),hS.put ⟨h4,h5⟩ h3 h2,⟨h4,h5⟩,Act.put_defers' _ _ _⟩
      -- a call
      have callArgs:∀{c:Call} {args:List Opd},cOpds c.args.toList=some args→RVs (mkEnv st.heap pl fo w) (args.map (·.ev st.slots)) (c.args.map a.eval):=by
        intro c args hargs
        have:=cOpds_RVs hS.rho hargs
        rwa [show (c.args.toList.map a.eval).toArray=c.args.map a.eval by rw [←Array.toList_map]] at this
      have fnCall:∀{fk:Nat} {fv cvs:Array Value} {c:Call} {x:Operand} {args:List V} {v:V} {h':List Obj},o.op = .call c→c.callee = .value x→a.eval x = .func (.func fk) fv cvs→r (.f fk args st.heap)=some (v,h') →
          RVs (mkEnv st.heap pl fo w) args (fv++c.args.map a.eval++cvs)→After P cfg (lone (b.atR a (.inRegion ops (i::rest)::k)) cs w) b (.inRegion ops rest::k) cs st a pl fo w ⟨putD st.slots o.dst v,h'⟩:=by
        intro fk fv cvs c x args v h' e1 e2 e3 e4 e5
        obtain ⟨⟨fn,code,g1,g2,g3⟩,hall⟩:=hr.f e4 e5 hS.rw hS.fo
        obtain ⟨cv,w',pl',q1,q2,q3,q4⟩:=hall (b.atR a (.inRegion ops (i::rest)::k)::cs)
        exact ⟨a.put o.dst cv,w',pl',step_enter ho hwant hd (run_op_func e1 e2 e3 g1 g2 g3 w) q1,hS.put q4 q3 q2,q4,Act.put_defers' _ _ _⟩
      cases op
      case call fk p args=>
        obtain ⟨c,hoc,hcc⟩:=cOp_opens hop rfl
        rcases cCall_inv hcc rfl with ⟨_,_,_,_,_,_,_,_,_,_,e⟩ | ⟨f',args',e1,e2,e⟩ | ⟨_,_,_,_,e⟩ | ⟨_,_,_,_,_,_,_,_,_,_,e⟩<;>cases e
        cases hp:(cfg.at g).pure fk with
        | true=>
          rw [hp] at he
          simp only at he
          cases ha:toArgs st.heap (args.map (·.ev st.slots)) with
          | none=>rw [ha] at he;cases he
          | some as=>
            rw [ha] at he
            simp only at he
            cases hrr:r (.p fk as) with
            | none=>rw [hrr] at he;cases he
            | some z=>
              obtain ⟨v,h'⟩:=z
              rw [hrr] at he
              cases he
              obtain ⟨⟨fn,code,g1,g2,g3⟩,hall⟩:=hr.p hrr (toArgs_ok hS.rw (callArgs e2) ha) (foOf_lt hS.rw hS.fo)
              obtain ⟨cv,w',q1,q2,q3,q4⟩:=hall (b.atR a (.inRegion ops (i::rest)::k)::cs)
              obtain ⟨k1,k2,k3⟩:=hS.rw.world q3 q4
              have hx:(execOp a.eval o).run P w = .ok (.enter fk (c.args.map a.eval)) w:=by
                have:=run_op_func (P:=P) (ρ:=a.eval) hoc e1 (f:=fk) (fv:=#[]) (cv:=#[]) rfl g1 g2 g3 w
                simpa using this
              exact ⟨a.put o.dst cv,w',pl,step_enter ho hwant hd hx q1,hS.put ⟨k2,k3⟩ k1 (q2.mono pureE_le),⟨k2,k3⟩,Act.put_defers' _ _ _⟩
        | false=>
          rw [hp] at he
          simp only at he
          cases hrr:r (.f fk (args.map (·.ev st.slots)) st.heap) with
          | none=>rw [hrr] at he;cases he
          | some z=>
            obtain ⟨v,h'⟩:=z
            rw [hrr] at he
            cases he
            exact fnCall hoc e1 rfl hrr (by simpa using callArgs e2)
      case callv fx args=>
        obtain ⟨c,hoc,hcc⟩:=cOp_opens hop rfl
        rcases cCall_inv hcc rfl with ⟨_,_,_,_,_,_,_,_,_,_,e⟩ | ⟨f',args',e1,e2,e⟩ | ⟨t,args',e1,e2,e⟩ | ⟨_,_,_,_,_,_,_,_,_,_,e⟩<;>cases e
        simp only at he
        cases hcv:callV r ((Opd.tmp t).ev st.slots) (args.map (·.ev st.slots)) st.heap with
        | none=>rw [hcv] at he;cases he
        | some z=>
          obtain ⟨v,h'⟩:=z
          rw [hcv] at he
          cases he
          have hx:RV (mkEnv st.heap pl fo w) (getS st.slots t) (a.eval (.tmp t)):=hS.rs.2 t
          unfold callV at hcv
          split at hcv
          · rename_i fk agg first caps hv
            have hv':getS st.slots t = .c (.fn fk agg first caps):=hv
            rw [hv'] at hx
            generalize hval:a.eval (.tmp t)=xv at hx
            cases hx.c_inv with
            | fn vs ws q1 q2 q3 q4=>
              refine fnCall hoc e1 hval hcv ?_
              subst q2
              exact ((RVs.first q1 q3).append (callArgs e2)).append (RVs.of_cells q4)
          · rename_i lo hv
            have hv':getS st.slots t = .c (.yld lo):=hv
            rw [hv'] at hx
            generalize hval:a.eval (.tmp t)=xv at hx
            cases hx.c_inv with
            | yld hob hbl=>
              obtain ⟨L,g1,g2,hall⟩:=hr.y hcv (callArgs e2) hS.rw hS.fo hbl
              obtain ⟨cv,w',pl',q1,q2,q3,q4⟩:=hall (b.atR a (.inRegion ops (i::rest)::k)) cs
              exact ⟨a.put o.dst cv,w',pl',step_round ho hwant hd (run_op_yield hoc e1 hval g1 g2) q1,hS.put q4 q3 q2,q4,Act.put_defers' _ _ _⟩
          · cases hcv
      case clone fk sz by_ x=>
        obtain ⟨c,hoc,hcc⟩:=cOp_opens hop rfl
        rcases cCall_inv hcc rfl with ⟨f',e',x',sz',by',e1,e2,e3,e4,e5,e⟩ | ⟨f',args',e1,e2,e⟩ | ⟨t,args',e1,e2,e⟩ | ⟨f',e',x',sz',by',e1,e2,e3,e4,e5,e⟩<;>cases e
        simp only at he
        obtain ⟨⟨fn,code,g1,g2,g3⟩,hq⟩:=hcl.1 _ _ e2 e4 e5
        split at he
        · rename_i v wr hev
          cases he
          obtain ⟨xo,x1,x2⟩:=cOpds_one e3
          have hxa:c.args=#[xo]:=by rw [←Array.toList_inj];exact x1
          obtain ⟨cv,w',pl',q1,q2,q3,q4⟩:=hq hev (hS.rho xo x x2) hS.rw hS.fo (b.atR a (.inRegion ops (i::rest)::k)::cs)
          have hx:(execOp a.eval o).run P w = .ok (.enter fk #[a.eval xo]) w:=by
            have:=run_op_func (P:=P) (ρ:=a.eval) hoc e1 (f:=fk) (fv:=#[]) (cv:=#[]) rfl g1 g2 g3 w
            rw [hxa] at this
            simpa using this
          exact ⟨a.put o.dst cv,w',pl',step_enter ho hwant hd hx q1,hS.put q4 q3 q2,q4,Act.put_defers' _ _ _⟩
        · cases he
      case grow fk sz by_ x=>
        obtain ⟨c,hoc,hcc⟩:=cOp_opens hop rfl
        rcases cCall_inv hcc rfl with ⟨_,_,_,_,_,_,_,_,_,_,e⟩ | ⟨f',args',e1,e2,e⟩ | ⟨t,args',e1,e2,e⟩ | ⟨f',e',x',sz',by',e1,e2,e3,e4,e5,e⟩<;>cases e
        simp only at he
        obtain ⟨⟨fn,code,g1,g2,g3⟩,hq⟩:=hcl.2 _ _ e2 e4 e5
        split at he
        · rename_i v wr hev
          cases he
          obtain ⟨x0,x1,xa,x2,x3⟩:=cOpds_two e3
          have hxa:c.args=#[x0,x1]:=by rw [←Array.toList_inj];exact xa
          have hv0:a.eval x0 = .slice none 0 0:=by
            have h0:=hS.rho x0 _ x2
            generalize hv:a.eval x0=v0 at h0
            cases h0.c_inv with | nils=>rfl
          simp only [opEv] at hev
          split at hev
          · rename_i n hn
            split at hev
            · rename_i hb
              simp only [newV] at hev
              split at hev
              · rename_i hh
                cases hev
                obtain ⟨hh1,hh2⟩:=isHole_iff.1 hh
                have hv1:a.eval x1 = .int .i64 n:=by
                  have h1:=hS.rho x1 _ x3
                  rw [hn] at h1
                  exact h1.c_inv.int_inv
                obtain ⟨ad,cap,w',q1,q2,q3,q4⟩:=hq (n:=n.toNat) (by have:=hb.2;rw [←Int.toNat_of_nonneg hb.1] at this;exact_mod_cast this) w (b.atR a (.inRegion ops (i::rest)::k)::cs)
                have hx:(execOp a.eval o).run P w = .ok (.enter fk #[.slice none 0 0,.int .i64 (n.toNat:Int)]) w:=by
                  have:=run_op_func (P:=P) (ρ:=a.eval) hoc e1 (f:=fk) (fv:=#[]) (cv:=#[]) rfl g1 g2 g3 w
                  rw [hxa] at this
                  rw [Int.toNat_of_nonneg hb.1]
                  simpa [hv0,hv1] using this
                obtain ⟨p,hp1,hp2,hp3⟩:∃p:Pl,(∀b,p.blk=some b→w.heap.size≤b)∧(∀{E:Env},E.w=w'→RO' P cfg E p (.arr false 0 sz [])) ∧
                    ((∃b,p.blk=some b∧ad=some ⟨b,0*sz,none⟩∧cap=p.cap-0)∨(p.blk=none∧ad=none∧cap=0)):=by
                  rcases q4 with ⟨r1,r2⟩ | ⟨b,arr,T,r1,r2,r3,r4⟩
                  · exact ⟨⟨none,0⟩,fun b h=>(by cases h),fun _=>⟨Nat.le_refl _,fun i row h=>(by cases h),rfl⟩,.inr ⟨rfl,r1,r2⟩⟩
                  · refine ⟨⟨some b,cap⟩,fun b' h=>(by cases h;exact r1),fun hE=>⟨Nat.zero_le _,fun i row h=>(by cases h),arr,T,(by rw [hE];exact r3),r4,fun i row j d h=>(by cases h)⟩,.inl ⟨b,rfl,by rw [r2,Nat.zero_mul],rfl⟩⟩
                obtain ⟨A,B,D'⟩:=hS.rw.place (o:=rb+rid) (x:=.arr false 0 sz []) (p:=p) (w':=w') hS.fo hh1 (by rw [hh2];trivial) (.inl hh2) (.inr hh2) q2 q3 hp1 (fun _=>hp2 rfl)
                refine ⟨a.put o.dst (.slice ad 0 cap),w',_,step_enter ho hwant hd hx q1,hS.put ⟨B,D'⟩ A ?_,⟨B,D'⟩,Act.put_defers' _ _ _⟩
                refine .c (.sl (by show getH (setH st.heap (rb+rid) (.arr false 0 sz [])) (rb+rid)=_;rw [getH_setH,if_pos ⟨rfl,hh1⟩]) (Nat.le_refl _) (Nat.zero_le _) fun _=>⟨Nat.le_refl _,?_⟩)
                have hpl:updP pl (rb+rid) p (rb+rid)=p:=updP_same pl _ p
                show (∃b,(updP pl (rb+rid) p (rb+rid)).blk=some b∧_∧_=(updP pl (rb+rid) p (rb+rid)).cap-0)∨((updP pl (rb+rid) p (rb+rid)).blk=none∧_)∨_
                rw [hpl]
                rcases hp3 with h | h
                · exact .inl h
                · exact .inr (.inl h)
              · cases hev
            · cases hev
          · cases hev
        · cases he
      all_goals
        simp only at he
        split at he
        · rename_i v wr hev
          cases he
          exact plain rfl hev
        · cases he
end
end Am
namespace Am
open Go
set_option linter.unusedVariables false
set_option linter.unusedSimpArgs false
variable {P:Program} {cfg:Cfg}
theorem getH_holes (h:List Obj) (n o:Nat):getH (h++List.replicate n .none) o=getH h o:=by
  induction h generalizing o with
  | nil=>
    simp only [List.nil_append]
    induction n generalizing o with
    | zero=>rfl
    | succ n ih=>
      rw [List.replicate_succ]
      cases o with
      | zero=>rfl
      | succ o=>exact ih o
  | cons x h ih=>cases o with
    | zero=>rfl
    | succ o=>exact ih o
theorem owned_congr {h h':List Obj} {pl:Nat→Pl} (hg:∀o,getH h' o=getH h o) (b:Nat):owned h' pl b↔owned h pl b:=by
  unfold owned;simp only [hg]
theorem Mv.same {h h':List Obj} {pl:Nat→Pl} {w:World} (hg:∀o,getH h' o=getH h o):Mv h pl w h' pl w:=
  ⟨⟨fun o=>by rw [hg];exact Obj.le_refl _,fun _ _ _=>rfl⟩,⟨Still.refl _,fun _ _ _=>rfl,fun b _ hn=>by rw [owned_congr hg];exact hn⟩⟩
theorem RW.same {h h':List Obj} {pl:Nat→Pl} {fo:Kept} {w:World} (hg:∀o,getH h' o=getH h o) (hW:RW P cfg h pl fo w):RW P cfg h' pl fo w:=
  ⟨fun o=>by rw [hg];exact (hW.obj o).mono (Mv.same hg).le fun _ _=>rfl,fun o o' b=>by rw [hg,hg];exact hW.ne o o' b,fun o b=>by rw [hg];exact hW.fo o b⟩
theorem Sim.same {st:St} {h':List Obj} {a:Act} {pl:Nat→Pl} {fo:Kept} {w:World} (hg:∀o,getH h' o=getH st.heap o) (hS:Sim P cfg st a pl fo w):Sim P cfg ⟨st.slots,h'⟩ a pl fo w:=
  ⟨hS.rs.mono (Mv.same hg).le,hS.rw.same hg,hS.fo⟩
section
variable {b:Frame} {k:List Item} {cs:List Frame} {ops:Array Oper} {aops:List AOper} {r:Rec} {rb:Nat} {F:Nat→Foot}
theorem After.trans {m:Machine} {t1 t2:List Item} {st st1 st2:St} {a:Act} {pl:Nat→Pl} {fo:Kept} {w:World} (h1:After P cfg m b t1 cs st a pl fo w st1)
    (h2:∀a1 w1 pl1,Sim P cfg st1 a1 pl1 fo w1→After P cfg (lone (b.atR a1 t1) cs w1) b t2 cs st1 a1 pl1 fo w1 st2):After P cfg m b t2 cs st a pl fo w st2:=by
  obtain ⟨a1,w1,pl1,q1,q2,q3,q4⟩:=h1
  obtain ⟨a2,w2,pl2,p1,p2,p3,p4⟩:=h2 a1 w1 pl1 q2
  exact ⟨a2,w2,pl2,q1.trans p1,p2,q3.trans p3,by rw [p4,q4]⟩
theorem ex_ok {g:Nat} (hr:Sound P cfg r) (hcl:ClonesOk P cfg) (hco:∀(i:Nat) ao,nth aops i=some ao→∃o,ops[i]?=some o∧COp P (cfg.at (siteOf g o.dst)) ops o ao):∀(L:List Nat) {st st':St} {a:Act} {pl:Nat→Pl} {fo:Kept} {w:World},ExL r rb aops F L st st'→Sim P cfg st a pl fo w →
    After P cfg (lone (b.atR a (.inRegion ops L::k)) cs w) b k cs st a pl fo w st'
  | [],st,st',a,pl,fo,w,h,hS=>by
    cases h
    exact ⟨a,w,pl,.one stepR_region_end,hS,Mv.refl _ _ _,rfl⟩
  | i::L,st,st',a,pl,fo,w,h,hS=>by
    obtain ⟨ao,st1,h1,h2,h3⟩:=h
    obtain ⟨o,h4,h5⟩:=hco i ao h1
    exact (step_op hr hcl h4 h5 h2 hS).trans fun a1 w1 pl1 hS1=>ex_ok hr hcl hco L h3 hS1
theorem cOpers_below {P:Program} {cfg:Cfg} {fk:Nat} {all:Array Oper}:∀{os:List Oper} {n m:Nat} {l:List AOper},cOpers P cfg fk all os n=some (l,m)→n≤m∧∀(i:Nat) b z,nth l i=some b→b.op = .alloc z→b.rid<m
  | [],n,m,l,e=>by
    cases e
    exact ⟨Nat.le_refl _,fun i b z h=>by cases i<;>cases h⟩
  | o::os,n,m,l,e=>by
    unfold cOpers at e
    split at e
    · cases e
    · rename_i a ha
      split at e
      · cases e
      · rename_i g hg
        cases hr:cOpers P cfg fk all os (if a.makes then n+1 else n) with
        | none=>rw [hr] at e;cases e
        | some r=>
          obtain ⟨l',m'⟩:=r
          rw [hr] at e
          simp only [Option.map_some,Option.some.injEq,Prod.mk.injEq] at e
          obtain ⟨rfl,rfl⟩:=e
          obtain ⟨h1,h2⟩:=cOpers_below hr
          have hnm:n≤m':=by split at h1<;>omega
          refine ⟨hnm,fun i b z hi hb=>?_⟩
          cases i with
          | zero=>
            cases hi
            simp only at hb ⊢
            rw [if_pos (by rw [hb];rfl)] at h1
            omega
          | succ i=>exact h2 i b z hi hb
theorem region_ok (hr:Sound P cfg r) (hcl:ClonesOk P cfg) (hm:P.follows .mixedOrders=true) {f id n:Nat} {draw:Bool} {ac:ACode} (hc:cRegion P cfg f ops draw=some ac) {x:X} {st st':St} (he:evC r n ac st=some (x,st')) {a:Act} {pl:Nat→Pl} {fo:Kept} {w:World} (hS:Sim P cfg st a pl fo w) :
    x = .normal∧After P cfg (lone (b.atR a (.code (.region id ops draw)::k)) cs w) b k cs st a pl fo w st':=by
  simp only [cRegion] at hc
  cases hco:cOpers P cfg f ops ops.toList 0 with
  | none=>rw [hco] at hc;cases hc
  | some ro=>
    obtain ⟨aops,news⟩:=ro
    rw [hco] at hc
    simp only at hc
    obtain ⟨hlen,hspec⟩:=cOpers_spec hco
    have hlen':aops.length=ops.size:=by simpa using hlen
    have hspec':∀(i:Nat) ao,nth aops i=some ao→∃o,ops[i]?=some o∧COp P (cfg.at (siteOf f o.dst)) ops o ao:=fun i ao hi=>by
      obtain ⟨o,h1,h2⟩:=hspec i ao hi
      exact ⟨o,by simpa using h1,h2⟩
    have hg:=getH_holes st.heap news
    have hS1:Sim P cfg ⟨st.slots,st.heap++List.replicate news .none⟩ a pl fo w:=hS.same hg
    have lift:∀{m:Machine} {t:List Item},After P cfg m b t cs ⟨st.slots,st.heap++List.replicate news .none⟩ a pl fo w st'→After P cfg m b t cs st a pl fo w st':=by
      rintro m t ⟨a1,w1,pl1,q1,q2,q3,q4⟩
      exact ⟨a1,w1,pl1,q1,q2,(Mv.same hg).trans q3,q4⟩
    cases draw with
    | false=>
      cases hc
      unfold evC at he
      cases hev:evOs r st.heap.length 0 aops ⟨st.slots,st.heap++List.replicate news .none⟩ [] with
      | none=>rw [hev] at he;cases he
      | some z=>
        obtain ⟨st1,fs⟩:=z
        rw [hev] at he
        simp only [pairsOk,if_true] at he
        cases he
        refine ⟨rfl,lift ?_⟩
        obtain ⟨a1,w1,pl1,q1,q2,q3,q4⟩:=ex_ok (b:=b) (k:=k) (cs:=cs) hr hcl hspec' _ (text_order hlen' hev) hS1
        exact ⟨a1,w1,pl1,.head stepR_region q1,q2,q3,q4⟩
    | true=>
      simp only at hc
      split at hc
      · rename_i hq
        cases hc
        rw [Bool.and_eq_true] at hq
        unfold evC at he
        cases hev:evOs r st.heap.length 0 aops ⟨st.slots,st.heap++List.replicate news .none⟩ [] with
        | none=>rw [hev] at he;cases he
        | some z=>
          obtain ⟨st1,fs⟩:=z
          rw [hev] at he
          simp only at he
          split at he
          · rename_i hpo
            cases he
            refine ⟨rfl,lift ?_⟩
            obtain ⟨k1,k2,k3⟩:=hS1.rw.world (w':={ w with drawn:=w.drawn+1 }) (Still.drew _ _) (fun _ _=>rfl)
            have hm1:Mv _ pl w _ pl { w with drawn:=w.drawn+1 }:=⟨k2,k3⟩
            have hS2:Sim P cfg ⟨st.slots,st.heap++List.replicate news .none⟩ a pl fo { w with drawn:=w.drawn+1 }:=⟨hS1.rs.mono hm1.le,k1,hS1.fo⟩
            have hord:=drawn_order hr.framed (n:=news) (cOpers_below hco).2 (by simp) hlen' hq.2 hq.1 hpo hev (w.tape w.drawn (.order b.fn id))
            obtain ⟨a1,w1,pl1,q1,q2,q3,q4⟩:=ex_ok (b:=b) (k:=k) (cs:=cs) hr hcl hspec' _ hord hS2
            refine ⟨a1,w1,pl1,.head stepR_region_draw ?_,q2,hm1.trans q3,q4⟩
            simp only [Region.schedule,hm,Bool.true_or,if_true]
            exact q1
          · cases he
      · cases hc
end
section
variable {h:List Obj} {pl:Nat→Pl} {fo:Kept} {w:World} {n:Nat}
theorem owned_take {b:Nat}:owned (h.take n) pl b→owned h pl b:=by
  rintro ⟨o,h1,h2⟩
  rw [getH_take] at h1
  split at h1
  · exact ⟨o,h1,h2⟩
  · cases h1
theorem Mv.take {h0:List Obj} {pl0:Nat→Pl} {w0:World} (m:Mv h0 pl0 w0 h pl w) (hn:h0.length≤n):Mv h0 pl0 w0 (h.take n) pl w:=by
  refine ⟨⟨fun o=>?_,fun o h1 h2=>?_⟩,⟨m.fr.st,m.fr.same,fun b hb hno ho=>m.fr.own b hb hno (owned_take ho)⟩⟩
  · rw [getH_take]
    split
    · exact m.hle.obj o
    · rw [getH_none (by omega)];trivial
  · have:o<n:=by
      rcases Nat.lt_or_ge o n with hl | hl
      · exact hl
      · exact (h1 (getH_none (by omega))).elim
    rw [getH_take,if_pos this] at h2
    exact m.hle.pl o h1 h2
theorem Env.k0_take {b:Nat} (hb:(mkEnv h pl fo w).K0 b):(mkEnv (h.take n) pl fo w).K0 b:=⟨hb.1,fun ho=>hb.2.1 (owned_take ho),hb.2.2⟩
theorem Env.k1_take {b:Nat} (hb:(mkEnv h pl fo w).K1 b):(mkEnv (h.take n) pl fo w).K1 b:=⟨hb.1,fun ho=>hb.2 (owned_take ho)⟩
theorem Env.kt_take {t:Bool} {b:Nat} (hb:(mkEnv h pl fo w).kt t b):(mkEnv (h.take n) pl fo w).kt t b:=by cases t;exact Env.k0_take hb;exact Env.k1_take hb
theorem underL_nth {cs:List C} (hu:C.underL n cs=true):∀(i:Nat) (c:C),nth cs i=some c→C.under n c=true:=by
  induction cs with
  | nil=>intro i c h;cases h
  | cons x cs ih=>
    simp only [C.underL,Bool.and_eq_true] at hu
    intro i c hc
    cases i with
    | zero=>cases hc;exact hu.1
    | succ i=>exact ih hu.2 i c hc
theorem VunderL_nth {cs:List V} (hu:V.underL n cs=true):∀(i:Nat) (c:V),nth cs i=some c→V.under n c=true:=by
  induction cs with
  | nil=>intro i c h;cases h
  | cons x cs ih=>
    simp only [V.underL,Bool.and_eq_true] at hu
    intro i c hc
    cases i with
    | zero=>cases hc;exact hu.1
    | succ i=>exact ih hu.2 i c hc
theorem R.take {c:C} {v:Value} (hr:R (mkEnv h pl fo w) c v) (hu:C.under n c=true):R (mkEnv (h.take n) pl fo w) c v:=by
  have hg:∀{o},Nat.blt o n=true→getH (h.take n) o=getH h o:=fun {o} hb=>by
    rw [getH_take,if_pos (by simpa [Nat.blt_eq] using hb)]
  induction hr with
  | any v=>exact .any v
  | int k m=>exact .int k m
  | bool b=>exact .bool b
  | lst hd=>exact .lst (hd.mono (fun b hb=>Env.kt_take hb) fun _ _ _ _ e=>e)
  | nils=>exact .nils
  | ptr hb=>exact .ptr (by unfold Cel at hb ⊢;rw [show getH (mkEnv (h.take n) pl fo w).h _=_ from hg hu];exact hb)
  | aptr ho hv hb=>exact .aptr (by rw [←ho];exact hg hu) hv hb
  | ept vs hK hc hd=>exact .ept vs (Env.kt_take hK) hc fun j d hj=>(hd j d hj).mono (fun b hb=>Env.kt_take hb) fun _ _ _ _ e=>e
  | sl ho hv hl hb=>exact .sl (by rw [←ho];exact hg hu) hv hl hb
  | map ho hb=>exact .map (by rw [←ho];exact hg hu) hb
  | fn vs ws h1 h2 hf hc ih1 ih2=>
    simp only [C.under,Bool.and_eq_true] at hu
    exact .fn vs ws h1 h2 (fun i c hi=>ih1 i c hi (underL_nth hu.1 i c hi)) (fun i c hi=>ih2 i c hi (underL_nth hu.2 i c hi))
  | yld ho hb=>exact .yld (by rw [←ho];exact hg hu) hb
  | nilfn=>exact .nilfn
  | nilp=>exact .nilp
  | psl hb hl ha hc=>exact .psl (by unfold Cel at hb ⊢;rw [show getH (mkEnv (h.take n) pl fo w).h _=_ from hg hu];exact hb) hl ha (by rw [show getH (mkEnv (h.take n) pl fo w).h _=_ from hg hu];exact hc)
  | ls vs hK hl hc hr ih=>exact .ls vs (Env.k0_take hK) hl hc (fun i c hi=>ih i c hi (underL_nth hu i c hi))
  | lpt hK hc hr ih=>exact .lpt (Env.k0_take hK) hc (ih hu)
theorem RV.take {x:V} {v:Value} (hr:RV (mkEnv h pl fo w) x v) (hu:V.under n x=true):RV (mkEnv (h.take n) pl fo w) x v:=by
  induction hr with
  | c hr=>exact .c (hr.take hu)
  | agg hn hR=>exact .agg hn fun i c hi=>(hR i c hi).take (underL_nth hu i c hi)
  | tup hn hR ih=>exact .tup hn fun i x hi=>ih i x hi (VunderL_nth hu i x hi)
theorem getS_under {s:List V} (hu:V.underL n s=true) (i:Nat):V.under n (getS s i)=true:=by
  induction s generalizing i with
  | nil=>rfl
  | cons x s ih=>
    simp only [V.underL,Bool.and_eq_true] at hu
    cases i with
    | zero=>exact hu.1
    | succ i=>exact ih hu.2 i
theorem RS.take {s:List V} {tmps:Array Value} (hr:RS (mkEnv h pl fo w) s tmps) (hu:V.underL n s=true):RS (mkEnv (h.take n) pl fo w) s tmps:=
  ⟨hr.1,fun i=>(hr.2 i).take (getS_under hu i)⟩
theorem underE_nth {es:List (List D × List C)} (hu:underE n es=true):∀(i:Nat) e,nth es i=some e→C.underL n e.2=true:=by
  induction es with
  | nil=>intro i c h;cases h
  | cons x cs ih=>
    simp only [underE,Bool.and_eq_true] at hu
    intro i c hc
    cases i with
    | zero=>cases hc;exact hu.1
    | succ i=>exact ih hu.2 i c hc
theorem RO'.take {x:Obj} {p:Pl} (hr:RO' P cfg (mkEnv h pl fo w) p x) (hu:x.under n=true):RO' P cfg (mkEnv (h.take n) pl fo w) p x:=by
  cases x with
  | none=>trivial
  | cells cs=>
    obtain ⟨b,arr,T,h1,h2,h3⟩:=hr
    exact ⟨b,arr,T,h1,h2,h3.1,fun i c hi=>(h3.2 i c hi).take (underL_nth hu i c hi)⟩
  | arr fz ver sz rows=>
    obtain ⟨h1,h2,h3⟩:=hr
    refine ⟨h1,h2,?_⟩
    cases hp:p.blk with
    | none=>rw [hp] at h3;exact h3
    | some b=>
      rw [hp] at h3
      obtain ⟨arr,T,h4,h5,h6⟩:=h3
      refine ⟨arr,T,h4,h5,fun i row j d a c=>?_⟩
      obtain ⟨v,e,r⟩:=h6 i row j d a c
      exact ⟨v,e,r.mono (fun b hb=>Env.k0_take hb) fun _ _ _ _ e=>e⟩
  | map ka va ks es=>
    obtain ⟨b,en,ck,h1,h2,h3,h4⟩:=hr
    refine ⟨b,en,ck,h1,h2,h3,fun i e he=>?_⟩
    obtain ⟨e',q1,q2⟩:=h4 i e he
    refine ⟨e',q1,q2.key,q2.scal,?_⟩
    obtain ⟨vs,a1,a2,a3⟩:=q2.val
    exact ⟨vs,a1,a2,a3.1,fun j c hj=>(a3.2 j c hj).take (underL_nth (underE_nth hu i e he) j c hj)⟩
  | loop l=>
    obtain ⟨b,L,h1,h2,h3,h4,h5,h6⟩:=hr
    exact ⟨b,L,h1,h2,h3,h4,h5.take hu,h6⟩
theorem underH_get {l:List Obj} (hu:underH n l=true) (o:Nat):(getH l o).under n=true:=by
  induction l generalizing o with
  | nil=>rfl
  | cons x l ih=>
    simp only [underH,Bool.and_eq_true] at hu
    cases o with
    | zero=>exact hu.1
    | succ o=>exact ih hu.2 o
theorem RW.take (hW:RW P cfg h pl fo w) (hu:underH n (h.take n)=true):RW P cfg (h.take n) pl fo w:=by
  have hle:∀o,getH (h.take n) o ≠ .none→getH h o ≠ .none:=fun o ho=>by
    rw [getH_take] at ho
    split at ho
    · exact ho
    · exact (ho rfl).elim
  refine ⟨fun o=>?_,fun o o' b h1 h2 h3=>hW.ne o o' b h1 (hle o h2) (hle o' h3),fun o b h1=>hW.fo o b (hle o h1)⟩
  have hx:=underH_get hu o
  have h0:=hW.obj o
  rw [getH_take] at hx ⊢
  split
  · rename_i hl
    rw [if_pos hl] at hx
    exact h0.take hx
  · trivial
theorem trunc_spec {vs:List V} {h':List Obj} (ht:trunc n vs h=some h'):h'=h.take n∧V.underL n vs=true∧underH n (h.take n)=true:=by
  unfold trunc at ht
  split at ht
  · rename_i hq
    cases ht
    simp only [Bool.and_eq_true] at hq
    exact ⟨rfl,hq.1,hq.2⟩
  · cases ht
end
end Am
namespace Am
open Go
set_option linter.unusedVariables false
set_option linter.unusedSimpArgs false
variable {P:Program} {cfg:Cfg}
theorem getH_hole1 (h:List Obj) (o:Nat):getH (h++[.none]) o=getH h o:=getH_holes h 1 o
theorem setH_last (h:List Obj) (x y:Obj):setH (h++[x]) h.length y=h++[y]:=by
  induction h with
  | nil=>rfl
  | cons a h ih=>simp only [List.cons_append,List.length_cons,setH,ih]
theorem getH_last (h:List Obj) (x:Obj):getH (h++[x]) h.length=x:=by
  induction h with
  | nil=>rfl
  | cons a h ih=>simp only [List.cons_append,List.length_cons,getH,ih]
theorem getH_before (h:List Obj) (x:Obj) {o:Nat} (ho:o<h.length):getH (h++[x]) o=getH h o:=by
  induction h generalizing o with
  | nil=>simp at ho
  | cons a h ih=>cases o with
    | zero=>rfl
    | succ o=>exact ih (by simpa using ho)
theorem setH_before (h:List Obj) (x y:Obj) {o:Nat} (ho:o<h.length):setH (h++[x]) o y=setH h o y++[x]:=by
  induction h generalizing o with
  | nil=>simp at ho
  | cons a h ih=>cases o with
    | zero=>rfl
    | succ o=>simp only [List.cons_append,setH];rw [ih (by simpa using ho)]
section
variable {h:List Obj} {pl:Nat→Pl} {fo:Kept} {w w':World}
theorem RW.push (hfo:∀b,fo b→b<w.heap.size) (hW:RW P cfg h pl fo w) {x:Obj} {p:Pl} (hsz:Still w w') (hold:∀b,b<w.heap.size→w'.heap[b]?=w.heap[b]?) (hp:∀b,p.blk=some b→w.heap.size≤b)
    (hro:Mv h pl w (h++[x]) (updP pl h.length p) w'→RO' P cfg (mkEnv (h++[x]) (updP pl h.length p) fo w') p x) :
    RW P cfg (h++[x]) (updP pl h.length p) fo w'∧Mv h pl w (h++[x]) (updP pl h.length p) w':=by
  have hn:getH (h++[.none]) h.length = .none:=getH_last h .none
  have h1:RW P cfg (h++[.none]) pl fo w:=hW.same (getH_hole1 h)
  have hmv:Mv h pl w (h++[.none]) pl w:=Mv.same (getH_hole1 h)
  have key:=RW.place (x:=x) (p:=p) (w':=w') hfo h1 (o:=h.length) (by simp) (by rw [hn];trivial) (.inl hn) (.inr hn) hsz hold hp
  rw [setH_last] at key
  have mv2:Mv h pl w (h++[x]) (updP pl h.length p) w':=by
    refine ⟨⟨fun o=>?_,fun o hn' hs=>?_⟩,⟨hsz,fun b hb _=>hold b hb,fun b hb hno=>?_⟩⟩
    · by_cases ho:o<h.length
      · rw [getH_before h x ho];exact Obj.le_refl _
      · rw [getH_none (by omega)];trivial
    · have:o≠h.length:=fun e=>hn' (getH_none (by omega))
      exact updP_ne _ _ this
    · rintro ⟨o,hm,hb'⟩
      by_cases ho:o=h.length
      · subst ho
        rw [updP_same] at hb'
        have:=hp b hb'
        omega
      · rw [updP_ne _ _ ho] at hb'
        have hol:o<h.length:=by
          rcases Nat.lt_or_ge o h.length with hl | hl
          · exact hl
          · rw [getH_none (by simp;omega)] at hm;cases hm
        rw [getH_before h x hol] at hm
        exact hno ⟨o,hm,hb'⟩
  obtain ⟨A,_,_⟩:=key (fun _=>hro mv2)
  exact ⟨A,mv2⟩
theorem push_arr (hfo:∀b,fo b→b<w.heap.size) (hW:RW P cfg h pl fo w) (sz:Nat):RW P cfg (h++[.arr false 0 sz []]) (updP pl h.length ⟨none,0⟩) fo w∧Mv h pl w (h++[.arr false 0 sz []]) (updP pl h.length ⟨none,0⟩) w ∧
    R (mkEnv (h++[.arr false 0 sz []]) (updP pl h.length ⟨none,0⟩) fo w) (.sl h.length 0 0 0) (.slice none 0 0):=by
  obtain ⟨A,B⟩:=RW.push (x:=.arr false 0 sz []) (p:=⟨none,0⟩) hfo hW (Still.refl _) (fun _ _=>rfl) (fun b hb=>by cases hb) (fun _=>⟨Nat.zero_le _,(fun i row hr=>by cases hr),rfl⟩)
  refine ⟨A,B,.sl (getH_last _ _) (Nat.le_refl _) (Nat.le_refl _) fun _=>⟨Nat.le_refl _,.inr (.inl ⟨?_,rfl,rfl⟩)⟩⟩
  show (updP pl h.length ⟨none,0⟩ h.length).blk=none
  rw [updP_same]
end
section
variable {st:St} {a:Act} {pl:Nat→Pl} {fo:Kept} {w:World}
theorem RS.set {E:Env} {s:List V} {tmps:Array Value} (h:RS E s tmps) {i:Nat} {v:V} (hv:RV E v (tmps.getD i undef)):RS E (setS s i v) tmps:=by
  refine ⟨by rw [setS_len];exact h.1,fun j=>?_⟩
  rw [getS_setS]
  split
  · rename_i hj;rw [hj.1];exact hv
  · exact h.2 j
theorem reify_ok : ∀(l:List (Nat × Option Nat × Nat)) {st:St} {pl:Nat→Pl},Sim P cfg st a pl fo w→∃pl',Sim P cfg (reify l st) a pl' fo w∧Mv st.heap pl w (reify l st).heap pl' w
  | [],st,pl,hS=>⟨pl,hS,Mv.refl _ _ _⟩
  | (i,none,sz)::l,st,pl,hS=>by
    unfold reify
    split
    · rename_i hi
      obtain ⟨A,B,C'⟩:=push_arr hS.fo hS.rw sz
      have hv:=hS.rs.2 i
      rw [hi] at hv
      have hv':a.tmps.getD i undef = .slice none 0 0:=by
        have:=hv.c_inv
        generalize a.tmps.getD i undef=x at this
        cases this;rfl
      have hS1:Sim P cfg ⟨setS st.slots i (.c (.sl st.heap.length 0 0 0)),st.heap++[.arr false 0 sz []]⟩ a (updP pl st.heap.length ⟨none,0⟩) fo w:=
        ⟨(hS.rs.mono B.le).set (by rw [hv'];exact .c C'),A,hS.fo⟩
      obtain ⟨pl',h1,h2⟩:=reify_ok l hS1
      exact ⟨pl',h1,B.trans h2⟩
    · exact reify_ok l hS
  | (i,some off,sz)::l,st,pl,hS=>by
    unfold reify
    split
    · rename_i o off' hi
      split
      · rename_i cs ho
        split
        · rename_i hn
          obtain ⟨A,B,C'⟩:=push_arr hS.fo hS.rw sz
          have hol:o<st.heap.length:=getH_lt (by rw [ho];simp)
          have ho1:getH (st.heap++[.arr false 0 sz []]) o = .cells cs:=by rw [getH_before _ _ hol];exact ho
          have hro:=A.obj o
          rw [ho1] at hro
          obtain ⟨b,arr,T,hb,hblk,hrl⟩:=hro
          have hblk':w.heap[b]?=some (.cells arr T (0,0)):=hblk
          have hnv:=hrl.2 off .nils hn
          have hnv':arr.getD off undef = .slice none 0 0:=by
            generalize arr.getD off undef=x at hnv
            cases hnv;rfl
          obtain ⟨A2,B2,C2⟩:=A.update (o:=o) (x:=.cells (setNth cs off (.sl st.heap.length 0 0 0))) (ob:=.cells arr T (0,0)) (by rw [ho1];rfl) hb (by rw [ho1];exact .inl ⟨_,rfl⟩) rfl (fun hE=>by
            refine ⟨b,arr,T,hb,setBlk_get _ _ _ (Array.getElem?_eq_some_iff.1 hblk').1,⟨by rw [setNth_len];exact hrl.1.1,hrl.1.2⟩,fun j c hj=>?_⟩
            rw [nth_setNth] at hj
            split at hj
            · rename_i hq
              cases hj
              rw [hq.1,hnv']
              exact C'.mono hE
            · exact (hrl.2 j c hj).mono hE)
          rw [setBlk_self hblk'] at A2 C2
          rw [setH_before _ _ _ hol] at A2 B2 C2
          have m2:Mv st.heap pl w _ _ w:=B.trans ⟨B2,C2⟩
          have hS1:Sim P cfg ⟨st.slots,setH st.heap o (.cells (setNth cs off (.sl st.heap.length 0 0 0)))++[.arr false 0 sz []]⟩ a (updP pl st.heap.length ⟨none,0⟩) fo w:=⟨hS.rs.mono m2.le,A2,hS.fo⟩
          obtain ⟨pl',h1,h2⟩:=reify_ok l hS1
          exact ⟨pl',h1,m2.trans h2⟩
        · exact reify_ok l hS
      · exact reify_ok l hS
    · exact reify_ok l hS
theorem RS.kill {E:Env} {tmps:Array Value}:∀(l:List Nat) {s:List V},RS E s tmps→RS E (killS l s) tmps
  | [],s,h=>h
  | i::l,s,h=>RS.kill l (h.set (.c (.any _)))
theorem head_ok {ann:Ann} {h0:List Obj} {pl0:Nat→Pl} {w0:World} {st1:St} (hh:headOf ann h0.length st=some st1) (hS:Sim P cfg st a pl fo w) (m:Mv h0 pl0 w0 st.heap pl w):Sim P cfg st1 a pl fo w∧Mv h0 pl0 w0 st1.heap pl w:=by
  unfold headOf at hh
  split at hh
  case isFalse=>cases hh
  simp only at hh
  split at hh
  · cases ht:trunc h0.length (killS ann.kill st.slots) st.heap with
    | none=>rw [ht] at hh;cases hh
    | some h'=>
      rw [ht] at hh;cases hh
      obtain ⟨rfl,g1,g2⟩:=trunc_spec ht
      exact ⟨⟨(RS.kill _ hS.rs).take g1,hS.rw.take g2,hS.fo⟩,m.take (Nat.le_refl _)⟩
  · cases hh
    exact ⟨⟨RS.kill _ hS.rs,hS.rw,hS.fo⟩,m⟩
end
end Am
namespace Am
open Go
set_option linter.unusedVariables false
set_option linter.unusedSimpArgs false
variable {P:Program} {cfg:Cfg}
def DD (b:Frame) (n0:Nat) (a:Act) (w:World):Prop:=b.roundOf=none→DOK n0 a.defers w
theorem DD.mv {b:Frame} {n0:Nat} {a a':Act} {h h':List Obj} {pl pl':Nat→Pl} {fo:Kept} {w w':World} (hd:DD b n0 a w) (hW:RW P cfg h pl fo w) (m:Mv h pl w h' pl' w') (he:a'.defers=a.defers):DD b n0 a' w':=fun hb=>by
  rw [he];exact (hd hb).mv hW m
def Arr (P:Program) (m:Machine) (b:Frame) (k:List Item) (cs:List Frame) (x:X) (a:Act) (w:World):Prop:=
  match x with
  | .normal=>Steps P m (lone (b.atR a k) cs w)
  | .exit id=>∃todo,exitTo id todo=exitTo id k∧Steps P m (lone (b.atR a (.code (.exit id)::todo)) cs w)
  | .ret=>∃todo,Steps P m (lone (b.atR a (.code .ret::todo)) cs w)
theorem Arr.head {m m1:Machine} {b:Frame} {k:List Item} {cs:List Frame} {x:X} {a:Act} {w:World} (h:Steps P m m1) (h1:Arr P m1 b k cs x a w):Arr P m b k cs x a w:=by
  cases x with
  | normal=>exact h.trans h1
  | exit id=>obtain ⟨t,e,s⟩:=h1;exact ⟨t,e,h.trans s⟩
  | ret=>obtain ⟨t,s⟩:=h1;exact ⟨t,h.trans s⟩
theorem Arr.pass {m:Machine} {b:Frame} {y:Item} {k:List Item} {cs:List Frame} {x:X} {a:Act} {w:World} (hx:x ≠ .normal) (hy:y.plain=true) (h:Arr P m b (y::k) cs x a w):Arr P m b k cs x a w:=by
  cases x with
  | normal=>exact (hx rfl).elim
  | exit id=>obtain ⟨t,e,s⟩:=h;exact ⟨t,by rw [e];cases y<;>simp_all [exitTo,Item.plain],s⟩
  | ret=>exact h
def CodeOk (P:Program) (cfg:Cfg) (m:Machine) (b:Frame) (k:List Item) (cs:List Frame) (h:List Obj) (pl:Nat→Pl) (fo:Kept) (w:World) (n0:Nat) (x:X) (st':St):Prop:=
  ∃a' w' pl',Arr P m b k cs x a' w'∧Sim P cfg st' a' pl' fo w'∧Mv h pl w st'.heap pl' w'∧DD b n0 a' w'
theorem CodeOk.head {m m1:Machine} {b:Frame} {k:List Item} {cs:List Frame} {h:List Obj} {pl:Nat→Pl} {fo:Kept} {w:World} {n0:Nat} {x:X} {st':St} (hs:Steps P m m1) (h1:CodeOk P cfg m1 b k cs h pl fo w n0 x st'):CodeOk P cfg m b k cs h pl fo w n0 x st':=by
  obtain ⟨a,w',pl',q1,q2⟩:=h1;exact ⟨a,w',pl',q1.head hs,q2⟩
theorem CodeOk.base {m:Machine} {b:Frame} {k:List Item} {cs:List Frame} {h h0:List Obj} {pl pl0:Nat→Pl} {fo:Kept} {w w0:World} {n0:Nat} {x:X} {st':St} (m0:Mv h0 pl0 w0 h pl w) (h1:CodeOk P cfg m b k cs h pl fo w n0 x st'):CodeOk P cfg m b k cs h0 pl0 fo w0 n0 x st':=by
  obtain ⟨a,w',pl',q1,q2,q3,q4⟩:=h1;exact ⟨a,w',pl',q1,q2,m0.trans q3,q4⟩
theorem CodeOk.pass {m:Machine} {b:Frame} {y:Item} {k:List Item} {cs:List Frame} {h:List Obj} {pl:Nat→Pl} {fo:Kept} {w:World} {n0:Nat} {x:X} {st':St} (hx:x ≠ .normal) (hy:y.plain=true) (h1:CodeOk P cfg m b (y::k) cs h pl fo w n0 x st'):CodeOk P cfg m b k cs h pl fo w n0 x st':=by
  obtain ⟨a,w',pl',q1,q2⟩:=h1;exact ⟨a,w',pl',q1.pass hx hy,q2⟩
def Good (P:Program) (cfg:Cfg) (r:Rec) (f:Nat) (c:Code):Prop:=
  ∀{ac:ACode},cCode P cfg f c=some ac→∀{n:Nat} {st:St} {x:X} {st':St},evC r n ac st=some (x,st') →
    ∀{b:Frame} {k:List Item} {cs:List Frame} {a:Act} {pl:Nat→Pl} {fo:Kept} {w:World} {n0:Nat},b.fn=f→Sim P cfg st a pl fo w→RoundOk b st.heap pl→n0≤w.heap.size→DD b n0 a w →
      CodeOk P cfg (lone (b.atR a (.code c::k)) cs w) b k cs st.heap pl fo w n0 x st'
section
variable {r:Rec} {f:Nat}
theorem good_skip : Good P cfg r f .skip:=by
  intro ac hc n st x st' he b k cs a pl fo w n0 hb hS hR hn hD
  cases hc;cases he
  exact ⟨a,w,pl,.one stepR_skip,hS,Mv.refl _ _ _,hD⟩
theorem good_label (l:Nat):Good P cfg r f (.label l):=by
  intro ac hc n st x st' he b k cs a pl fo w n0 hb hS hR hn hD
  cases hc;cases he
  exact ⟨a,w,pl,.one stepR_label,hS,Mv.refl _ _ _,hD⟩
theorem good_exit (id:Nat):Good P cfg r f (.exit id):=by
  intro ac hc n st x st' he b k cs a pl fo w n0 hb hS hR hn hD
  cases hc;cases he
  exact ⟨a,w,pl,⟨k,rfl,.refl _ _⟩,hS,Mv.refl _ _ _,hD⟩
theorem good_ret : Good P cfg r f .ret:=by
  intro ac hc n st x st' he b k cs a pl fo w n0 hb hS hR hn hD
  cases hc;cases he
  exact ⟨a,w,pl,⟨k,.refl _ _⟩,hS,Mv.refl _ _ _,hD⟩
theorem frzD_ok {h h':List Obj} {pl:Nat→Pl} {fo:Kept} {w:World} {c:C} {d:D} (e:frzD h c=some (d,h')) (hW:RW P cfg h pl fo w) :
    RW P cfg h' pl fo w∧Mv h pl w h' pl w∧(∀v,R (mkEnv h pl fo w) c v→RD (mkEnv h' pl fo w).K0 w d v)∧∀o cs,getH h o = .cells cs→getH h' o = .cells cs:=by
  unfold frzD at e
  split at e
  · cases e;exact ⟨hW,Mv.refl _ _ _,fun v h=>by cases h;exact .int _ _,fun o cs h=>h⟩
  · cases e;exact ⟨hW,Mv.refl _ _ _,fun v h=>by cases h;exact .bool _,fun o cs h=>h⟩
  · cases e;exact ⟨hW,Mv.refl _ _ _,fun v h=>by cases h with | lst hd=>exact hd,fun o cs h=>h⟩
  · cases e;exact ⟨hW,Mv.refl _ _ _,fun v h=>by cases h;exact .nil _ _,fun o cs h=>h⟩
  · rename_i o ver off len
    split at e
    · rename_i fz ver' sz rows ho
      split at e
      · rename_i hv
        subst hv
        cases hp:part off len rows with
        | none=>rw [hp] at e;cases e
        | some r=>
          rw [hp] at e
          cases e
          obtain ⟨a1,a2,a3⟩:=hW.frozen ho
          have hol:=getH_lt (l:=h) (i:=o) (by rw [ho];simp)
          have hg:∀o',getH (setH h o (.arr true ver' sz rows)) o'=if o'=o then .arr true ver' sz rows else getH h o':=fun o'=>by
            rw [getH_setH];by_cases e:o'=o
            · rw [if_pos ⟨e,hol⟩,if_pos e]
            · rw [if_neg (fun a=>e a.1),if_neg e]
          have hE:=Env.le_of (fo:=fo) a2 a3
          refine ⟨a1,⟨a2,a3⟩,fun v hr=>?_,fun o' cs ho'=>?_⟩
          · refine sl_data (K:=(mkEnv (setH h o (.arr true ver' sz rows)) pl fo w).K0) hW hr ho hp hE.k0 fun b hb=>⟨hW.lt (by rw [ho];simp) hb,?_,hW.fo o b (by rw [ho];simp) hb⟩
            rintro ⟨o2,m1,m2⟩
            by_cases e2:o2=o
            · subst e2;rw [hg,if_pos rfl] at m1;cases m1
            · exact a1.ne o o2 b (fun e=>e2 e.symm) (by rw [hg,if_pos rfl];simp) (Obj.ne_none_of_mutable m1) hb m2
          · rw [hg,if_neg (fun e=>by rw [e,ho] at ho';cases ho')];exact ho'
      · cases e
    · cases e
  · cases e
theorem frzDs_ok : ∀{cs:List C} {ds:List (List D)} {h h':List Obj} {pl:Nat→Pl} {fo:Kept} {w:World},frzDs h cs=some (ds,h')→RW P cfg h pl fo w →
    RW P cfg h' pl fo w∧Mv h pl w h' pl w∧(ds.length=cs.length∧∀(f:Nat→Value),(∀(i:Nat) (c:C),nth cs i=some c→R (mkEnv h pl fo w) c (f i))→∀(i:Nat) (row:List D),nth ds i=some row→∃d,row=[d]∧RD (mkEnv h' pl fo w).K0 w d (f i))∧∀o cs,getH h o = .cells cs→getH h' o = .cells cs
  | [],ds,h,h',pl,fo,w,e,hW=>by cases e;exact ⟨hW,Mv.refl _ _ _,⟨rfl,fun f _ i row h=>by cases h⟩,fun o cs h=>h⟩
  | c::cs,ds,h,h',pl,fo,w,e,hW=>by
    unfold frzDs at e
    cases hc:frzD h c with
    | none=>rw [hc] at e;cases e
    | some z=>
      obtain ⟨d,h2⟩:=z
      rw [hc] at e
      simp only at e
      cases hs:frzDs h2 cs with
      | none=>rw [hs] at e;cases e
      | some z=>
        obtain ⟨ds2,h3⟩:=z
        rw [hs] at e
        cases e
        obtain ⟨a1,a2,a3,a4⟩:=frzD_ok hc hW
        obtain ⟨b1,b2,⟨b3,b5⟩,b4⟩:=frzDs_ok hs a1
        refine ⟨b1,a2.trans b2,⟨by simp [b3],fun f hf i row hi=>?_⟩,fun o cs h=>b4 o cs (a4 o cs h)⟩
        cases i with
        | zero=>
          cases hi
          have hE:=b2.le (fo:=fo)
          exact ⟨d,rfl,(a3 _ (hf 0 c rfl)).mono hE.k0 hE.w0⟩
        | succ i=>exact b5 (fun i=>f (i+1)) (fun j c' hj=>(hf (j+1) c' hj).mono a2.le) i row hi
theorem frzC_ok {h h':List Obj} {pl:Nat→Pl} {fo:Kept} {w:World} {c c':C} (e:frzC h c=some (c',h')) (hW:RW P cfg h pl fo w) :
    RW P cfg h' pl fo w∧Mv h pl w h' pl w∧(∀v,R (mkEnv h pl fo w) c v→R (mkEnv h' pl fo w) c' v):=by
  unfold frzC at e
  split at e
  · rename_i o ver off len
    split at e
    · rename_i fz ver' sz rows ho
      split at e
      · rename_i hv
        subst hv
        cases hp:part off len rows with
        | none=>rw [hp] at e;cases e
        | some r=>
          rw [hp] at e
          cases e
          obtain ⟨a1,a2,a3⟩:=hW.frozen ho
          have hol:=getH_lt (l:=h) (i:=o) (by rw [ho];simp)
          have hg:∀o',getH (setH h o (.arr true ver' sz rows)) o'=if o'=o then .arr true ver' sz rows else getH h o':=fun o'=>by
            rw [getH_setH];by_cases e:o'=o
            · rw [if_pos ⟨e,hol⟩,if_pos e]
            · rw [if_neg (fun a=>e a.1),if_neg e]
          have hE:=Env.le_of (fo:=fo) a2 a3
          refine ⟨a1,⟨a2,a3⟩,fun v hr=>?_⟩
          · refine .lst (sl_data (K:=(mkEnv (setH h o (.arr true ver' sz rows)) pl fo w).K0) hW hr ho hp hE.k0 fun b hb=>⟨hW.lt (by rw [ho];simp) hb,?_,hW.fo o b (by rw [ho];simp) hb⟩)
            rintro ⟨o2,m1,m2⟩
            by_cases e2:o2=o
            · subst e2;rw [hg,if_pos rfl] at m1;cases m1
            · exact a1.ne o o2 b (fun e=>e2 e.symm) (by rw [hg,if_pos rfl];simp) (Obj.ne_none_of_mutable m1) hb m2
      · cases e
    · cases e
  · rename_i cs
    cases hd:frzDs h cs with
    | none=>rw [hd] at e;cases e
    | some q=>
      obtain ⟨ds,h2⟩:=q
      rw [hd] at e
      cases e
      obtain ⟨b1,b2,⟨b3,b5⟩,b4⟩:=frzDs_ok hd hW
      refine ⟨b1,b2,fun v hr=>?_⟩
      cases hr with
      | @ls _ b off cap vs hK hl hc hr=>
        have hb:=b5 vs hr
        have hE:=b2.le (fo:=fo)
        refine .lst ?_
        show RD (mkEnv h2 pl fo w).K0 w (.lst ds) (.slice (some ⟨b,off,none⟩) cs.length cap)
        rw [←b3]
        refine .lst 1 (fun i _=>vs i) (hE.k0 _ hK) (by rw [b3];exact hl) (fun i row hi=>?_) (fun i row j d hi hj=>?_) (fun i row j d hi hj=>?_)
        · obtain ⟨d,e1,_⟩:=hb i row hi
          rw [e1];rfl
        · obtain ⟨d',e1,_⟩:=hb i row hi
          subst e1
          cases j with
          | zero=>
            rw [Nat.mul_one,Nat.add_zero]
            exact hc i (by rw [←b3];exact nth_lt hi)
          | succ j=>cases hj
        · obtain ⟨d',e1,e2⟩:=hb i row hi
          subst e1
          cases j with
          | zero=>cases hj;exact e2
          | succ j=>cases hj
  · rename_i o off len
    split at e
    · rename_i cs ho
      split at e
      · rename_i hcc
        obtain ⟨rfl,hcl⟩:=hcc
        cases hd:frzDs h cs with
        | none=>rw [hd] at e;cases e
        | some q=>
          obtain ⟨ds,h2⟩:=q
          rw [hd] at e
          cases e
          obtain ⟨b1,b2,⟨b3,b5⟩,b4⟩:=frzDs_ok hd hW
          have ho2:=b4 o cs ho
          obtain ⟨g1,g2,g3⟩:=b1.giveup ho2
          refine ⟨g1,b2.trans ⟨g2,g3⟩,fun v hr=>?_⟩
          cases hr with
          | @psl _ _ _ cap b a hb0 hl ha hcp=>
            have hb:=hb0.blk ho
            have hro:=hW.obj o
            rw [ho] at hro
            obtain ⟨b',arr,T,hb',hblk,hrl⟩:=hro
            have:b'=b:=by have:=hb'.symm.trans hb;injection this
            subst this
            by_cases hz:len=0
            · subst hz
              have:ds=[]:=List.length_eq_zero_iff.1 (by omega)
              subst this
              exact .lst (.nil _ _)
            · have ha:=ha.resolve_left hz
              subst ha
              have hq:=b5 (fun i=>arr.getD i undef) (fun i c hi=>hrl.2 i c hi)
              have hE:=Env.le_of (fo:=fo) g2 g3
              refine .lst ?_
              show RD (mkEnv (setH h2 o gone) pl fo w).K0 w (.lst ds) (.slice (some ⟨b',0,none⟩) len cap)
              rw [←hcl,←b3]
              have hbs:b'<w.heap.size:=(Array.getElem?_eq_some_iff.1 hblk).1
              have hol:=getH_lt (l:=h2) (i:=o) (by rw [ho2];simp)
              refine .lst 1 (fun i _=>arr.getD i undef) ⟨hbs,?_,hW.fo o b' (by rw [ho];simp) hb'⟩ (by rw [b3,hcl];exact hl) (fun i row hi=>?_) (fun i row j d hi hj=>?_) (fun i row j d hi hj=>?_)
              · rintro ⟨o2,m1,m2⟩
                by_cases e2:o2=o
                · subst e2;rw [getH_setH,if_pos ⟨rfl,hol⟩] at m1;cases m1
                · rw [getH_setH,if_neg (fun e=>e2 e.1)] at m1
                  exact b1.ne o o2 b' (fun e=>e2 e.symm) (by rw [ho2];simp) (Obj.ne_none_of_mutable m1) hb' m2
              · obtain ⟨d,e1,_⟩:=hq i row hi
                rw [e1];rfl
              · obtain ⟨d',e1,_⟩:=hq i row hi
                subst e1
                cases j with
                | zero=>
                  have hlt:=nth_lt hi
                  rw [Nat.mul_one,Nat.add_zero,Nat.zero_add,cellAt_blk (show w.heap[b']?=some (.cells arr T (0,0)) from hblk),Array.getD_eq_getD_getElem?,Array.getElem?_eq_getElem (by have:=hrl.1.1;omega)];rfl
                | succ j=>cases hj
              · obtain ⟨d',e1,e2⟩:=hq i row hi
                subst e1
                cases j with
                | zero=>cases hj;exact e2.mono hE.k0 hE.w0
                | succ j=>cases hj
      · cases e
    · cases e
  · cases e;exact ⟨hW,Mv.refl _ _ _,fun v h=>h⟩
theorem frzCs_ok : ∀{cs cs':List C} {h h':List Obj} {pl:Nat→Pl} {fo:Kept} {w:World},frzCs h cs=some (cs',h')→RW P cfg h pl fo w →
    RW P cfg h' pl fo w∧Mv h pl w h' pl w∧(cs'.length=cs.length∧∀(f:Nat→Value),(∀(i:Nat) (c:C),nth cs i=some c→R (mkEnv h pl fo w) c (f i))→∀(i:Nat) (c:C),nth cs' i=some c→R (mkEnv h' pl fo w) c (f i))
  | [],cs',h,h',pl,fo,w,e,hW=>by cases e;exact ⟨hW,Mv.refl _ _ _,⟨rfl,fun f _ i c h=>by cases h⟩⟩
  | c::cs,cs',h,h',pl,fo,w,e,hW=>by
    unfold frzCs at e
    cases hc:frzC h c with
    | none=>rw [hc] at e;cases e
    | some z=>
      obtain ⟨c2,h2⟩:=z
      rw [hc] at e
      simp only at e
      cases hs:frzCs h2 cs with
      | none=>rw [hs] at e;cases e
      | some z=>
        obtain ⟨cs2,h3⟩:=z
        rw [hs] at e
        cases e
        obtain ⟨a1,a2,a3⟩:=frzC_ok hc hW
        obtain ⟨b1,b2,⟨b3,b5⟩⟩:=frzCs_ok hs a1
        refine ⟨b1,a2.trans b2,⟨by simp [b3],fun f hf i c' hi=>?_⟩⟩
        cases i with
        | zero=>cases hi;exact (a3 _ (hf 0 c rfl)).mono b2.le
        | succ i=>exact b5 (fun i=>f (i+1)) (fun j d hj=>(hf (j+1) d hj).mono a2.le) i c' hi
theorem frzS_ok : ∀{l:List Nat} {s:List V} {h h':List Obj} {pl:Nat→Pl} {fo:Kept} {w:World},frzS l s h=some h'→RW P cfg h pl fo w→RW P cfg h' pl fo w∧Mv h pl w h' pl w
  | [],s,h,h',pl,fo,w,e,hW=>by cases e;exact ⟨hW,Mv.refl _ _ _⟩
  | k::l,s,h,h',pl,fo,w,e,hW=>by
    unfold frzS at e
    split at e
    · rename_i o off hs
      split at e
      · rename_i cs ho
        cases hc:frzCs h cs with
        | none=>rw [hc] at e;cases e
        | some z=>
          obtain ⟨cs2,h2⟩:=z
          rw [hc] at e
          simp only at e
          obtain ⟨a1,a2,⟨a3,a5⟩⟩:=frzCs_ok hc hW
          split at e
          case h_2=>cases e
          rename_i cs3 ho2
          have hro:=hW.obj o
          rw [ho] at hro
          obtain ⟨b,arr,T,hb,hblk,hRL⟩:=hro
          have hup:=a1.update (o:=o) (b:=b) (x:=.cells cs2) (ob:=.cells arr T (0,0)) (by rw [ho2];rfl) hb (by rw [ho2];exact .inl ⟨_,rfl⟩) rfl (fun hE=>by
            refine ⟨b,arr,T,hb,?_,?_⟩
            · exact setBlk_get _ _ _ (hW.lt (by rw [ho];simp) hb)
            · refine ⟨⟨by rw [a3];exact hRL.1.1,hRL.1.2⟩,fun i c hi=>?_⟩
              exact (a5 (fun i=>arr.getD i undef) (fun i c hi=>hRL.2 i c hi) i c hi).mono hE)
          have hsb:w.setBlk b (.cells arr T (0,0))=w:=setBlk_self hblk
          rw [hsb] at hup
          obtain ⟨u1,u2,u3⟩:=hup
          obtain ⟨v1,v2⟩:=frzS_ok e u1
          exact ⟨v1,a2.trans (Mv.trans ⟨u2,u3⟩ v2)⟩
      · cases e
    · cases e
theorem good_region (hr:Sound P cfg r) (hcl:ClonesOk P cfg) (hm:P.follows .mixedOrders=true) (id:Nat) (ops:Array Oper) (draw:Bool):Good P cfg r f (.region id ops draw):=by
  intro ac hc n st x st' he b k cs a pl fo w n0 hb hS hR hn hD
  simp only [cCode] at hc
  cases hcr:cRegion P cfg f ops draw with
  | none=>rw [hcr] at hc;cases hc
  | some ar=>
    rw [hcr] at hc
    simp only [Option.map_some,Option.some.injEq] at hc
    cases hl:frzAt cfg f ops.toList with
    | nil=>
      rw [hl] at hc
      have hc:ar=ac:=hc
      subst hc
      obtain ⟨rfl,a1,w1,pl1,q1,q2,q3,q4⟩:=region_ok (id:=id) (b:=b) (k:=k) (cs:=cs) hr hcl hm hcr he hS
      exact ⟨a1,w1,pl1,q1,q2,q3,hD.mv hS.rw q3 q4⟩
    | cons j l=>
      rw [hl] at hc
      have hc:ACode.seq (.frz (j::l)) ar=ac:=hc
      subst hc
      unfold evC at he
      rw [show evC r n (.frz (j::l)) st=(frzS (j::l) st.slots st.heap).map fun h=>(.normal,⟨st.slots,h⟩) by rw [evC]] at he
      cases hf:frzS (j::l) st.slots st.heap with
      | none=>rw [hf] at he;cases he
      | some h2=>
        rw [hf] at he
        simp only [Option.map_some] at he
        obtain ⟨f1,f2⟩:=frzS_ok hf hS.rw
        have hS2:Sim P cfg ⟨st.slots,h2⟩ a pl fo w:=⟨hS.rs.mono f2.le,f1,hS.fo⟩
        obtain ⟨rfl,a1,w1,pl1,q1,q2,q3,q4⟩:=region_ok (id:=id) (b:=b) (k:=k) (cs:=cs) hr hcl hm hcr he hS2
        exact ⟨a1,w1,pl1,q1,q2,f2.trans q3,(hD.mv hS.rw f2 rfl).mv f1 q3 q4⟩
theorem good_seq {c d:Code} (h1:Good P cfg r f c) (h2:Good P cfg r f d):Good P cfg r f (.seq c d):=by
  intro ac hc n st x st' he b k cs a pl fo w n0 hb hS hR hn hD
  simp only [cCode] at hc
  split at hc
  · rename_i c' d' e1 e2
    cases hc
    unfold evC at he
    cases hq:evC r n c' st with
    | none=>rw [hq] at he;cases he
    | some z=>
      obtain ⟨x1,st1⟩:=z
      rw [hq] at he
      have hc1:=h1 e1 hq (k:=.code d::k) (cs:=cs) hb hS hR hn hD
      refine CodeOk.head (.one stepR_seq) ?_
      by_cases hx:x1 = .normal
      · subst hx
        simp only at he
        obtain ⟨a1,w1,pl1,q1,q2,q3,q4⟩:=hc1
        exact CodeOk.head q1 (CodeOk.base q3 (h2 e2 he hb q2 (hR.mv q3) (Nat.le_trans hn q3.fr.size) q4))
      · have:(x1,st1)=(x,st'):=by
          cases x1 with
          | normal=>exact (hx rfl).elim
          | exit _=>cases he;rfl
          | ret=>cases he;rfl
        cases this
        exact hc1.pass hx rfl
  · cases hc
theorem good_cond {c:Operand} {p q:Code} (h1:Good P cfg r f p) (h2:Good P cfg r f q):Good P cfg r f (.cond c p q):=by
  intro ac hc n st x st' he b k cs a pl fo w n0 hb hS hR hn hD
  simp only [cCode] at hc
  split at hc
  · rename_i c' p' q' e0 e1 e2
    cases hc
    unfold evC at he
    have hv:=hS.rho c c' e0
    split at he
    · rename_i hq
      rw [hq] at hv
      exact CodeOk.head (.one (stepR_cond (t:=true) hv.c_inv.bool_inv)) (h1 e1 he hb hS hR hn hD)
    · rename_i hq
      rw [hq] at hv
      exact CodeOk.head (.one (stepR_cond (t:=false) hv.c_inv.bool_inv)) (h2 e2 he hb hS hR hn hD)
    · cases he
  · cases hc
theorem block_ok {id:Nat} {c:Code} {ac:ACode} {n:Nat} {st:St} {x:X} {st':St} (he:evC r n (.block id ac) st=some (x,st')) {b:Frame} {k:List Item} {cs:List Frame} {a:Act} {pl:Nat→Pl} {fo:Kept} {w:World} {n0:Nat}
    (hb:∀{x st'},evC r n ac st=some (x,st')→CodeOk P cfg (lone (b.atR a (.code c :: .inBlock id::k)) cs w) b (.inBlock id::k) cs st.heap pl fo w n0 x st') :
    CodeOk P cfg (lone (b.atR a (.code (.block id c)::k)) cs w) b k cs st.heap pl fo w n0 x st':=by
  unfold evC at he
  cases hq:evC r n ac st with
  | none=>rw [hq] at he;cases he
  | some z=>
    obtain ⟨x1,st1⟩:=z
    rw [hq] at he
    refine CodeOk.head (.one stepR_block) ?_
    obtain ⟨a1,w1,pl1,q1,q2⟩:=hb hq
    cases x1 with
    | normal=>cases he;exact ⟨a1,w1,pl1,Steps.trans q1 (.one stepR_inBlock),q2⟩
    | ret=>cases he;exact ⟨a1,w1,pl1,q1,q2⟩
    | exit i=>
      simp only at he
      obtain ⟨t,e,s⟩:=q1
      split at he
      · rename_i hid
        cases he
        rw [Nat.beq_eq] at hid
        subst hid
        exact ⟨a1,w1,pl1,s.trans (.one (stepR_exit (by rw [e];simp [exitTo]))),q2⟩
      · rename_i hid
        cases he
        refine ⟨a1,w1,pl1,⟨t,?_,s⟩,q2⟩
        rw [e]
        have:(id==i)=false:=by
          simp only [beq_eq_false_iff_ne]
          intro h;apply hid;rw [h];simp
        simp [exitTo,this]
theorem loop_ok {ann:Ann} {c:Code} {ac:ACode} (hg:Good P cfg r f c) (hc:cCode P cfg f c=some ac) {n:Nat} {st:St} {x:X} {st':St} (he:evC r n (.loop ann ac) st=some (x,st')) {b:Frame} {k:List Item} {cs:List Frame} {a:Act} {pl:Nat→Pl} {fo:Kept} {w:World} {n0:Nat}
    (hb:b.fn=f) (hS:Sim P cfg st a pl fo w) (hR:RoundOk b st.heap pl) (hn:n0≤w.heap.size) (hD:DD b n0 a w) :
    CodeOk P cfg (lone (b.atR a (.code (.loop c)::k)) cs w) b k cs st.heap pl fo w n0 x st':=by
  unfold evC at he
  simp only at he
  obtain ⟨pl1,hS1,m1⟩:=reify_ok ann.reify hS
  refine CodeOk.head (.one stepR_loop) ?_
  have key:∀(j:Nat) {st2:St} {a2:Act} {pl2:Nat→Pl} {w2:World},Sim P cfg st2 a2 pl2 fo w2→Mv (reify ann.reify st).heap pl1 w st2.heap pl2 w2→DD b n0 a2 w2→evLoop (evC r n ac) (reify ann.reify st).heap.length ann j st2=some (x,st') →
      CodeOk P cfg (lone (b.atR a2 (.code c :: .inLoop c::k)) cs w2) b k cs (reify ann.reify st).heap pl1 fo w n0 x st':=by
    intro j
    induction j with
    | zero=>intro st2 a2 pl2 w2 _ _ _ e;cases e
    | succ j ih=>
      intro st2 a2 pl2 w2 hS2 m2 hD2 e
      unfold evLoop at e
      cases hh:headOf ann (reify ann.reify st).heap.length st2 with
      | none=>rw [hh] at e;cases e
      | some st3=>
        rw [hh] at e
        simp only at e
        obtain ⟨hS3,m3⟩:=head_ok hh hS2 m2
        cases hq:evC r n ac st3 with
        | none=>rw [hq] at e;cases e
        | some z=>
          obtain ⟨x4,st4⟩:=z
          rw [hq] at e
          have hbody:=hg hc hq (k:=.inLoop c::k) (cs:=cs) hb hS3 (hR.mv (m1.trans m3)) (Nat.le_trans hn (m1.trans m3).fr.size) hD2
          by_cases hx:x4 = .normal
          · subst hx
            simp only at e
            obtain ⟨a4,w4,pl4,q1,q2,q3,q4⟩:=hbody
            exact CodeOk.head (q1.trans (.one stepR_inLoop)) (ih q2 (m3.trans q3) q4 e)
          · have:(x4,st4)=(x,st'):=by
              cases x4 with
              | normal=>exact (hx rfl).elim
              | exit _=>cases e;rfl
              | ret=>cases e;rfl
            cases this
            exact (CodeOk.base m3 hbody).pass hx rfl
  exact CodeOk.base m1 (key n hS1 (Mv.refl _ _ _) hD he)
theorem good_loop {c:Code} (hg:Good P cfg r f c):Good P cfg r f (.loop c):=by
  intro ac hc n st x st' he b k cs a pl fo w n0 hb hS hR hn hD
  simp only [cCode] at hc
  cases hq:cCode P cfg f c with
  | none=>rw [hq] at hc;cases hc
  | some c'=>rw [hq] at hc;cases hc;exact loop_ok hg hq he hb hS hR hn hD
theorem good_block {id:Nat} {c:Code} (hg:Good P cfg r f c) (hl:∀d,c = .loop d→Good P cfg r f d):Good P cfg r f (.block id c):=by
  intro ac hc n st x st' he b k cs a pl fo w n0 hb hS hR hn hD
  by_cases hlp:∃d,c = .loop d
  · obtain ⟨d,rfl⟩:=hlp
    simp only [cCode] at hc
    cases hq:cCode P cfg f d with
    | none=>rw [hq] at hc;cases hc
    | some d'=>
      rw [hq] at hc;cases hc
      exact block_ok he fun he'=>loop_ok (hl d rfl) hq he' hb hS hR hn hD
  · have hc':(cCode P cfg f c).map (.block id)=some ac:=by
      cases c<;>first | exact hc | exact (hlp ⟨_,rfl⟩).elim
    cases hq:cCode P cfg f c with
    | none=>rw [hq] at hc';cases hc'
    | some c'=>
      rw [hq] at hc';cases hc'
      exact block_ok he fun he'=>hg hq he' hb hS hR hn hD
theorem good_scope {c:Code} (hg:Good P cfg r f c):Good P cfg r f (.scope c):=by
  intro ac hc n st x st' he b k cs a pl fo w n0 hb hS hR hn hD
  simp only [cCode] at hc
  have hs:∀{a:Act} {w:World},step P (lone (b.atR a (.code (.scope c)::k)) cs w) = .next (lone (b.atR a (.code c :: .inScope c::k)) cs w):=fun {a w}=>step_lone_go (by simp [stepG,stepG.exec,Frame.atR])
  have hs2:∀{a:Act} {w:World},step P (lone (b.atR a (.inScope c::k)) cs w) = .next (lone (b.atR a k) cs w):=fun {a w}=>step_lone_go (by simp [stepG,stepG.exec,Frame.atR])
  refine CodeOk.head (.one hs) ?_
  obtain ⟨a1,w1,pl1,q1,q2⟩:=hg hc he (k:=.inScope c::k) (cs:=cs) hb hS hR hn hD
  cases x with
  | normal=>exact ⟨a1,w1,pl1,Steps.trans q1 (.one hs2),q2⟩
  | ret=>exact ⟨a1,w1,pl1,q1,q2⟩
  | exit id=>obtain ⟨t,e,s⟩:=q1;exact ⟨a1,w1,pl1,⟨t,by rw [e];simp [exitTo],s⟩,q2⟩
end
end Am
