/-
  A part of the proof: the texts Am16, Am46, Am17, Am47, Am48, Am18 of this seat, joined.
-/
import Derived.Test.YtninmcgiegmonaaAmA
import Derived.Test.YtninmcgiegmonaaAmB
import Derived.Orders
namespace Am
open Go
set_option linter.unusedVariables false
set_option linter.unusedSimpArgs false
def AgS (s s':List V) (l:List Nat):Prop:=∀t∈l,getS s' t=getS s t
theorem AgS.left {s s':List V} {a b:List Nat} (h:AgS s s' (a++b)):AgS s s' a:=fun t ht=>h t (List.mem_append_left _ ht)
theorem AgS.right {s s':List V} {a b:List Nat} (h:AgS s s' (a++b)):AgS s s' b:=fun t ht=>h t (List.mem_append_right _ ht)
theorem AgS.ev {s s':List V} {x:Opd} (h:AgS s s' x.tmps):x.ev s'=x.ev s:=by
  cases x with
  | tmp t=>exact h t (by simp [Opd.tmps])
  | cst v=>rfl
theorem AgS.bound {s s':List V} {d:Nat} {x:Option Opd} (h:AgS s s' (optTmps x)):bound s' d x=bound s d x:=by
  cases x with
  | none=>rfl
  | some x=>simp only [Am.bound,AgS.ev (x:=x) h]
theorem AgS.oneCs {s s':List V}:∀{l:List Opd},AgS s s' (opdsTmps l)→oneCs s' l=oneCs s l
  | [],_=>rfl
  | x::l,h=>by simp only [Am.oneCs,AgS.ev (x:=x) h.left,AgS.oneCs h.right]
theorem AgS.map {s s':List V}:∀{l:List Opd},AgS s s' (opdsTmps l)→l.map (·.ev s')=l.map (·.ev s)
  | [],_=>rfl
  | x::l,h=>by simp only [List.map_cons,AgS.ev (x:=x) h.left,AgS.map h.right]
theorem AgS.fm {s s':List V}:∀{l:List Opd},AgS s s' (opdsTmps l)→(l.flatMap fun a=>objsV (a.ev s'))=l.flatMap fun a=>objsV (a.ev s)
  | [],_=>rfl
  | x::l,h=>by simp only [List.flatMap_cons,AgS.ev (x:=x) h.left,AgS.fm h.right]
theorem AgS.buildC {s s':List V}:∀{l:List (Nat × Nat × Opd)} {cs:List C},AgS s s' (partsTmps l)→buildC s' l cs=buildC s l cs
  | [],_,_=>rfl
  | (a,b,x)::l,cs,h=>by
    simp only [Am.buildC,AgS.ev (x:=x) h.left]
    split
    · split
      · cases splice a _ cs with
        | none=>rfl
        | some y=>exact AgS.buildC h.right
      · rfl
    · rfl
theorem AgS.setRows {s s':List V} {h:List Obj} {sz:Nat}:∀{l:List (Nat × Opd)} {rows:List (List D)},AgS s s' (partsTmpsS l)→setRows s' h sz l rows=setRows s h sz l rows
  | [],_,_=>rfl
  | (a,x)::l,rows,g=>by
    simp only [Am.setRows,AgS.ev (x:=x) g.left]
    split
    · split
      · rw [AgS.setRows g.right]
      · rfl
    · rfl
theorem AgS.fmS {s s':List V}:∀{l:List (Nat × Opd)},AgS s s' (partsTmpsS l)→(l.flatMap fun p=>objsV (p.2.ev s'))=l.flatMap fun p=>objsV (p.2.ev s)
  | [],_=>rfl
  | (a,x)::l,h=>by simp only [List.flatMap_cons,AgS.ev (x:=x) h.left,AgS.fmS h.right]
theorem opEv_slots {s s':List V} {h:List Obj} {rid:Nat} {op:AOp} (g:AgS s s' op.tmps):opEv rid s' h op=opEv rid s h op:=by
  cases op<;>simp only [AOp.tmps] at g<;>simp only [opEv] <;>
    first
      | rfl
      | (simp only [AgS.ev g];done)
      | (simp only [AgS.ev g];rfl)
      | (simp only [AgS.ev g.left,AgS.ev g.right];done)
      | (simp only [AgS.ev g.left,AgS.ev g.right.left,AgS.ev g.right.right];done)
      | (simp only [AgS.ev g.left,AgS.bound g.right.left,AgS.bound g.right.right];done)
      | (simp only [AgS.buildC g];done)
      | (simp only [AgS.setRows g];done)
      | skip
  case mkfn f x l=>
    cases x with
    | none=>simp only [opEv,AgS.oneCs g.right]
    | some x=>simp only [opEv,AgS.ev (x:=x) g.left,AgS.oneCs g.right]
theorem readsOf_slots {s s':List V} {op:AOp} (g:AgS s s' op.tmps):readsOf s' op=readsOf s op:=by
  cases op<;>simp only [AOp.tmps] at g<;>simp only [readsOf] <;>
    first
      | rfl
      | (simp only [AgS.ev g];done)
      | (simp only [AgS.ev g.left];done)
      | (simp only [AgS.ev g.left,AgS.ev g.right];done)
      | (simp only [AgS.ev g.left,AgS.ev g.right.left,AgS.ev g.right.right];done)
      | (simp only [AgS.fmS g];done)
      | skip
  case call f p args=>cases p<;>simp only [readsOf,AgS.fm g]
theorem wanted_slots {s s':List V} {g:Option (Nat × Bool)} (h:AgS s s' (match g with | some (t,_)=>[t] | none=>[])):wantedA s' g=wantedA s g:=by
  cases g with
  | none=>rfl
  | some p=>simp only [wantedA,h p.1 (by simp)]
def AgH (h h':List Obj) (l:List Nat):Prop:=∀o∈l,getH h' o=getH h o
theorem AgH.left {s s':List Obj} {a b:List Nat} (h:AgH s s' (a++b)):AgH s s' a:=fun t ht=>h t (List.mem_append_left _ ht)
theorem AgH.right {s s':List Obj} {a b:List Nat} (h:AgH s s' (a++b)):AgH s s' b:=fun t ht=>h t (List.mem_append_right _ ht)
theorem AgH.loadC {h h':List Obj} {n:Nat} {c:C} (g:AgH h h' c.obj):loadC h' n c=loadC h n c:=by
  cases c<;>simp only [Am.loadC]<;>(first | rfl | rw [g _ (by simp [C.obj])])
theorem AgH.toD {h h':List Obj} {c:C} (g:AgH h h' c.obj):toD h' c=toD h c:=by
  cases c<;>simp only [Am.toD]<;>(first | rfl | rw [g _ (by simp [C.obj])] | skip)
  all_goals (rename_i t rows;cases t<;>rfl)
theorem AgH.toDs {h h':List Obj}:∀{cs:List C},AgH h h' (cs.flatMap C.obj)→toDs h' cs=toDs h cs
  | [],_=>rfl
  | c::cs,g=>by
    rw [List.flatMap_cons] at g
    simp only [Am.toDs,AgH.toD g.left,AgH.toDs g.right]
theorem AgH.sliceRows {h h':List Obj} {c:C} (g:AgH h h' c.obj):sliceRows h' c=sliceRows h c:=by
  cases c<;>simp only [Am.sliceRows]<;>(first | rfl | rw [g _ (by simp [C.obj])])
theorem AgH.elemC {h h':List Obj} {sz:Nat} {c:C} {n:Int} (g:AgH h h' c.obj):elemC h' sz c n=elemC h sz c n:=by
  cases c<;>simp only [Am.elemC]<;>(first | rfl | rw [g _ (by simp [C.obj])])
theorem AgH.storeC {h h':List Obj} {a:C} {x:List C} (g:AgH h h' a.obj) (gx:AgH h h' (x.flatMap C.obj)):storeC h' a x=storeC h a x:=by
  cases a<;>simp only [Am.storeC]<;>(first | rfl | rw [g _ (by simp [C.obj]),AgH.toDs gx] | rw [g _ (by simp [C.obj])])
theorem toDs_indep {h h':List Obj}:∀{cs:List C} {ds:List D},toDs h cs=some (ds,[])→toDs h' cs=some (ds,[])
  | [],_,e=>by cases e;rfl
  | c::cs,ds,e=>by
    simp only [toDs] at e ⊢
    split at e
    · rename_i d k ds' ks' e1 e2
      have e':=Option.some.inj e
      obtain ⟨a,b⟩:=Prod.mk.inj e'
      obtain ⟨rfl,rfl⟩:=List.append_eq_nil_iff.1 b
      rw [toDs_indep (h':=h') e2]
      have:toD h' c=some (d,[]):=by
        cases c<;>simp only [toD] at e1 ⊢<;>first | exact e1 | cases e1 | skip
        case lst t rows=>cases t<;>simp only [toD] at e1 ⊢<;>first | exact e1 | cases e1
        case sl=>
          split at e1
          · split at e1
            · cases hp:part _ _ _<;>rw [hp] at e1<;>cases e1
            · cases e1
          · cases e1
      rw [this,←a];rfl
    · cases e
theorem toD_kobj {h:List Obj} {c:C} {d:D} {ks:List Nat} (e:toD h c=some (d,ks)):∀o∈ks,o∈c.obj:=by
  cases c<;>simp only [toD] at e<;>first | (cases e;done) | (cases e;simp;done) | skip
  case lst t rows=>cases t<;>simp only [toD] at e<;>cases e;simp
  case sl=>
    split at e
    · split at e
      · cases hp:part _ _ _<;>rw [hp] at e<;>cases e
        simp [C.obj]
      · cases e
    · cases e
theorem toDs_kobj {h:List Obj}:∀{cs:List C} {ds:List D} {ks:List Nat},toDs h cs=some (ds,ks)→∀o∈ks,o∈cs.flatMap C.obj
  | [],_,_,e=>by cases e;simp
  | c::cs,ds,ks,e=>by
    simp only [toDs] at e
    split at e
    · rename_i d k ds' ks' e1 e2
      cases e
      intro o ho
      rw [List.flatMap_cons]
      rcases List.mem_append.1 ho with ho | ho
      · exact List.mem_append_left _ (toD_kobj e1 o ho)
      · exact List.mem_append_right _ (toDs_kobj e2 o ho)
    · cases e
theorem laid_objs {x:V} {l:List C} (h:x.laid=some l):objsV x=l.flatMap C.obj:=by
  cases x with
  | c x=>simp only [V.laid] at h;split at h<;>cases h;simp [objsV]
  | agg cs=>simp only [V.laid] at h;split at h<;>cases h;rfl
  | tup vs=>cases h
theorem AgH.setRows {s:List V} {h h':List Obj} {sz:Nat}:∀{l:List (Nat × Opd)} {rows:List (List D)},AgH h h' (l.flatMap fun p=>objsV (p.2.ev s))→setRows s h' sz l rows=setRows s h sz l rows
  | [],_,_=>rfl
  | (a,x)::l,rows,g=>by
    rw [List.flatMap_cons] at g
    simp only [Am.setRows]
    have:((x.ev s).laid).bind (Am.toDs h')=((x.ev s).laid).bind (Am.toDs h):=by
      cases hl:(x.ev s).laid with
      | none=>rfl
      | some cs=>
        simp only [Option.bind_some]
        refine AgH.toDs ?_
        have:=g.left
        rwa [laid_objs hl] at this
    rw [this]
    split
    · split
      · rw [AgH.setRows g.right]
      · rfl
    · rfl
theorem setRows_kobj {s:List V} {h:List Obj} {sz:Nat}:∀{l:List (Nat × Opd)} {rows:List (List D)} {r},setRows s h sz l rows=some r→∀o∈r.2,o∈l.flatMap fun p=>objsV (p.2.ev s)
  | [],_,_,e=>by cases e;simp
  | (a,x)::l,rows,r,e=>by
    simp only [Am.setRows] at e
    split at e
    · rename_i ds k hk
      split at e
      · cases hr:Am.setRows s h sz l (setNth rows a ds) with
        | none=>rw [hr] at e;cases e
        | some r'=>
          rw [hr] at e;cases e
          intro o ho
          rw [List.flatMap_cons]
          rcases List.mem_append.1 ho with ho | ho
          · cases hl:(x.ev s).laid with
            | none=>rw [hl] at hk;cases hk
            | some cs=>
              rw [hl] at hk
              exact List.mem_append_left _ (by rw [laid_objs hl];exact toDs_kobj hk o ho)
          · exact List.mem_append_right _ (setRows_kobj hr o ho)
      · cases e
    · cases e
theorem AgH.freeze {h h':List Obj} {ks:List Nat} (g:AgH h h' ks):freeze h' ks=freeze h ks:=by
  unfold Am.freeze
  apply List.map_congr_left
  intro o ho
  rw [g o ho]
theorem appendC_heap {h h':List Obj} {rid by_ sz:Nat} {a b:C} {z:V × Wr} (hg:∀o cs,getH h o = .cells cs→o∈a.obj→getH h' o=getH h o) (new:∀{x:Obj} {c:C} {more:Wr},newV h rid x c more=some z→newV h' rid x c more=some z)
    (e:appendC h rid by_ sz a b=some z):appendC h' rid by_ sz a b=some z:=by
  unfold appendC at e ⊢
  split at e
  · split at e
    · rename_i hc
      rw [if_pos hc]
      split at e
      · split at e
        · rename_i h1;simp only [h1,if_true];exact new e
        · cases e
      · rename_i o off len
        split at e
        · rename_i cs ho
          simp only [hg o cs ho (by simp [C.obj]),ho]
          split at e
          · rename_i h1;rw [if_pos h1];exact new e
          · cases e
        · cases e
      · cases e
    · cases e
  · cases e
theorem newV_heap {h h':List Obj} {rid:Nat} {x:Obj} {c:C} {more:Wr} {z:V × Wr} (g:isHole h rid=true→isHole h' rid=true) (e:newV h rid x c more=some z):newV h' rid x c more=some z:=by
  unfold newV at e ⊢
  by_cases hh:isHole h rid=true
  · rw [if_pos (g hh)];rw [if_pos hh] at e;exact e
  · rw [if_neg hh] at e;cases e
theorem opEv_heap {s:List V} {h h':List Obj} {rid:Nat} {op:AOp} {z:V × Wr} (g:AgH h h' (readsOf s op)) (gh:rid∈z.2.map (·.1)→isHole h rid=true→isHole h' rid=true) (e:opEv rid s h op=some z):opEv rid s h' op=some z:=by
  have new:∀{x:Obj} {c:C} {more:Wr},newV h rid x c more=some z→newV h' rid x c more=some z:=fun {x c more} e=>newV_heap (gh (by
    unfold newV at e
    split at e
    · cases e;simp
    · cases e)) e
  cases op<;>simp only [readsOf] at g<;>simp only [opEv] at e ⊢<;>try exact e
  case alloc=>exact new e
  case box=>
    split at e
    · exact new e
    · cases e
  case load n a=>
    split at e
    · rename_i c hc
      rw [hc] at g
      rw [AgH.loadC g];exact e
    · cases e
  case store n a x=>
    split at e
    · rename_i p l hp hl
      rw [hp,laid_objs hl] at g
      rw [AgH.storeC g.left g.right];exact e
    · cases e
  case iaddr sz x i=>
    split at e
    · rename_i c kk n hp hl
      rw [hp] at g
      rw [AgH.elemC g];exact e
    · cases e
  case mkfn f x caps=>cases x<;>exact e
  case bslice sz n zero parts=>
    cases hz:toDs h zero with
    | none=>rw [hz] at e;cases e
    | some p=>
      obtain ⟨zs,k⟩:=p
      rw [hz] at e
      cases k with
      | cons=>cases e
      | nil=>
        rw [toDs_indep (h':=h') hz]
        simp only at e ⊢
        split at e
        · rename_i hq
          rw [if_pos hq]
          rw [AgH.setRows g]
          cases hr:setRows s h sz parts (rowsOf n zs) with
          | none=>rw [hr] at e;cases e
          | some r=>
            rw [hr] at e
            simp only [Option.bind_some] at e ⊢
            rw [AgH.freeze (fun o ho=>g o (setRows_kobj hr o ho))]
            exact new e
        · cases e
  case blist sz n zero parts=>
    cases hz:toDs h zero with
    | none=>rw [hz] at e;cases e
    | some p=>
      obtain ⟨zs,k⟩:=p
      rw [hz] at e
      cases k with
      | cons=>cases e
      | nil=>
        rw [toDs_indep (h':=h') hz]
        simp only at e ⊢
        split at e
        · rename_i hq
          rw [if_pos hq]
          rw [AgH.setRows g]
          cases hr:setRows s h sz parts (rowsOf n zs) with
          | none=>rw [hr] at e;cases e
          | some r=>
            rw [hr] at e
            exact e
        · cases e
  case mkslice sz by_ zero len=>
    split at e
    · rename_i k n zs hn hz
      rw [toDs_indep (h':=h') hz,hn]
      simp only at e ⊢
      split at e
      · rename_i hq;rw [if_pos hq];exact new e
      · cases e
    · cases e
  case append sz by_ a x=>
    split at e
    · rename_i ca cb ha hb
      rw [ha,hb] at g
      have g1:AgH h h' cb.obj:=g.right
      have g2:AgH h h' ca.obj:=g.left
      rw [AgH.sliceRows g1]
      split at e
      · exact appendC_heap (fun o cs _ ho=>g2 o ho) new e
      · rename_i new' hr
        split at e
        · rename_i hq
          simp only [hq,if_true]
          split at e
          · split at e
            · rename_i hq2;rw [if_pos hq2];exact new e
            · cases e
          · rename_i o ver off len
            rw [g2 o (by simp [C.obj])];exact e
          · cases e
        · cases e
    · cases e
  case clone f sz by_ x=>
    split at e
    · rename_i b hb
      rw [hb] at g
      have g1:AgH h h' b.obj:=g
      rw [AgH.sliceRows g1]
      split at e
      · split at e
        · rename_i hq;simp only [hq,if_true];exact new e
        · cases e
      · cases e
    · cases e
  case grow f sz by_ x=>
    split at e
    · split at e
      · rename_i hq;simp only [hq,and_self,if_true];exact new e
      · cases e
    · cases e
  case slice sz x lo hi=>
    split at e
    · exact e
    · exact e
    · rename_i o ver off len hx
      rw [hx] at g
      rw [g o (by simp [objsV,C.obj])];exact e
    · cases e
  case pslice len x lo hi=>
    split at e
    · rename_i o off hx
      rw [hx] at g
      rw [g o (by simp [objsV,C.obj])];exact e
    · cases e
  case copy x y=>
    split at e
    · rename_i o off len b hx hy
      rw [hx,hy] at g
      have g1:AgH h h' b.obj:=g.right
      have g2:getH h' o=getH h o:=g.left o (by simp [objsV,C.obj])
      rw [AgH.sliceRows g1]
      simp only [storeC,g2] at e ⊢
      exact e
    · cases e
  case mkmap=>exact new e
  case lookup ka va ks zero ok m k=>
    split at e
    · rename_i o key hm hk
      rw [hm] at g
      rw [toDs_indep (h':=h') hk,hm]
      simp only
      rw [g o (List.mem_append_left _ (by simp [objsV,C.obj]))];exact e
    · cases e
  case mapupd ka va ks m k v=>
    split at e
    · rename_i o key l hm hk hl
      rw [hm] at g
      rw [toDs_indep (h':=h') hk,hm,hl]
      simp only
      rw [g o (List.mem_append_left _ (List.mem_append_left _ (by simp [objsV,C.obj])))];exact e
    · cases e
theorem AgH.toArgC {h h':List Obj} {c:C} (g:AgH h h' c.obj):toArgC h' c=toArgC h c:=by
  cases c<;>simp only [Am.toArgC]<;>(first | rfl | rw [g _ (by simp [C.obj])])
theorem AgH.toArgCs {h h':List Obj}:∀{cs:List C},AgH h h' (cs.flatMap C.obj)→toArgCs h' cs=toArgCs h cs
  | [],_=>rfl
  | c::cs,g=>by
    rw [List.flatMap_cons] at g
    simp only [Am.toArgCs,AgH.toArgC g.left,AgH.toArgCs g.right]
theorem AgH.toArg {h h':List Obj} {v:V} (g:AgH h h' (objsV v)):toArg h' v=toArg h v:=by
  cases v with
  | c x=>simp only [Am.toArg];rw [AgH.toArgC g]
  | agg cs=>simp only [Am.toArg];rw [AgH.toArgCs g]
  | tup vs=>rfl
theorem toArgs_heap {s:List V} {h h':List Obj}:∀{l:List Opd},AgH h h' (l.flatMap fun a=>objsV (a.ev s))→toArgs h' (l.map (·.ev s))=toArgs h (l.map (·.ev s))
  | [],_=>rfl
  | x::l,g=>by
    rw [List.flatMap_cons] at g
    simp only [List.map_cons,Am.toArgs,AgH.toArg g.left,toArgs_heap g.right]
end Am
namespace Am
open Go
set_option linter.unusedVariables false
set_option linter.unusedSimpArgs false
def Ex (h h':List Obj):Prop:=∀o,getH h o ≠ .none→getH h' o=getH h o
theorem Ex.loadC {h h':List Obj} {n:Nat} {c:C} {r} (g:Ex h h') (e:loadC h n c=some r):loadC h' n c=some r:=by
  cases c<;>simp only [Am.loadC] at e ⊢<;>try exact e
  case ptr o off=>rw [g o (fun hn=>by rw [hn] at e;cases e)];exact e
  case aptr o ver i off=>rw [g o (fun hn=>by rw [hn] at e;cases e)];exact e
theorem Ex.toD {h h':List Obj} {c:C} {r} (g:Ex h h') (e:toD h c=some r):toD h' c=some r:=by
  cases c<;>simp only [Am.toD] at e ⊢<;>try exact e
  case lst t rows=>cases t<;>exact e
  case sl o ver off len=>rw [g o (fun hn=>by rw [hn] at e;cases e)];exact e
theorem Ex.toDs {h h':List Obj} (g:Ex h h'):∀{cs:List C} {r},toDs h cs=some r→toDs h' cs=some r
  | [],_,e=>e
  | c::cs,r,e=>by
    simp only [Am.toDs] at e ⊢
    split at e
    · rename_i e1 e2
      rw [g.toD e1,g.toDs e2];exact e
    · cases e
theorem Ex.sliceRows {h h':List Obj} {c:C} {r} (g:Ex h h') (e:sliceRows h c=some r):sliceRows h' c=some r:=by
  cases c<;>simp only [Am.sliceRows] at e ⊢<;>try exact e
  case sl o ver off len=>rw [g o (fun hn=>by rw [hn] at e;cases e)];exact e
  case psl o off len=>rw [g o (fun hn=>by rw [hn] at e;cases e)];exact e
theorem Ex.elemC {h h':List Obj} {sz:Nat} {c:C} {n:Int} {r} (g:Ex h h') (e:elemC h sz c n=some r):elemC h' sz c n=some r:=by
  cases c<;>simp only [Am.elemC] at e ⊢<;>try exact e
  case sl o ver off len=>
    split at e
    · rename_i hc
      rw [if_pos hc,g o (fun hn=>by rw [hn] at e;cases e)];exact e
    · cases e
theorem Ex.storeC {h h':List Obj} {a:C} {x:List C} {r} (g:Ex h h') (e:storeC h a x=some r):storeC h' a x=some r:=by
  cases a<;>simp only [Am.storeC] at e ⊢<;>try exact e
  case ptr o off=>rw [g o (fun hn=>by rw [hn] at e;cases e)];exact e
  case aptr o ver i off=>
    rw [g o (fun hn=>by rw [hn] at e;cases e)]
    split at e
    · rename_i v1 sz rows
      split at e
      · rename_i hv
        rw [if_pos hv]
        split at e
        · rename_i row ds e1 e2
          rw [e1,toDs_indep (h':=h') e2];exact e
        · cases e
      · cases e
    · cases e
theorem toD_obj {h:List Obj} {c:C} {d:D} {ks:List Nat} (e:toD h c=some (d,ks)):∀o∈ks,getH h o ≠ .none:=by
  cases c<;>simp only [toD] at e<;>first | (cases e;done) | (cases e;simp;done) | skip
  case lst t rows=>cases t<;>simp only [toD] at e<;>cases e;simp
  case sl o' ver off len=>
    cases hg:getH h o'<;>rw [hg] at e<;>try (cases e;done)
    simp only at e
    split at e
    · cases hp:part off len _<;>rw [hp] at e<;>cases e
      intro o ho
      rw [List.mem_singleton.1 ho,hg];simp
    · cases e
theorem toDs_obj {h:List Obj}:∀{cs:List C} {ds:List D} {ks:List Nat},toDs h cs=some (ds,ks)→∀o∈ks,getH h o ≠ .none
  | [],_,_,e=>by cases e;simp
  | c::cs,ds,ks,e=>by
    simp only [toDs] at e
    split at e
    · rename_i d k ds' ks' e1 e2
      cases e
      intro o ho
      rcases List.mem_append.1 ho with ho | ho
      · exact toD_obj e1 o ho
      · exact toDs_obj e2 o ho
    · cases e
theorem Ex.setRows {s:List V} {h h':List Obj} {sz:Nat} (g:Ex h h'):∀{l:List (Nat × Opd)} {rows:List (List D)} {r},setRows s h sz l rows=some r→setRows s h' sz l rows=some r
  | [],_,_,e=>e
  | (a,x)::l,rows,r,e=>by
    simp only [Am.setRows] at e ⊢
    split at e
    · rename_i ds k hk
      have hk':((x.ev s).laid).bind (Am.toDs h')=some (ds,k):=by
        cases hl:(x.ev s).laid with
        | none=>rw [hl] at hk;cases hk
        | some cs=>rw [hl] at hk;exact g.toDs hk
      rw [hk']
      simp only
      split at e
      · rename_i hq
        rw [if_pos hq]
        cases hr:Am.setRows s h sz l (setNth rows a ds) with
        | none=>rw [hr] at e;cases e
        | some r'=>rw [g.setRows hr];rw [hr] at e;exact e
      · cases e
    · cases e
theorem setRows_obj {s:List V} {h:List Obj} {sz:Nat}:∀{l:List (Nat × Opd)} {rows:List (List D)} {r},setRows s h sz l rows=some r→∀o∈r.2,getH h o ≠ .none
  | [],_,_,e=>by cases e;simp
  | (a,x)::l,rows,r,e=>by
    simp only [Am.setRows] at e
    split at e
    · rename_i ds k hk
      split at e
      · cases hr:Am.setRows s h sz l (setNth rows a ds) with
        | none=>rw [hr] at e;cases e
        | some r'=>
          rw [hr] at e;cases e
          intro o ho
          rcases List.mem_append.1 ho with ho | ho
          · cases hl:(x.ev s).laid with
            | none=>rw [hl] at hk;cases hk
            | some cs=>rw [hl] at hk;exact toDs_obj hk o ho
          · exact setRows_obj hr o ho
      · cases e
    · cases e
theorem Ex.freeze {h h':List Obj} {ks:List Nat} (g:Ex h h') (hk:∀o∈ks,getH h o ≠ .none):freeze h' ks=freeze h ks:=by
  unfold Am.freeze
  apply List.map_congr_left
  intro o ho
  rw [g o (hk o ho)]
theorem opEv_ex {s:List V} {h h':List Obj} {rid:Nat} {op:AOp} {z:V × Wr} (g:Ex h h') (gh:isHole h rid=true→isHole h' rid=true) (e:opEv rid s h op=some z):opEv rid s h' op=some z:=by
  have new:∀{x:Obj} {c:C} {more:Wr},newV h rid x c more=some z→newV h' rid x c more=some z:=fun {x c more} e=>newV_heap gh e
  cases op<;>simp only [opEv] at e ⊢<;>try exact e
  case alloc=>exact new e
  case box=>
    split at e
    · exact new e
    · cases e
  case load n a=>
    split at e
    · rename_i c hc
      cases hl:loadC h (num n) c with
      | none=>rw [hl] at e;cases e
      | some cs=>rw [g.loadC hl];rw [hl] at e;exact e
    · cases e
  case store n a x=>
    split at e
    · rename_i p l hp hl
      split at e
      · rename_i hq
        rw [if_pos hq]
        cases hs:storeC h p l with
        | none=>rw [hs] at e;cases e
        | some w=>rw [g.storeC hs];rw [hs] at e;exact e
      · cases e
    · cases e
  case iaddr sz x i=>
    split at e
    · rename_i c kk n hp hl
      cases hc:elemC h sz c n with
      | none=>rw [hc] at e;cases e
      | some r=>rw [g.elemC hc];rw [hc] at e;exact e
    · cases e
  case mkfn f x caps=>cases x<;>exact e
  case bslice sz n zero parts=>
    cases hz:toDs h zero with
    | none=>rw [hz] at e;cases e
    | some p=>
      obtain ⟨zs,k⟩:=p
      rw [hz] at e
      cases k with
      | cons=>cases e
      | nil=>
        rw [toDs_indep (h':=h') hz]
        simp only at e ⊢
        split at e
        · rename_i hq
          rw [if_pos hq]
          cases hr:setRows s h sz parts (rowsOf n zs) with
          | none=>rw [hr] at e;cases e
          | some r=>
            rw [hr] at e
            rw [g.setRows hr]
            simp only [Option.bind_some] at e ⊢
            rw [g.freeze (setRows_obj hr)]
            exact new e
        · cases e
  case blist sz n zero parts=>
    cases hz:toDs h zero with
    | none=>rw [hz] at e;cases e
    | some p=>
      obtain ⟨zs,k⟩:=p
      rw [hz] at e
      cases k with
      | cons=>cases e
      | nil=>
        rw [toDs_indep (h':=h') hz]
        simp only at e ⊢
        split at e
        · rename_i hq
          rw [if_pos hq]
          cases hr:setRows s h sz parts (rowsOf n zs) with
          | none=>rw [hr] at e;cases e
          | some r=>
            rw [hr] at e
            rw [g.setRows hr]
            exact e
        · cases e
  case mkslice sz by_ zero len=>
    split at e
    · rename_i k n zs hn hz
      rw [toDs_indep (h':=h') hz,hn]
      simp only at e ⊢
      split at e
      · rename_i hq;rw [if_pos hq];exact new e
      · cases e
    · cases e
  case append sz by_ a x=>
    split at e
    · rename_i ca cb ha hb
      split at e
      · have hn:sliceRows h' cb=none:=by
          unfold appendC at e
          split at e
          · rfl
          · cases e
        rw [hn]
        exact appendC_heap (fun o cs ho _=>g o (fun hn=>by rw [ho] at hn;cases hn)) new e
      · rename_i new' hr
        rw [g.sliceRows hr]
        simp only at e ⊢
        split at e
        · rename_i hq
          simp only [hq,if_true]
          split at e
          · split at e
            · rename_i hq2;rw [if_pos hq2];exact new e
            · cases e
          · rename_i o ver off len
            rw [g o (fun hn=>by rw [hn] at e;cases e)];exact e
          · cases e
        · cases e
    · cases e
  case clone f sz by_ x=>
    split at e
    · rename_i b hb
      split at e
      · rename_i new' hr
        rw [g.sliceRows hr]
        simp only at e ⊢
        split at e
        · rename_i hq;simp only [hq,if_true];exact new e
        · cases e
      · cases e
    · cases e
  case grow f sz by_ x=>
    split at e
    · split at e
      · rename_i hq;simp only [hq,and_self,if_true];exact new e
      · cases e
    · cases e
  case slice sz x lo hi=>
    split at e
    · exact e
    · exact e
    · rename_i o ver off len hx
      split at e
      · rename_i l u hl hu
        rw [g o (fun hn=>by rw [hn] at e;cases e)];exact e
      · cases e
    · cases e
  case pslice len x lo hi=>
    split at e
    · rename_i o off hx
      split at e
      · rename_i l u cs hl hu hg
        rw [g o (fun hn=>by rw [hn] at hg;cases hg),hl,hu,hg];exact e
      · cases e
    · cases e
  case copy x y=>
    split at e
    · rename_i o off len b hx hy
      split at e
      · rename_i new' hr
        rw [g.sliceRows hr]
        simp only at e ⊢
        split at e
        · rename_i hq
          rw [if_pos hq]
          cases hs:storeC h (.ptr o off) (new'.flatMap fun r=>r.map (C.ofD false)) with
          | none=>rw [hs] at e;cases e
          | some w=>rw [g.storeC hs];rw [hs] at e;exact e
        · cases e
      · cases e
    · cases e
  case mkmap=>exact new e
  case lookup ka va ks zero ok m k=>
    split at e
    · rename_i o key hm hk
      rw [toDs_indep (h':=h') hk,hm]
      simp only
      rw [g o (fun hn=>by rw [hn] at e;cases e)];exact e
    · cases e
  case mapupd ka va ks m k v=>
    split at e
    · rename_i o key l hm hk hl
      rw [toDs_indep (h':=h') hk,hm,hl]
      simp only
      rw [g o (fun hn=>by rw [hn] at e;cases e)];exact e
    · cases e
theorem newV_keys {h:List Obj} {rid:Nat} {x:Obj} {c:C} {more:Wr} {z:V × Wr} (e:newV h rid x c more=some z) (hx:x ≠ .none) (hm:∀p∈more,getH h p.1 ≠ .none∧p.2 ≠ .none):∀p∈z.2,(p.1=rid∨getH h p.1 ≠ .none)∧p.2 ≠ .none:=by
  unfold newV at e
  split at e
  · cases e
    intro p ho
    simp only [List.mem_append,List.mem_singleton] at ho
    rcases ho with ho | rfl
    · exact ⟨.inr (hm p ho).1,(hm p ho).2⟩
    · exact ⟨.inl rfl,hx⟩
  · cases e
theorem storeC_keys {h:List Obj} {a:C} {x:List C} {w:Wr} (e:storeC h a x=some w):∀p∈w,getH h p.1 ≠ .none∧p.2 ≠ .none:=by
  cases a<;>simp only [storeC] at e<;>try (cases e;done)
  case ptr o off=>
    cases hg:getH h o<;>rw [hg] at e<;>try (cases e;done)
    rename_i cs
    simp only at e
    cases hs:splice off x cs<;>rw [hs] at e<;>cases e
    intro p ho
    rw [List.mem_singleton.1 ho]
    exact ⟨by rw [hg];simp,by simp⟩
  case aptr o ver i off=>
    cases hg:getH h o<;>rw [hg] at e<;>try (cases e;done)
    rename_i fr ver' sz rows
    cases fr
    · simp only at e
      split at e
      · split at e
        · rename_i row ds e1 e2
          cases hs:splice off ds row<;>rw [hs] at e<;>cases e
          intro p ho
          rw [List.mem_singleton.1 ho]
          exact ⟨by rw [hg];simp,by simp⟩
        · cases e
      · cases e
    · cases e
theorem opEv_wr {s:List V} {h:List Obj} {rid:Nat} {op:AOp} {z:V × Wr} (e:opEv rid s h op=some z):∀p∈z.2,(p.1=rid∨getH h p.1 ≠ .none)∧p.2 ≠ .none:=by
  have nil:∀{v:V},z=(v,[])→∀p∈z.2,(p.1=rid∨getH h p.1 ≠ .none)∧p.2 ≠ .none:=fun hz o ho=>by rw [hz] at ho;cases ho
  have pv:∀{c:C},pureV c=some z→∀p∈z.2,(p.1=rid∨getH h p.1 ≠ .none)∧p.2 ≠ .none:=fun hz=>nil (Option.some.inj hz).symm
  have mp:∀{α:Type} {x:Option α} {f:α→V × Wr},(∀a,(f a).2=[])→x.map f=some z→∀p∈z.2,(p.1=rid∨getH h p.1 ≠ .none)∧p.2 ≠ .none:=by
    intro α x f hf hz
    cases x with
    | none=>cases hz
    | some a=>cases hz;intro o ho;rw [hf a] at ho;cases ho
  cases op<;>simp only [opEv] at e
  case mov=>exact nil (Option.some.inj e).symm
  case pick=>split at e<;>first | exact nil (Option.some.inj e).symm | cases e
  case alloc=>exact newV_keys e (by simp) (by simp)
  case box=>
    split at e
    · exact newV_keys e (by simp) (by simp)
    · cases e
  case load n a=>
    split at e
    · cases hl:loadC h (num n) _ with
      | none=>rw [hl] at e;cases e
      | some cs=>rw [hl] at e;simp only [Option.bind_some] at e;exact mp (fun _=>rfl) e
    · cases e
  case store n a x=>
    split at e
    · split at e
      · rename_i p l hp hl hq
        cases hs:storeC h p l with
        | none=>rw [hs] at e;cases e
        | some w=>
          rw [hs] at e;cases e
          exact fun p hp=>⟨.inr (storeC_keys hs p hp).1,(storeC_keys hs p hp).2⟩
      · cases e
    · cases e
  case faddr=>split at e<;>first | exact pv e | cases e
  case iaddr=>split at e<;>first | exact mp (fun _=>rfl) e | cases e
  case iaddrA=>
    split at e
    · split at e
      · exact pv e
      · cases e
    · cases e
  case fld o n x=>
    split at e
    · rename_i cs _
      cases hl:part o (num n) cs with
      | none=>rw [hl] at e;cases e
      | some cs=>rw [hl] at e;simp only [Option.bind_some] at e;exact mp (fun _=>rfl) e
    · cases e
  case idx len sz n x i=>
    split at e
    · rename_i cs _ k _ _
      split at e
      · cases hl:part (k.toNat*sz) (num n) cs with
        | none=>rw [hl] at e;cases e
        | some cs=>rw [hl] at e;simp only [Option.bind_some] at e;exact mp (fun _=>rfl) e
      · cases e
    · cases e
  case bin=>exact mp (fun _=>rfl) e
  case eqA=>split at e<;>first | exact mp (fun _=>rfl) e | cases e
  case eqB=>split at e<;>first | exact pv e | cases e
  case not=>split at e<;>first | exact pv e | cases e
  case neg=>split at e<;>first | exact pv e | cases e
  case conv=>split at e<;>first | exact pv e | cases e
  case extract=>split at e<;>first | exact mp (fun _=>rfl) e | cases e
  case mkfn f x caps=>
    cases x with
    | none=>simp only [opEv] at e;split at e<;>first | exact pv e | cases e
    | some x=>simp only [opEv] at e;split at e<;>first | exact pv e | cases e
  case build=>exact mp (fun _=>rfl) e
  case blistc=>exact mp (fun _=>rfl) e
  case bslice sz n zero parts=>
    split at e
    · split at e
      · cases hr:setRows s h sz parts (rowsOf n _) with
        | none=>rw [hr] at e;cases e
        | some r=>
          rw [hr] at e
          simp only [Option.bind_some] at e
          exact newV_keys e (by simp) fun p hp=>by
            obtain ⟨o,ho,rfl⟩:=List.mem_map.1 hp
            have:=setRows_obj hr o ho
            cases hg:getH h o<;>simp_all
      · cases e
    · cases e
  case blist sz n zero parts=>
    split at e
    · split at e
      · split at e
        · exact pv e
        · cases e
      · cases e
    · cases e
  case mkslice=>
    split at e
    · split at e
      · exact newV_keys e (by simp) (by simp)
      · cases e
    · cases e
  case append sz by_ a x=>
    split at e
    · split at e
      · unfold appendC at e
        split at e
        · split at e
          · split at e
            · split at e
              · exact newV_keys e (by simp) (by simp)
              · cases e
            · rename_i o off len
              split at e
              · rename_i cs ho
                split at e
                · exact newV_keys e (by simp) (by simp [ho,gone])
                · cases e
              · cases e
            · cases e
          · cases e
        · cases e
      · split at e
        · split at e
          · split at e
            · exact newV_keys e (by simp) (by simp)
            · cases e
          · rename_i o ver off len _
            cases hg:getH h o<;>rw [hg] at e<;>try (cases e;done)
            rename_i fr ver' sz' rows
            cases fr
            · simp only at e
              split at e
              · cases e
                intro p ho
                rw [List.mem_singleton.1 ho]
                exact ⟨.inr (by rw [hg];simp),by simp⟩
              · cases e
            · cases e
          · cases e
        · cases e
    · cases e
  case clone=>
    split at e
    · split at e
      · split at e
        · exact newV_keys e (by simp) (by simp)
        · cases e
      · cases e
    · cases e
  case grow=>
    split at e
    · split at e
      · exact newV_keys e (by simp) (by simp)
      · cases e
    · cases e
  case slice=>
    split at e
    · split at e<;>first | exact pv e | cases e
    · split at e
      · split at e
        · exact mp (fun _=>rfl) e
        · cases e
      · cases e
    · split at e
      · split at e
        · split at e
          · exact pv e
          · cases e
        · cases e
      · cases e
    · cases e
  case pslice=>
    split at e
    · split at e
      · split at e
        · exact pv e
        · cases e
      · cases e
    · cases e
  case copy=>
    split at e
    · split at e
      · split at e
        · rename_i o off len b _ _ _ new' _ hq
          cases hs:storeC h (.ptr o off) (new'.flatMap fun r=>r.map (C.ofD false)) with
          | none=>rw [hs] at e;cases e
          | some w=>
            rw [hs] at e;cases e
            exact fun p hp=>⟨.inr (storeC_keys hs p hp).1,(storeC_keys hs p hp).2⟩
        · cases e
      · cases e
    · cases e
  case len=>split at e<;>first | exact mp (fun _=>rfl) e | cases e
  case mm=>split at e<;>first | exact pv e | cases e
  case nilchk=>split at e<;>first | exact pv e | cases e
  case isnil=>
    split at e
    · exact pv e
    · split at e
      · cases e
      · exact pv e
    · cases e
  case mkmap=>exact newV_keys e (by simp) (by simp)
  case lookup=>
    split at e
    · split at e
      · split at e
        · split at e
          · exact mp (fun _=>rfl) e
          · exact nil (Option.some.inj e).symm
        · cases e
      · cases e
    · cases e
  case mapupd=>
    split at e
    · rename_i o key l hm hk hl
      cases hg:getH h o<;>rw [hg] at e<;>try (cases e;done)
      simp only at e
      split at e
      · cases e
        intro p ho
        rw [List.mem_singleton.1 ho]
        exact ⟨.inr (by rw [hg];simp),by simp⟩
      · cases e
    · cases e
  all_goals cases e
theorem Ex.toArgC {h h':List Obj} {c:C} {r} (g:Ex h h') (e:toArgC h c=some r):toArgC h' c=some r:=by
  cases c<;>simp only [Am.toArgC] at e ⊢<;>try exact e
  case sl o ver off len=>rw [g o (fun hn=>by rw [hn] at e;cases e)];exact e
theorem Ex.toArgCs {h h':List Obj} (g:Ex h h'):∀{cs:List C} {r},toArgCs h cs=some r→toArgCs h' cs=some r
  | [],_,e=>e
  | c::cs,r,e=>by
    simp only [Am.toArgCs] at e ⊢
    split at e
    · rename_i e1 e2
      rw [g.toArgC e1,g.toArgCs e2];exact e
    · cases e
theorem Ex.toArg {h h':List Obj} {v:V} {r} (g:Ex h h') (e:toArg h v=some r):toArg h' v=some r:=by
  cases v with
  | c x=>
    simp only [Am.toArg] at e ⊢
    cases hc:Am.toArgC h x with
    | none=>rw [hc] at e;cases e
    | some y=>rw [g.toArgC hc];rw [hc] at e;exact e
  | agg cs=>
    simp only [Am.toArg] at e ⊢
    cases hc:Am.toArgCs h cs with
    | none=>rw [hc] at e;cases e
    | some y=>rw [g.toArgCs hc];rw [hc] at e;exact e
  | tup vs=>exact e
theorem Ex.toArgs {h h':List Obj} (g:Ex h h'):∀{vs:List V} {r},toArgs h vs=some r→toArgs h' vs=some r
  | [],_,e=>e
  | c::cs,r,e=>by
    simp only [Am.toArgs] at e ⊢
    split at e
    · rename_i e1 e2
      rw [g.toArg e1,g.toArgs e2];exact e
    · cases e
end Am
namespace Am
open Go
set_option linter.unusedVariables false
set_option linter.unusedSimpArgs false
theorem memN_iff {x:Nat}:∀{l:List Nat},memN x l=true↔x∈l
  | []=>by simp [memN]
  | y::l=>by simp [memN,memN_iff (l:=l),Nat.beq_eq]
theorem disj_iff : ∀{a b:List Nat},disj a b=true↔∀x∈a,x∉b
  | [],b=>by simp [disj]
  | x::a,b=>by
    simp only [disj,Bool.and_eq_true,disj_iff (a:=a),List.forall_mem_cons]
    constructor
    · rintro ⟨h1,h2⟩;exact ⟨(fun h=>by rw [memN_iff.2 h] at h1;cases h1),h2⟩
    · rintro ⟨h1,h2⟩;exact ⟨by cases hm:memN x b with
        | true=>exact (h1 (memN_iff.1 hm)).elim
        | false=>rfl,h2⟩
theorem getH_applyW {h:List Obj}:∀{w:Wr} {o:Nat},o∉w.map (·.1)→getH (applyW h w) o=getH h o:=by
  intro w
  induction w generalizing h with
  | nil=>intro o _;rfl
  | cons p w ih=>
    intro o ho
    simp only [List.map_cons,List.mem_cons,not_or] at ho
    rw [applyW,ih ho.2,getH_setH,if_neg (fun e=>ho.1 e.1)]
theorem applyW_len {h:List Obj}:∀{w:Wr},(applyW h w).length=h.length:=by
  intro w
  induction w generalizing h with
  | nil=>rfl
  | cons p w ih=>rw [applyW,ih,setH_len]
theorem isHole_applyW {h:List Obj} {w:Wr} {o:Nat} (ho:o∉w.map (·.1)):isHole (applyW h w) o=isHole h o:=by
  have:isHole (applyW h w) o=true↔isHole h o=true:=by rw [isHole_iff,isHole_iff,applyW_len,getH_applyW ho]
  cases h1:isHole (applyW h w) o<;>cases h2:isHole h o<;>simp_all
theorem setH_comm {h:List Obj} {i j:Nat} {x y:Obj} (hij:i≠j):setH (setH h i x) j y=setH (setH h j y) i x:=by
  induction h generalizing i j with
  | nil=>cases i<;>cases j<;>rfl
  | cons a h ih=>
    cases i with
    | zero=>cases j with
      | zero=>exact (hij rfl).elim
      | succ j=>rfl
    | succ i=>cases j with
      | zero=>rfl
      | succ j=>simp only [setH];rw [ih (fun e=>hij (by rw [e]))]
theorem setS_comm {h:List V} {i j:Nat} {x y:V} (hij:i≠j):setS (setS h i x) j y=setS (setS h j y) i x:=by
  induction h generalizing i j with
  | nil=>cases i<;>cases j<;>rfl
  | cons a h ih=>
    cases i with
    | zero=>cases j with
      | zero=>exact (hij rfl).elim
      | succ j=>rfl
    | succ i=>cases j with
      | zero=>rfl
      | succ j=>simp only [setS];rw [ih (fun e=>hij (by rw [e]))]
theorem applyW_setH {h:List Obj} {i:Nat} {x:Obj}:∀{w:Wr},i∉w.map (·.1)→applyW (setH h i x) w=setH (applyW h w) i x:=by
  intro w
  induction w generalizing h with
  | nil=>intro _;rfl
  | cons p w ih=>
    intro ho
    simp only [List.map_cons,List.mem_cons,not_or] at ho
    simp only [applyW]
    rw [setH_comm ho.1,ih ho.2]
theorem applyW_comm {h:List Obj}:∀{a b:Wr},(∀x∈a.map (·.1),x∉b.map (·.1))→applyW (applyW h a) b=applyW (applyW h b) a:=by
  intro a
  induction a generalizing h with
  | nil=>intro b _;rfl
  | cons p a ih=>
    intro b hd
    simp only [List.map_cons,List.forall_mem_cons] at hd
    simp only [applyW]
    rw [ih hd.2,applyW_setH hd.1]
theorem putD_comm {s:List V} {a b:Option Nat} {x y:V} (h:∀d e,a=some d→b=some e→d≠e):putD (putD s a x) b y=putD (putD s b y) a x:=by
  cases a with
  | none=>rfl
  | some d=>cases b with
    | none=>rfl
    | some e=>exact setS_comm (h d e rfl rfl)
theorem AgS.put {s:List V} {d:Option Nat} {v:V} {l:List Nat} (h:∀x,d=some x→x∉l):AgS s (putD s d v) l:=by
  intro t ht
  cases d with
  | none=>rfl
  | some d=>
    simp only [putD]
    rw [getS_setS,if_neg]
    rintro ⟨rfl,_⟩
    exact h t rfl ht
theorem AgS.symm {s s':List V} {l:List Nat} (h:AgS s s' l):AgS s' s l:=fun t ht=>(h t ht).symm
theorem AgH.symm {s s':List Obj} {l:List Nat} (h:AgH s s' l):AgH s' s l:=fun t ht=>(h t ht).symm
theorem apartS_spec {a b:AOper} (h:apartS a b=true):(∀d,a.dst=some d→d∉b.tmps)∧(∀d,b.dst=some d→d∉a.tmps)∧(∀d e,a.dst=some d→b.dst=some e→d≠e):=by
  unfold apartS at h
  simp only [Bool.and_eq_true] at h
  obtain ⟨h1,h2⟩:=h
  refine ⟨fun d hd=>?_,fun d hd=>?_,fun d e hd he=>?_⟩
  · rw [hd] at h1
    simp only [Bool.and_eq_true,Bool.not_eq_true'] at h1
    intro hm;rw [memN_iff.2 hm] at h1;cases h1.1
  · rw [hd] at h2
    simp only [Bool.not_eq_true'] at h2
    intro hm;rw [memN_iff.2 hm] at h2;cases h2
  · rw [hd,he] at h1
    simp only [Bool.and_eq_true,Bool.not_eq_true'] at h1
    intro hm;subst hm
    have:=h1.2
    simp at this
theorem evO_inv {r:Rec} {rb:Nat} {o:AOper} {s:List V} {h:List Obj} {st1:St} {f:Foot} (e:evO r rb o ⟨s,h⟩=some (st1,f)) :
    ∃v,(∃wr:Wr,st1=⟨putD s o.dst v,applyW h wr⟩∧f.w=wr.map (·.1)∧f.all=none ∧
        ∀s' h',AgS s s' o.tmps→AgH h h' f.r→(∀x∈f.w,isHole h x=true→isHole h' x=true)→evO r rb o ⟨s',h'⟩=some (⟨putD s' o.dst v,applyW h' wr⟩,f)) ∨
      (∃h1,f=⟨[],[],some (sameO h h1)⟩∧st1=⟨putD s o.dst v,h1⟩∧∀s',AgS s s' o.tmps→evO r rb o ⟨s',h⟩=some (⟨putD s' o.dst v,h1⟩,f)):=by
  obtain ⟨dst,op,guard,rid⟩:=o
  cases hw:wantedA s guard with
  | none=>simp only [evO,hw] at e;cases e
  | some b=>
    cases b with
    | false=>
      simp only [evO,hw] at e;cases e
      refine ⟨skipV,.inl ⟨[],rfl,rfl,rfl,fun s' h' hs _ _=>?_⟩⟩
      have hw':wantedA s' guard=some false:=by rw [wanted_slots (AgS.right hs)];exact hw
      simp only [evO,hw'];rfl
    | true=>
      by_cases hcall:op.isCall=false
      · rw [evO_eq hcall] at e
        simp only [evO0,hw] at e
        cases ho:opEv (rb+rid) s h op with
        | none=>rw [ho] at e;cases e
        | some z=>
          obtain ⟨v,wr⟩:=z
          rw [ho] at e
          cases e
          refine ⟨v,.inl ⟨wr,rfl,rfl,rfl,fun s' h' hs hh hl=>?_⟩⟩
          have hs1:AgS s s' op.tmps:=AgS.left hs
          have hw':wantedA s' guard=some true:=by rw [wanted_slots (AgS.right hs)];exact hw
          rw [evO_eq hcall]
          have h1:opEv (rb+rid) s' h' op=some (v,wr):=by
            rw [opEv_slots hs1]
            exact opEv_heap hh (fun hm=>hl _ hm) ho
          simp only [evO0,hw',h1,readsOf_slots hs1]
      · cases op<;>try (exact (hcall rfl).elim)
        case call f p args=>
          cases p with
          | true=>
            simp only [evO,hw] at e
            cases ha:toArgs h (args.map (·.ev s)) with
            | none=>rw [ha] at e;cases e
            | some as=>
              rw [ha] at e
              simp only at e
              cases hr:r (.p f as) with
              | none=>rw [hr] at e;cases e
              | some z=>
                rw [hr] at e
                cases e
                refine ⟨z.1,.inl ⟨[],rfl,rfl,rfl,fun s' h' hs hh _=>?_⟩⟩
                have hs1:AgS s s' (AOp.call f true args).tmps:=AgS.left hs
                have hw':wantedA s' guard=some true:=by rw [wanted_slots (AgS.right hs)];exact hw
                have h1:toArgs h' (args.map (·.ev s'))=some as:=by
                  rw [AgS.map hs1,←ha]
                  exact toArgs_heap hh
                simp only [evO,hw',h1,hr,readsOf_slots hs1]
                rfl
          | false=>
            simp only [evO,hw] at e
            cases hr:r (.f f (args.map (·.ev s)) h) with
            | none=>rw [hr] at e;cases e
            | some z=>
              rw [hr] at e
              cases e
              refine ⟨z.1,.inr ⟨z.2,rfl,rfl,fun s' hs=>?_⟩⟩
              have hs1:AgS s s' (AOp.call f false args).tmps:=AgS.left hs
              have hw':wantedA s' guard=some true:=by rw [wanted_slots (AgS.right hs)];exact hw
              simp only [evO,hw',AgS.map hs1,hr]
        case callv f args=>
          simp only [evO,hw] at e
          cases hr:callV r (f.ev s) (args.map (·.ev s)) h with
          | none=>rw [hr] at e;cases e
          | some z=>
            rw [hr] at e
            cases e
            refine ⟨z.1,.inr ⟨z.2,rfl,rfl,fun s' hs=>?_⟩⟩
            have hs1:AgS s s' (AOp.callv f args).tmps:=AgS.left hs
            have hw':wantedA s' guard=some true:=by rw [wanted_slots (AgS.right hs)];exact hw
            simp only [evO,hw',AgS.ev hs1.left,AgS.map hs1.right,hr]
theorem allN_iff {s:Nat→Bool}:∀{l:List Nat},allN s l=true↔∀x∈l,s x=true
  | []=>by simp [allN]
  | x::l=>by simp [allN,allN_iff (l:=l)]
theorem sameO_iff {h h':List Obj} {o:Nat}:sameO h h' o=true↔getH h' o=getH h o:=by simp [sameO]
theorem evO_swap {r:Rec} {rb:Nat} {a b:AOper} {st st1 st2:St} {fa fb:Foot} (ea:evO r rb a st=some (st1,fa)) (eb:evO r rb b st1=some (st2,fb)) (hs:apartS a b=true) (hf:fa.apart fb=true) :
    ∃st1',evO r rb b st=some (st1',fb)∧evO r rb a st1'=some (st2,fa):=by
  obtain ⟨s,h⟩:=st
  obtain ⟨h1,h2,h3⟩:=apartS_spec hs
  obtain ⟨va,ha⟩:=evO_inv ea
  unfold Foot.apart at hf
  rcases ha with ⟨wa,rfl,ha1,ha2,ha3⟩ | ⟨h',rfl,rfl,ha3⟩
  · obtain ⟨vb,hb⟩:=evO_inv eb
    rcases hb with ⟨wb,rfl,hb1,hb2,hb3⟩ | ⟨h',rfl,rfl,hb3⟩
    · rw [ha2,hb2] at hf
      simp only [Bool.and_eq_true,disj_iff] at hf
      obtain ⟨⟨d1,d2⟩,d3⟩:=hf
      rw [ha1] at d1 d2
      rw [hb1] at d1 d3
      refine ⟨_,hb3 s h (AgS.symm (AgS.put h1)) (fun o ho=>(getH_applyW (fun hm=>d2 o hm ho)).symm) (fun x hx hh=>?_),?_⟩
      · rw [isHole_applyW] at hh
        · exact hh
        · intro hm;rw [hb1] at hx;exact d1 x hm hx
      · rw [ha3 _ _ (AgS.put h2) (fun o ho=>getH_applyW (fun hm=>d3 o ho hm)) (fun x hx hh=>?_)]
        · rw [putD_comm h3,applyW_comm d1]
        · rw [isHole_applyW]
          · exact hh
          · intro hm;rw [ha1] at hx;exact d1 x hx hm
    · rw [ha2] at hf
      simp only [Bool.and_eq_true,List.isEmpty_iff,allN_iff,sameO_iff] at hf
      have hwa:wa=[]:=by
        have:=hf.1;rw [ha1] at this;exact List.map_eq_nil_iff.1 this
      subst hwa
      refine ⟨_,hb3 s (AgS.symm (AgS.put h1)),?_⟩
      have e:=ha3 _ h' (AgS.put (d:=b.dst) (v:=vb) h2) (fun o ho=>hf.2 o ho) (by rw [hf.1];intro o ho;cases ho)
      rw [e,putD_comm h3];rfl
  · obtain ⟨vb,hb⟩:=evO_inv eb
    rcases hb with ⟨wb,rfl,hb1,hb2,hb3⟩ | ⟨_,rfl,_,_⟩
    · rw [hb2] at hf
      simp only [Bool.and_eq_true,List.isEmpty_iff,allN_iff,sameO_iff] at hf
      have hwb:wb=[]:=by
        have:=hf.1;rw [hb1] at this;exact List.map_eq_nil_iff.1 this
      subst hwb
      refine ⟨_,hb3 s h (AgS.symm (AgS.put h1)) (fun o ho=>(hf.2 o ho).symm) (by rw [hf.1];intro o ho;cases ho),?_⟩
      have:=ha3 _ (AgS.put (d:=b.dst) (v:=vb) h2)
      rw [show applyW h []=h from rfl,this,putD_comm h3];rfl
    · exact absurd hf (by simp)
def ExL (r:Rec) (rb:Nat) (ops:List AOper) (F:Nat→Foot):List Nat→St→St→Prop
  | [],st,st'=>st'=st
  | i::L,st,st'=>∃o st1,nth ops i=some o∧evO r rb o st=some (st1,F i)∧ExL r rb ops F L st1 st'
theorem ExL.append {r:Rec} {rb:Nat} {ops:List AOper} {F:Nat→Foot}:∀{A B:List Nat} {st st':St},ExL r rb ops F (A++B) st st'↔∃st1,ExL r rb ops F A st st1∧ExL r rb ops F B st1 st'
  | [],B,st,st'=>by simp [ExL]
  | a::A,B,st,st'=>by
    simp only [List.cons_append,ExL,ExL.append (A:=A)]
    constructor
    · rintro ⟨o,s1,h1,h2,s2,h3,h4⟩;exact ⟨s2,⟨o,s1,h1,h2,h3⟩,h4⟩
    · rintro ⟨s2,⟨o,s1,h1,h2,h3⟩,h4⟩;exact ⟨o,s1,h1,h2,s2,h3,h4⟩
theorem ExL.of_evOs {r:Rec} {rb:Nat} {ops:List AOper}:∀{os:List AOper} {i:Nat} {st:St} {fs:List (Nat × Foot)} {st':St} {fs':List (Nat × Foot)},(∀j o,nth os j=some o→nth ops (i+j)=some o)→evOs r rb i os st fs=some (st',fs') →
    ExL r rb ops (footAt fs') (List.range' i os.length) st st'∧∀j,j<i→footAt fs' j=footAt fs j
  | [],i,st,fs,st',fs',_,e=>by cases e;exact ⟨rfl,fun _ _=>rfl⟩
  | o::os,i,st,fs,st',fs',hn,e=>by
    unfold evOs at e
    cases ho:evO r rb o st with
    | none=>rw [ho] at e;cases e
    | some z=>
      obtain ⟨st1,f⟩:=z
      rw [ho] at e
      simp only at e
      obtain ⟨h1,h2⟩:=ExL.of_evOs (ops:=ops) (i:=i+1) (fun j o hj=>by have:=hn (j+1) o hj;rwa [show i+(j+1)=i+1+j by omega] at this) e
      have hi:footAt fs' i=f:=by rw [h2 i (by omega)];simp [footAt]
      refine ⟨?_,fun j hj=>?_⟩
      · rw [List.length_cons,List.range'_succ]
        exact ⟨o,st1,hn 0 o rfl,by rw [hi];exact ho,h1⟩
      · rw [h2 j (by omega)]
        simp only [footAt]
        rw [if_neg]
        simp;omega
theorem pairsOk_spec {fs:List (Nat × Foot)}:∀{ps:List (Nat × Nat)},pairsOk fs ps=true→∀p∈ps,(footAt fs p.1).apart (footAt fs p.2)=true
  | [],_,p,hp=>by cases hp
  | (i,j)::ps,h,p,hp=>by
    simp only [pairsOk,Bool.and_eq_true] at h
    rcases List.mem_cons.1 hp with rfl | hp
    · exact h.1
    · exact pairsOk_spec h.2 p hp
end Am
namespace Am
open Go
set_option linter.unusedVariables false
set_option linter.unusedSimpArgs false
structure Fill (i:Nat) (x:Obj) (h h':List Obj):Prop where
  lt:i<h.length
  no:getH h i = .none
  eq:h'=setH h i x
section
variable {i:Nat} {x:Obj} {h h':List Obj}
theorem Fill.len (g:Fill i x h h'):h'.length=h.length:=by rw [g.eq,setH_len]
theorem Fill.ne (g:Fill i x h h') {o:Nat} (ho:o≠i):getH h' o=getH h o:=by rw [g.eq,getH_setH,if_neg (fun e=>ho e.1)]
theorem Fill.ex (g:Fill i x h h'):Ex h h':=fun o ho=>g.ne fun e=>ho (by rw [e];exact g.no)
theorem Fill.app (g:Fill i x h h') (l:List Obj):Fill i x (h++l) (h'++l):=by
  have hl:=g.lt
  refine ⟨by simp;omega,?_,?_⟩
  · rw [getH_append_left _ _ _ hl];exact g.no
  · rw [g.eq]
    have:∀{h:List Obj} {i:Nat},i<h.length→setH h i x++l=setH (h++l) i x:=by
      intro h
      induction h with
      | nil=>intro i hi;simp at hi
      | cons a h ih=>
        intro i hi
        cases i with
        | zero=>rfl
        | succ i=>simp only [setH,List.cons_append];rw [ih (by simpa using hi)]
    exact this hl
theorem Fill.hole (g:Fill i x h h') {o:Nat} (ho:o≠i) (hh:isHole h o=true):isHole h' o=true:=by
  rw [isHole_iff] at hh ⊢
  rw [g.len,g.ne ho];exact hh
theorem Fill.set (g:Fill i x h h') {o:Nat} {y:Obj} (ho:o≠i):Fill i x (setH h o y) (setH h' o y):=by
  refine ⟨by rw [setH_len];exact g.lt,?_,?_⟩
  · rw [getH_setH,if_neg (fun e=>ho e.1.symm)];exact g.no
  · rw [g.eq,setH_comm (fun e=>ho e.symm)]
theorem Fill.applyW (g:Fill i x h h') {w:Wr} (hw:∀p∈w,p.1≠i):Fill i x (applyW h w) (applyW h' w):=by
  induction w generalizing h h' with
  | nil=>exact g
  | cons p w ih=>
    simp only [Am.applyW]
    exact ih (g.set (hw p (List.mem_cons_self ..))) fun q hq=>hw q (List.mem_cons_of_mem _ hq)
theorem Fill.take (g:Fill i x h h') {n:Nat} (hn:i<n):Fill i x (h.take n) (h'.take n):=by
  have hl:=g.lt
  refine ⟨by simp;omega,by rw [getH_take,if_pos hn];exact g.no,?_⟩
  rw [g.eq]
  have:∀{h:List Obj} {i n:Nat},i<n→(setH h i x).take n=setH (h.take n) i x:=by
    intro h
    induction h with
    | nil=>intro i n _;cases n<;>cases i<;>rfl
    | cons a h ih=>
      intro i n hi
      cases n with
      | zero=>omega
      | succ n=>
        cases i with
        | zero=>rfl
        | succ i=>simp only [setH,List.take_succ_cons];rw [ih (by omega)]
  exact this hn
theorem underH_fill (hx:∀b,x.under b=true) {b:Nat}:∀{h:List Obj} {i:Nat},underH b h=true→underH b (setH h i x)=true:=by
  intro h
  induction h with
  | nil=>intro i e;cases i<;>exact e
  | cons a h ih=>
    intro i e
    simp only [underH,Bool.and_eq_true] at e
    cases i with
    | zero=>simp only [setH,underH,Bool.and_eq_true];exact ⟨hx b,e.2⟩
    | succ i=>simp only [setH,underH,Bool.and_eq_true];exact ⟨e.1,ih e.2⟩
theorem Fill.trunc (g:Fill i x h h') (hx:∀b,x.under b=true) {b:Nat} (hb:i<b) {vs:List V} {r:List Obj} (e:trunc b vs h=some r):∃r',trunc b vs h'=some r'∧Fill i x r r':=by
  unfold Am.trunc at e ⊢
  split at e
  · rename_i hc
    cases e
    have ht:=g.take hb
    rw [Bool.and_eq_true] at hc
    have hu:underH b (h'.take b)=true:=by rw [ht.eq];exact underH_fill hx hc.2
    exact ⟨h'.take b,by rw [hc.1,hu];rfl,ht⟩
  · cases e
theorem Fill.same (g:Fill i x h h') {h1 h1':List Obj} (g1:Fill i x h1 h1'):sameO h' h1'=sameO h h1:=by
  funext o
  have:sameO h' h1' o=true↔sameO h h1 o=true:=by
    rw [sameO_iff,sameO_iff]
    by_cases ho:o=i
    · subst ho
      rw [g.no,g1.no,g.eq,g1.eq,getH_setH,getH_setH,if_pos ⟨rfl,g1.lt⟩,if_pos ⟨rfl,g.lt⟩]
      simp
    · rw [g.ne ho,g1.ne ho]
  cases q1:sameO h' h1' o<;>cases q2:sameO h h1 o<;>simp_all
end
structure FillRec (r:Rec) (i:Nat) (x:Obj):Prop where
  f:∀{k args h v h1 h'},r (.f k args h)=some (v,h1)→Fill i x h h'→∃h1',r (.f k args h')=some (v,h1')∧Fill i x h1 h1'
  y:∀{o args h v h1 h'},r (.y o args h)=some (v,h1)→Fill i x h h'→∃h1',r (.y o args h')=some (v,h1')∧Fill i x h1 h1'
section
variable {r:Rec} {i:Nat} {x:Obj}
theorem callV_fill (hr:FillRec r i x) {f:V} {args:List V} {h h1 h':List Obj} {v:V} (e:callV r f args h=some (v,h1)) (g:Fill i x h h'):∃h1',callV r f args h'=some (v,h1')∧Fill i x h1 h1':=by
  unfold callV at e ⊢
  split at e
  · exact hr.f e g
  · exact hr.y e g
  · cases e
theorem evO_fill (hr:FillRec r i x) {rb:Nat} (hi:i<rb) {o:AOper} {s s1:List V} {h h1 h':List Obj} {f:Foot} (e:evO r rb o ⟨s,h⟩=some (⟨s1,h1⟩,f)) (g:Fill i x h h'):∃h1',evO r rb o ⟨s,h'⟩=some (⟨s1,h1'⟩,f)∧Fill i x h1 h1':=by
  obtain ⟨dst,op,guard,rid⟩:=o
  cases hw:wantedA s guard with
  | none=>simp only [evO,hw] at e;cases e
  | some b=>
    cases b with
    | false=>
      simp only [evO,hw] at e;cases e
      exact ⟨h',by simp only [evO,hw],g⟩
    | true=>
      by_cases hcall:op.isCall=false
      · rw [evO_eq hcall] at e
        simp only [evO0,hw] at e
        cases ho:opEv (rb+rid) s h op with
        | none=>rw [ho] at e;cases e
        | some z=>
          obtain ⟨v,wr⟩:=z
          rw [ho] at e
          cases e
          have h2:=opEv_ex g.ex (fun hh=>g.hole (by omega) hh) ho
          have h3:=opEv_wr ho
          refine ⟨applyW h' wr,by rw [evO_eq hcall];simp only [evO0,hw,h2],g.applyW fun p hp=>?_⟩
          rcases (h3 p hp).1 with hp | hp
          · omega
          · exact fun e=>hp (by rw [e];exact g.no)
      · cases op<;>try (exact (hcall rfl).elim)
        case call k p args=>
          cases p with
          | true=>
            simp only [evO,hw] at e
            cases ha:toArgs h (args.map (·.ev s)) with
            | none=>rw [ha] at e;cases e
            | some as=>
              rw [ha] at e
              simp only at e
              cases hq:r (.p k as) with
              | none=>rw [hq] at e;cases e
              | some z=>
                rw [hq] at e
                cases e
                exact ⟨h',by simp only [evO,hw,g.ex.toArgs ha,hq],g⟩
          | false=>
            simp only [evO,hw] at e
            cases hq:r (.f k (args.map (·.ev s)) h) with
            | none=>rw [hq] at e;cases e
            | some z=>
              rw [hq] at e
              cases e
              obtain ⟨h1',e1,g1⟩:=hr.f hq g
              exact ⟨h1',by simp only [evO,hw,e1,g.same g1],g1⟩
        case callv k args=>
          simp only [evO,hw] at e
          cases hq:callV r (k.ev s) (args.map (·.ev s)) h with
          | none=>rw [hq] at e;cases e
          | some z=>
            rw [hq] at e
            cases e
            obtain ⟨h1',e1,g1⟩:=callV_fill hr hq g
            exact ⟨h1',by simp only [evO,hw,e1,g.same g1],g1⟩
theorem evOs_fill (hr:FillRec r i x) {rb:Nat} (hi:i<rb):∀{os:List AOper} {j:Nat} {s s1:List V} {h h1 h':List Obj} {fs fs1:List (Nat × Foot)},evOs r rb j os ⟨s,h⟩ fs=some (⟨s1,h1⟩,fs1)→Fill i x h h'→∃h1',evOs r rb j os ⟨s,h'⟩ fs=some (⟨s1,h1'⟩,fs1)∧Fill i x h1 h1'
  | [],j,s,s1,h,h1,h',fs,fs1,e,g=>by cases e;exact ⟨h',rfl,g⟩
  | o::os,j,s,s1,h,h1,h',fs,fs1,e,g=>by
    unfold evOs at e ⊢
    cases ho:evO r rb o ⟨s,h⟩ with
    | none=>rw [ho] at e;cases e
    | some z=>
      obtain ⟨⟨s2,h2⟩,f⟩:=z
      rw [ho] at e
      obtain ⟨h2',e2,g2⟩:=evO_fill hr hi ho g
      rw [e2]
      exact evOs_fill hr hi e g2
theorem reifyOk_ex : ∀{l:List (Nat × Option Nat × Nat)} {s:List V} {h h':List Obj},Ex h h'→reifyOk l s h=true→reifyOk l s h'=true
  | [],_,_,_,_,_=>rfl
  | (j,none,_)::l,s,h,h',g,e=>by
    simp only [reifyOk] at e ⊢
    exact reifyOk_ex g e
  | (j,some _,_)::l,s,h,h',g,e=>by
    simp only [reifyOk,Bool.and_eq_true] at e ⊢
    refine ⟨?_,reifyOk_ex g e.2⟩
    have e1:=e.1
    revert e1
    split
    · rename_i o f hs
      intro e1
      by_cases hn:getH h o = .none
      · rw [hn] at e1;cases e1
      · rw [g o hn];exact e1
    · intro _;rfl
theorem headOf_fill (hx:∀b,x.under b=true) {ann:Ann} {lb:Nat} (hlb:i<lb) {s s1:List V} {h h1 h':List Obj} (e:headOf ann lb ⟨s,h⟩=some ⟨s1,h1⟩) (g:Fill i x h h'):∃h1',headOf ann lb ⟨s,h'⟩=some ⟨s1,h1'⟩∧Fill i x h1 h1':=by
  unfold headOf at e ⊢
  split at e
  · rename_i hok
    rw [if_pos (reifyOk_ex g.ex hok)]
    simp only at e ⊢
    split at e
    · rename_i ht
      rw [if_pos ht]
      cases hq:trunc lb (killS ann.kill s) h with
      | none=>rw [hq] at e;cases e
      | some z=>
        rw [hq] at e;cases e
        obtain ⟨r',e1,g1⟩:=g.trunc hx hlb hq
        exact ⟨r',by rw [e1];rfl,g1⟩
    · rename_i ht
      rw [if_neg ht]
      cases e
      exact ⟨h',rfl,g⟩
  · cases e
theorem evLoop_fill (hx:∀b,x.under b=true) {body:St→Option (X × St)} (hb:∀{s h h' y s1 h1},body ⟨s,h⟩=some (y,⟨s1,h1⟩)→Fill i x h h'→∃h1',body ⟨s,h'⟩=some (y,⟨s1,h1'⟩)∧Fill i x h1 h1') {lb:Nat} (hlb:i<lb) {ann:Ann} :
    ∀{n:Nat} {s s1:List V} {h h1 h':List Obj} {y:X},evLoop body lb ann n ⟨s,h⟩=some (y,⟨s1,h1⟩)→Fill i x h h'→∃h1',evLoop body lb ann n ⟨s,h'⟩=some (y,⟨s1,h1'⟩)∧Fill i x h1 h1'
  | 0,_,_,_,_,_,_,e,_=>by cases e
  | n+1,s,s1,h,h1,h',y,e,g=>by
    unfold evLoop at e ⊢
    cases hh:headOf ann lb ⟨s,h⟩ with
    | none=>rw [hh] at e;cases e
    | some st2=>
      obtain ⟨s2,h2⟩:=st2
      rw [hh] at e
      obtain ⟨h2',e2,g2⟩:=headOf_fill hx hlb hh g
      rw [e2]
      simp only at e ⊢
      cases hq:body ⟨s2,h2⟩ with
      | none=>rw [hq] at e;cases e
      | some z=>
        obtain ⟨y2,s3,h3⟩:=z
        rw [hq] at e
        obtain ⟨h3',e3,g3⟩:=hb hq g2
        rw [e3]
        cases y2 with
        | normal=>exact evLoop_fill hx hb hlb e g3
        | exit j=>cases e;exact ⟨h3',rfl,g3⟩
        | ret=>cases e;exact ⟨h3',rfl,g3⟩
theorem reify_keep : ∀{l:List (Nat × Option Nat × Nat)} {s:List V} {h:List Obj},(∀j o f,getS s j = .c (.ptr o f)→getS (reify l ⟨s,h⟩).slots j = .c (.ptr o f))∧(∀o,o<h.length→getH h o = .none→getH (reify l ⟨s,h⟩).heap o = .none)∧h.length≤(reify l ⟨s,h⟩).heap.length
  | [],s,h=>⟨fun _ _ _ h=>h,fun _ _ h=>h,Nat.le_refl _⟩
  | (k,none,sz)::l,s,h=>by
    unfold reify
    split
    · rename_i hk
      obtain ⟨a,b,c⟩:=reify_keep (l:=l) (s:=setS s k (.c (.sl h.length 0 0 0))) (h:=h++[.arr false 0 sz []])
      refine ⟨fun j o f hj=>a j o f ?_,fun o ho hn=>b o (by simp;omega) ?_,?_⟩
      · rw [getS_setS,if_neg];exact hj
        rintro ⟨rfl,_⟩
        simp only at hk
        rw [hj] at hk;cases hk
      · rw [getH_append_left _ _ _ ho];exact hn
      · simp at c;simp only;omega
    · exact reify_keep
  | (k,some off,sz)::l,s,h=>by
    unfold reify
    split
    · rename_i o f hk
      split
      · rename_i cs hg
        split
        · obtain ⟨a,b,c⟩:=reify_keep (l:=l) (s:=s) (h:=setH h o (.cells (setNth cs off (.sl h.length 0 0 0)))++[.arr false 0 sz []])
          refine ⟨fun j o f hj=>a j o f hj,fun o2 ho hn=>b o2 (by simp [setH_len];omega) ?_,?_⟩
          · rw [getH_append_left _ _ _ (by rw [setH_len];exact ho),getH_setH,if_neg];exact hn
            rintro ⟨rfl,_⟩
            simp only at hg
            rw [hn] at hg;cases hg
          · simp [setH_len] at c;simp only;omega
        · exact reify_keep
      · exact reify_keep
    · exact reify_keep
theorem reifyOk_ne : ∀{l:List (Nat × Option Nat × Nat)} {s:List V} {h:List Obj},reifyOk l s h=true→getH h i = .none→∀k off sz,(k,some off,sz)∈l→∀f,getS s k ≠ .c (.ptr i f)
  | [],_,_,_,_,_,_,_,hm,_=>by cases hm
  | (j,none,_)::l,s,h,e,hn,k,off,sz,hm,f=>by
    simp only [reifyOk] at e
    rcases List.mem_cons.1 hm with hm | hm
    · cases hm
    · exact reifyOk_ne e hn k off sz hm f
  | (j,some _,_)::l,s,h,e,hn,k,off,sz,hm,f=>by
    simp only [reifyOk,Bool.and_eq_true] at e
    rcases List.mem_cons.1 hm with hm | hm
    · cases hm
      intro hs
      have e1:=e.1
      rw [hs] at e1
      simp only [hn] at e1
      cases e1
    · exact reifyOk_ne e.2 hn k off sz hm f
theorem reify_a {k sz:Nat} {l:List (Nat × Option Nat × Nat)} {s:List V} {h:List Obj} (hk:getS s k = .c .nils):reify ((k,none,sz)::l) ⟨s,h⟩=reify l ⟨setS s k (.c (.sl h.length 0 0 0)),h++[.arr false 0 sz []]⟩:=by
  rw [reify];simp only [hk]
theorem reify_b {k sz:Nat} {l:List (Nat × Option Nat × Nat)} {s:List V} {h:List Obj} (hk:getS s k ≠ .c .nils):reify ((k,none,sz)::l) ⟨s,h⟩=reify l ⟨s,h⟩:=by
  rw [reify]
  simp only
theorem reify_c {k off sz o f:Nat} {cs:List C} {l:List (Nat × Option Nat × Nat)} {s:List V} {h:List Obj} (hk:getS s k = .c (.ptr o f)) (hg:getH h o = .cells cs) (hn:nth cs off=some .nils) :
    reify ((k,some off,sz)::l) ⟨s,h⟩=reify l ⟨s,setH h o (.cells (setNth cs off (.sl h.length 0 0 0)))++[.arr false 0 sz []]⟩:=by
  rw [reify];simp only [hk,hg,hn]
theorem reify_d {k off sz:Nat} {l:List (Nat × Option Nat × Nat)} {s:List V} {h:List Obj} (hk:∀o f cs,getS s k = .c (.ptr o f)→getH h o = .cells cs→nth cs off≠some .nils):reify ((k,some off,sz)::l) ⟨s,h⟩=reify l ⟨s,h⟩:=by
  rw [reify]
  simp only
  split
  · rename_i o f h1
    split
    · rename_i cs h2
      split
      · rename_i h3;exact absurd h3 (hk o f cs h1 h2)
      · rfl
    · rfl
  · rfl
theorem reify_fill : ∀{l:List (Nat × Option Nat × Nat)} {s:List V} {h h':List Obj},Fill i x h h'→(∀k off sz,(k,some off,sz)∈l→∀f,getS s k ≠ .c (.ptr i f))→∃h1',reify l ⟨s,h'⟩=⟨(reify l ⟨s,h⟩).slots,h1'⟩∧Fill i x (reify l ⟨s,h⟩).heap h1'
  | [],s,h,h',g,_=>⟨h',rfl,g⟩
  | (k,none,sz)::l,s,h,h',g,hn=>by
    by_cases hk:getS s k = .c .nils
    · rw [reify_a hk,reify_a hk,g.len]
      refine reify_fill (g.app _) fun k2 off sz2 hm f hs=>?_
      rw [getS_setS] at hs
      split at hs
      · cases hs
      · exact hn k2 off sz2 (List.mem_cons_of_mem _ hm) f hs
    · rw [reify_b hk,reify_b hk]
      exact reify_fill g fun k2 off sz2 hm=>hn k2 off sz2 (List.mem_cons_of_mem _ hm)
  | (k,some off,sz)::l,s,h,h',g,hn=>by
    have hn2:∀k2 off sz2,(k2,some off,sz2)∈l→∀f,getS s k2 ≠ .c (.ptr i f):=fun k2 off sz2 hm=>hn k2 off sz2 (List.mem_cons_of_mem _ hm)
    have ho:∀o f,getS s k = .c (.ptr o f)→o≠i:=fun o f hs e=>hn k off sz (List.mem_cons_self ..) f (by rw [←e];exact hs)
    by_cases hq:∃o f cs,getS s k = .c (.ptr o f)∧getH h o = .cells cs∧nth cs off=some .nils
    · obtain ⟨o,f,cs,q1,q2,q3⟩:=hq
      rw [reify_c q1 q2 q3,reify_c q1 (by rw [g.ne (ho o f q1)];exact q2) q3,g.len]
      exact reify_fill ((g.set (ho o f q1)).app _) hn2
    · rw [reify_d fun o f cs q1 q2 q3=>hq ⟨o,f,cs,q1,q2,q3⟩,reify_d fun o f cs q1 q2 q3=>hq ⟨o,f,cs,q1,by rw [←g.ne (ho o f q1)];exact q2,q3⟩]
      exact reify_fill g hn2
theorem frzD_fill {c:C} {d:D} {h h1 h':List Obj} (e:frzD h c=some (d,h1)) (g:Fill i x h h'):∃h1',frzD h' c=some (d,h1')∧Fill i x h1 h1':=by
  unfold frzD at e ⊢
  split at e
  · cases e;exact ⟨h',rfl,g⟩
  · cases e;exact ⟨h',rfl,g⟩
  · cases e;exact ⟨h',rfl,g⟩
  · cases e;exact ⟨h',rfl,g⟩
  · rename_i o ver off len
    split at e
    · rename_i fz ver' sz rows ho
      have hne:o≠i:=fun e2=>by rw [e2,g.no] at ho;cases ho
      simp only [g.ne hne,ho]
      split at e
      · rename_i hv
        cases hp:part off len rows with
        | none=>rw [hp] at e;cases e
        | some r=>
          rw [hp] at e
          cases e
          rw [if_pos hv]
          exact ⟨_,rfl,g.set hne⟩
      · cases e
    · cases e
  · cases e
theorem frzDs_fill : ∀{cs:List C} {ds:List (List D)} {h h1 h':List Obj},frzDs h cs=some (ds,h1)→Fill i x h h'→∃h1',frzDs h' cs=some (ds,h1')∧Fill i x h1 h1'
  | [],ds,h,h1,h',e,g=>by cases e;exact ⟨h',rfl,g⟩
  | c::cs,ds,h,h1,h',e,g=>by
    unfold frzDs at e ⊢
    cases hc:frzD h c with
    | none=>rw [hc] at e;cases e
    | some z=>
      obtain ⟨c2,h2⟩:=z
      rw [hc] at e
      obtain ⟨h2',e2,g2⟩:=frzD_fill hc g
      rw [e2]
      simp only at e ⊢
      cases hs:frzDs h2 cs with
      | none=>rw [hs] at e;cases e
      | some z=>
        obtain ⟨cs2,h3⟩:=z
        rw [hs] at e
        obtain ⟨h3',e3,g3⟩:=frzDs_fill hs g2
        rw [e3]
        cases e
        exact ⟨_,rfl,g3⟩
theorem frzC_fill {c c':C} {h h1 h':List Obj} (e:frzC h c=some (c',h1)) (g:Fill i x h h'):∃h1',frzC h' c=some (c',h1')∧Fill i x h1 h1':=by
  unfold frzC at e ⊢
  split at e
  · rename_i o ver off len
    split at e
    · rename_i fz ver' sz rows ho
      have hne:o≠i:=fun e2=>by rw [e2,g.no] at ho;cases ho
      simp only [g.ne hne,ho]
      split at e
      · rename_i hv
        cases hp:part off len rows with
        | none=>rw [hp] at e;cases e
        | some r=>
          rw [hp] at e
          cases e
          rw [if_pos hv]
          exact ⟨_,rfl,g.set hne⟩
      · cases e
    · cases e
  · rename_i cs
    cases hd:frzDs h cs with
    | none=>rw [hd] at e;cases e
    | some q=>
      obtain ⟨ds,h2⟩:=q
      rw [hd] at e
      cases e
      obtain ⟨h2',e2,g2⟩:=frzDs_fill hd g
      simp only [e2]
      exact ⟨h2',rfl,g2⟩
  · rename_i o off len
    split at e
    · rename_i cs ho
      have hne:o≠i:=fun e2=>by rw [e2,g.no] at ho;cases ho
      simp only [g.ne hne,ho]
      split at e
      · rename_i hv
        cases hd:frzDs h cs with
        | none=>rw [hd] at e;cases e
        | some q=>
          obtain ⟨ds,h2⟩:=q
          rw [hd] at e
          cases e
          obtain ⟨h2',e2,g2⟩:=frzDs_fill hd g
          rw [if_pos hv,e2]
          exact ⟨_,rfl,g2.set hne⟩
      · cases e
    · cases e
  · rename_i n1 n2 n3
    cases e
    exact ⟨h',rfl,g⟩
theorem frzCs_fill : ∀{cs cs':List C} {h h1 h':List Obj},frzCs h cs=some (cs',h1)→Fill i x h h'→∃h1',frzCs h' cs=some (cs',h1')∧Fill i x h1 h1'
  | [],cs',h,h1,h',e,g=>by cases e;exact ⟨h',rfl,g⟩
  | c::cs,cs',h,h1,h',e,g=>by
    unfold frzCs at e ⊢
    cases hc:frzC h c with
    | none=>rw [hc] at e;cases e
    | some z=>
      obtain ⟨c2,h2⟩:=z
      rw [hc] at e
      obtain ⟨h2',e2,g2⟩:=frzC_fill hc g
      rw [e2]
      simp only at e ⊢
      cases hs:frzCs h2 cs with
      | none=>rw [hs] at e;cases e
      | some z=>
        obtain ⟨cs2,h3⟩:=z
        rw [hs] at e
        obtain ⟨h3',e3,g3⟩:=frzCs_fill hs g2
        rw [e3]
        cases e
        exact ⟨_,rfl,g3⟩
theorem frzS_fill : ∀{l:List Nat} {s:List V} {h h1 h':List Obj},frzS l s h=some h1→Fill i x h h'→∃h1',frzS l s h'=some h1'∧Fill i x h1 h1'
  | [],s,h,h1,h',e,g=>by cases e;exact ⟨h',rfl,g⟩
  | k::l,s,h,h1,h',e,g=>by
    unfold frzS at e ⊢
    split at e
    · rename_i o off hs
      split at e
      · rename_i cs ho
        have hne:o≠i:=fun e2=>by rw [e2,g.no] at ho;cases ho
        simp only [g.ne hne,ho]
        cases hc:frzCs h cs with
        | none=>rw [hc] at e;cases e
        | some z=>
          obtain ⟨cs2,h2⟩:=z
          rw [hc] at e
          obtain ⟨h2',e2,g2⟩:=frzCs_fill hc g
          rw [e2]
          simp only at e ⊢
          rw [g2.ne hne]
          split at e
          · exact frzS_fill e (g2.set hne)
          · cases e
      · cases e
    · cases e
theorem evC_fill (hx:∀b,x.under b=true) (hr:FillRec r i x) {n:Nat}:∀{c:ACode} {s s1:List V} {h h1 h':List Obj} {y:X},evC r n c ⟨s,h⟩=some (y,⟨s1,h1⟩)→Fill i x h h'→∃h1',evC r n c ⟨s,h'⟩=some (y,⟨s1,h1'⟩)∧Fill i x h1 h1':=by
  intro c
  induction c with
  | skip=>intro s s1 h h1 h' y e g;cases e;exact ⟨h',rfl,g⟩
  | frz l=>
    intro s s1 h h1 h' y e g
    unfold evC at e ⊢
    cases hf:frzS l s h with
    | none=>simp only [hf] at e;cases e
    | some h2=>
      simp only [hf] at e
      obtain ⟨h2',e2,g2⟩:=frzS_fill hf g
      cases e
      exact ⟨h2',by simp only [e2];rfl,g2⟩
  | exit j=>intro s s1 h h1 h' y e g;cases e;exact ⟨h',rfl,g⟩
  | ret=>intro s s1 h h1 h' y e g;cases e;exact ⟨h',rfl,g⟩
  | region news pairs ops=>
    intro s s1 h h1 h' y e g
    unfold evC at e ⊢
    simp only [g.len]
    cases ho:evOs r h.length 0 ops ⟨s,h++List.replicate news .none⟩ [] with
    | none=>rw [ho] at e;cases e
    | some z=>
      obtain ⟨⟨s2,h2⟩,fs⟩:=z
      rw [ho] at e
      obtain ⟨h2',e2,g2⟩:=evOs_fill hr g.lt ho (g.app _)
      rw [e2]
      simp only at e ⊢
      split at e
      · rename_i hp
        rw [if_pos hp];cases e;exact ⟨h2',rfl,g2⟩
      · cases e
  | seq a b iha ihb=>
    intro s s1 h h1 h' y e g
    unfold evC at e ⊢
    cases ha:evC r n a ⟨s,h⟩ with
    | none=>rw [ha] at e;cases e
    | some z=>
      obtain ⟨y2,s2,h2⟩:=z
      rw [ha] at e
      obtain ⟨h2',e2,g2⟩:=iha ha g
      rw [e2]
      cases y2 with
      | normal=>exact ihb e g2
      | exit j=>cases e;exact ⟨h2',rfl,g2⟩
      | ret=>cases e;exact ⟨h2',rfl,g2⟩
  | cond t a b iha ihb=>
    intro s s1 h h1 h' y e g
    unfold evC at e ⊢
    simp only at e ⊢
    split at e
    · exact iha e g
    · exact ihb e g
    · cases e
  | block id b ih=>
    intro s s1 h h1 h' y e g
    unfold evC at e ⊢
    cases hb:evC r n b ⟨s,h⟩ with
    | none=>rw [hb] at e;cases e
    | some z=>
      obtain ⟨y2,s2,h2⟩:=z
      rw [hb] at e
      obtain ⟨h2',e2,g2⟩:=ih hb g
      rw [e2]
      cases y2 with
      | normal=>cases e;exact ⟨h2',rfl,g2⟩
      | ret=>cases e;exact ⟨h2',rfl,g2⟩
      | exit j=>
        simp only at e ⊢
        split at e
        · rename_i hq;rw [if_pos hq];cases e;exact ⟨h2',rfl,g2⟩
        · rename_i hq;rw [if_neg hq];cases e;exact ⟨h2',rfl,g2⟩
  | loop ann b ih=>
    intro s s1 h h1 h' y e g
    unfold evC at e ⊢
    simp only at e ⊢
    obtain ⟨k1,k2,k3⟩:=reify_keep (l:=ann.reify) (s:=s) (h:=h)
    have hok:reifyOk ann.reify (reify ann.reify ⟨s,h⟩).slots (reify ann.reify ⟨s,h⟩).heap=true:=by
      cases n with
      | zero=>cases e
      | succ n=>
        unfold evLoop at e
        cases hh:headOf ann (reify ann.reify ⟨s,h⟩).heap.length (reify ann.reify ⟨s,h⟩) with
        | none=>rw [hh] at e;cases e
        | some _=>
          unfold headOf at hh
          split at hh
          · assumption
          · cases hh
    have hlt:=g.lt
    obtain ⟨h2',e2,g2⟩:=reify_fill (l:=ann.reify) (s:=s) g fun k off sz hm f hs=>reifyOk_ne hok (k2 i hlt g.no) k off sz hm f (k1 k i f hs)
    rw [e2]
    simp only [g2.len]
    exact evLoop_fill hx ih (by omega) e g2
  | range f ps a b iha ihb=>
    intro s s1 h h1 h' y e g
    unfold evC at e ⊢
    simp only [g.len] at e ⊢
    have hlt:=g.lt
    cases hc:callV r (f.ev s) [.c (.yld h.length)] (h++[.loop ⟨.ready,.normal,s,ps,a,b⟩]) with
    | none=>rw [hc] at e;cases e
    | some z=>
      obtain ⟨v,h2⟩:=z
      rw [hc] at e
      obtain ⟨h2',e2,g2⟩:=callV_fill hr hc (g.app _)
      rw [e2]
      simp only at e ⊢
      rw [g2.ne (by omega:h.length≠i)]
      cases hg:getH h2 h.length with
      | loop l=>
        rw [hg] at e
        simp only at e ⊢
        cases hs:l.state<;>rw [hs] at e<;>simp only at e ⊢<;>cases e<;>exact ⟨_,rfl,g2.set (by omega)⟩
      | none=>rw [hg] at e;cases e
      | cells _=>rw [hg] at e;cases e
      | arr _ _ _ _=>rw [hg] at e;cases e
      | map _ _ _ _=>rw [hg] at e;cases e
theorem resV_ex {s:List V} {h h':List Obj} (g:Ex h h'):∀{rs:List RVar} {vs:List V},resV ⟨s,h⟩ rs=some vs→resV ⟨s,h'⟩ rs=some vs
  | [],_,e=>e
  | .tmp t::rs,vs,e=>by
    simp only [resV] at e ⊢
    cases hr:resV ⟨s,h⟩ rs with
    | none=>rw [hr] at e;cases e
    | some ws=>rw [resV_ex g hr];rw [hr] at e;exact e
  | .cell t n::rs,vs,e=>by
    simp only [resV] at e ⊢
    split at e
    · rename_i c hc
      cases hl:loadC h (num n) c with
      | none=>rw [hl] at e;simp only [Option.bind_none] at e;cases e
      | some cs=>
        rw [g.loadC hl];rw [hl] at e
        cases hr:resV ⟨s,h⟩ rs with
        | none=>rw [hr] at e;split at e<;>first | (rename_i h2;cases h2;done) | (cases e;done)
        | some ws=>rw [resV_ex g hr];rw [hr] at e;exact e
    · cases e
theorem evBody_fill {G:Nat→Option AFunc} (hx:∀b,x.under b=true) (hr:FillRec r i x) {n:Nat}:FillRec (evBody G r n) i x:=by
  constructor
  · intro k args h v h1 h' e g
    unfold evBody at e ⊢
    simp only at e ⊢
    cases hg:G k with
    | none=>rw [hg] at e;cases e
    | some fn=>
      rw [hg] at e
      simp only at e ⊢
      cases hc:evC r n fn.code ⟨frameOf fn args,h⟩ with
      | none=>rw [hc] at e;cases e
      | some z=>
        obtain ⟨y,s2,h2⟩:=z
        rw [hc] at e
        obtain ⟨h2',e2,g2⟩:=evC_fill hx hr hc g
        rw [e2]
        have key:∀{w:Option (V × List Obj)},(match resV ⟨s2,h2⟩ fn.res with
            | some vs=>match fn.drop with
              | true=>match trunc h.length vs h2 with
                | some h'=>some (resOf vs,h')
                | none=>none
              | false=>some (resOf vs,h2)
            | none=>none)=some (v,h1)→∃h1',(match resV ⟨s2,h2'⟩ fn.res with
            | some vs=>match fn.drop with
              | true=>match trunc h'.length vs h2' with
                | some h'=>some (resOf vs,h')
                | none=>none
              | false=>some (resOf vs,h2')
            | none=>none)=some (v,h1')∧Fill i x h1 h1':=by
          intro w e
          cases hv:resV ⟨s2,h2⟩ fn.res with
          | none=>rw [hv] at e;cases e
          | some vs=>
            rw [hv] at e
            rw [resV_ex g2.ex hv]
            simp only at e ⊢
            cases hd:fn.drop with
            | true=>
              rw [hd] at e
              simp only at e ⊢
              cases ht:trunc h.length vs h2 with
              | none=>rw [ht] at e;cases e
              | some h3=>
                rw [ht] at e;cases e
                obtain ⟨h3',e3,g3⟩:=g2.trunc hx g.lt ht
                rw [g.len,e3]
                exact ⟨h3',rfl,g3⟩
            | false=>
              rw [hd] at e;cases e
              exact ⟨h2',rfl,g2⟩
        cases y with
        | exit j=>cases e
        | normal=>exact key (w:=none) e
        | ret=>exact key (w:=none) e
  · intro o args h v h1 h' e g
    unfold evBody at e ⊢
    simp only at e ⊢
    cases hg:getH h o with
    | loop l=>
      have ho:o≠i:=fun e=>by rw [e,g.no] at hg;cases hg
      rw [hg] at e
      rw [g.ne ho,hg]
      simp only at e ⊢
      split at e
      · rename_i hb
        rw [if_pos hb]
        cases hc:evC r n l.assign ⟨setParams l.params args l.slots,h⟩ with
        | none=>rw [hc] at e;cases e
        | some z=>
          obtain ⟨y,s2,h2⟩:=z
          rw [hc] at e
          obtain ⟨h2',e2,g2⟩:=evC_fill hx hr hc g
          rw [e2]
          cases y with
          | exit j=>cases e
          | ret=>cases e
          | normal=>
            simp only at e ⊢
            rw [g2.ne ho]
            cases hg2:getH h2 o with
            | loop l1=>
              rw [hg2] at e
              simp only at e ⊢
              cases hs:l1.state with
              | ready=>
                rw [hs] at e
                simp only at e ⊢
                cases hc2:evC r n l.body ⟨s2,setH h2 o (.loop { l1 with state:=.busy })⟩ with
                | none=>rw [hc2] at e;cases e
                | some z2=>
                  obtain ⟨y2,s3,h3⟩:=z2
                  rw [hc2] at e
                  obtain ⟨h3',e3,g3⟩:=evC_fill hx hr hc2 (g2.set ho)
                  rw [e3]
                  simp only at e ⊢
                  rw [g3.ne ho]
                  cases hg3:getH h3 o with
                  | loop l2=>
                    rw [hg3] at e
                    simp only at e ⊢
                    cases y2<;>simp only at e ⊢<;>cases e<;>exact ⟨_,rfl,g3.set ho⟩
                  | none=>rw [hg3] at e;cases e
                  | cells _=>rw [hg3] at e;cases e
                  | arr _ _ _ _=>rw [hg3] at e;cases e
                  | map _ _ _ _=>rw [hg3] at e;cases e
              | busy=>rw [hs] at e;cases e
              | done=>rw [hs] at e;cases e
              | exhausted=>rw [hs] at e;cases e
            | none=>rw [hg2] at e;cases e
            | cells _=>rw [hg2] at e;cases e
            | arr _ _ _ _=>rw [hg2] at e;cases e
            | map _ _ _ _=>rw [hg2] at e;cases e
      · cases e
    | none=>rw [hg] at e;cases e
    | cells _=>rw [hg] at e;cases e
    | arr _ _ _ _=>rw [hg] at e;cases e
    | map _ _ _ _=>rw [hg] at e;cases e
end
theorem ev_fill (G:Nat→Option AFunc) {i:Nat} {x:Obj} (hx:∀b,x.under b=true):∀n,FillRec (ev G n) i x
  | 0=>⟨(by intro k args h v h1 h' e;cases e),(by intro o args h v h1 h' e;cases e)⟩
  | n+1=>evBody_fill hx (ev_fill G hx n)
end Am
namespace Am
open Go
set_option linter.unusedVariables false
set_option linter.unusedSimpArgs false
def Stays (h h1:List Obj):Prop:=h.length≤h1.length∧∀o,getH h o ≠ .none→getH h1 o ≠ .none
theorem Stays.refl {h:List Obj}:Stays h h:=⟨Nat.le_refl _,fun _ h=>h⟩
theorem Stays.trans {a b c:List Obj} (h:Stays a b) (h':Stays b c):Stays a c:=⟨Nat.le_trans h.1 h'.1,fun o ho=>h'.2 o (h.2 o ho)⟩
theorem Stays.app {h l:List Obj}:Stays h (h++l):=⟨by simp,fun o ho=>by
  have:o<h.length:=by
    rcases Nat.lt_or_ge o h.length with hl | hl
    · exact hl
    · exact (ho (getH_none hl)).elim
  rw [getH_append_left _ _ _ this];exact ho⟩
theorem Stays.set {h:List Obj} {o:Nat} {y:Obj} (hy:y ≠ .none):Stays h (setH h o y):=⟨by rw [setH_len];exact Nat.le_refl _,fun p hp=>by
  rw [getH_setH]
  split
  · exact hy
  · exact hp⟩
theorem Stays.applyW {w:Wr}:∀{h:List Obj},(∀p∈w,p.2 ≠ .none)→Stays h (applyW h w):=by
  induction w with
  | nil=>intro h _;exact .refl
  | cons p w ih=>
    intro h hw
    exact (Stays.set (hw p (List.mem_cons_self ..))).trans (ih fun q hq=>hw q (List.mem_cons_of_mem _ hq))
theorem Stays.take {h h1:List Obj} (g:Stays h h1) {n:Nat} (hn:h.length≤n):Stays h (h1.take n):=by
  refine ⟨by have:=g.1;simp;omega,fun o ho=>?_⟩
  have:o<h.length:=by
    rcases Nat.lt_or_ge o h.length with hl | hl
    · exact hl
    · exact (ho (getH_none hl)).elim
  rw [getH_take,if_pos (by omega)];exact g.2 o ho
theorem Stays.trunc {h h1 r:List Obj} (g:Stays h h1) {n:Nat} (hn:h.length≤n) {vs:List V} (e:trunc n vs h1=some r):Stays h r:=by
  unfold Am.trunc at e
  split at e
  · cases e;exact g.take hn
  · cases e
structure StayRec (r:Rec):Prop where
  f:∀{k args h v h1},r (.f k args h)=some (v,h1)→Stays h h1
  y:∀{o args h v h1},r (.y o args h)=some (v,h1)→Stays h h1
section
variable {r:Rec}
theorem callV_stays (hr:StayRec r) {f:V} {args:List V} {h h1:List Obj} {v:V} (e:callV r f args h=some (v,h1)):Stays h h1:=by
  unfold callV at e
  split at e
  · exact hr.f e
  · exact hr.y e
  · cases e
theorem evO_stays (hr:StayRec r) {rb:Nat} {o:AOper} {st st1:St} {f:Foot} (e:evO r rb o st=some (st1,f)):Stays st.heap st1.heap:=by
  obtain ⟨s,h⟩:=st
  obtain ⟨dst,op,guard,rid⟩:=o
  cases hw:wantedA s guard with
  | none=>simp only [evO,hw] at e;cases e
  | some b=>
    cases b with
    | false=>simp only [evO,hw] at e;cases e;exact .refl
    | true=>
      by_cases hcall:op.isCall=false
      · rw [evO_eq hcall] at e
        simp only [evO0,hw] at e
        cases ho:opEv (rb+rid) s h op with
        | none=>rw [ho] at e;cases e
        | some z=>
          obtain ⟨v,wr⟩:=z
          rw [ho] at e
          cases e
          exact Stays.applyW fun p hp=>(opEv_wr ho p hp).2
      · cases op<;>try (exact (hcall rfl).elim)
        case call k p args=>
          cases p with
          | true=>
            simp only [evO,hw] at e
            cases ha:toArgs h (args.map (·.ev s)) with
            | none=>rw [ha] at e;cases e
            | some as=>
              rw [ha] at e
              simp only at e
              cases hq:r (.p k as) with
              | none=>rw [hq] at e;cases e
              | some z=>rw [hq] at e;cases e;exact .refl
          | false=>
            simp only [evO,hw] at e
            cases hq:r (.f k (args.map (·.ev s)) h) with
            | none=>rw [hq] at e;cases e
            | some z=>rw [hq] at e;cases e;exact hr.f hq
        case callv k args=>
          simp only [evO,hw] at e
          cases hq:callV r (k.ev s) (args.map (·.ev s)) h with
          | none=>rw [hq] at e;cases e
          | some z=>rw [hq] at e;cases e;exact callV_stays hr hq
theorem evOs_stays (hr:StayRec r) {rb:Nat}:∀{os:List AOper} {j:Nat} {st st1:St} {fs fs1:List (Nat × Foot)},evOs r rb j os st fs=some (st1,fs1)→Stays st.heap st1.heap
  | [],j,st,st1,fs,fs1,e=>by cases e;exact .refl
  | o::os,j,st,st1,fs,fs1,e=>by
    unfold evOs at e
    cases ho:evO r rb o st with
    | none=>rw [ho] at e;cases e
    | some z=>
      obtain ⟨st2,f⟩:=z
      rw [ho] at e
      exact (evO_stays hr ho).trans (evOs_stays hr e)
theorem reify_stays : ∀{l:List (Nat × Option Nat × Nat)} {s:List V} {h:List Obj},Stays h (reify l ⟨s,h⟩).heap
  | [],s,h=>.refl
  | (k,none,sz)::l,s,h=>by
    by_cases hk:getS s k = .c .nils
    · rw [reify_a hk];exact Stays.app.trans reify_stays
    · rw [reify_b hk];exact reify_stays
  | (k,some off,sz)::l,s,h=>by
    by_cases hq:∃o f cs,getS s k = .c (.ptr o f)∧getH h o = .cells cs∧nth cs off=some .nils
    · obtain ⟨o,f,cs,q1,q2,q3⟩:=hq
      rw [reify_c q1 q2 q3]
      exact ((Stays.set (by simp)).trans Stays.app).trans reify_stays
    · rw [reify_d fun o f cs q1 q2 q3=>hq ⟨o,f,cs,q1,q2,q3⟩];exact reify_stays
theorem headOf_stays {ann:Ann} {h0:List Obj} {st st1:St} (e:headOf ann h0.length st=some st1) (g:Stays h0 st.heap):Stays h0 st1.heap:=by
  unfold headOf at e
  split at e
  case isFalse=>cases e
  simp only at e
  split at e
  · cases hq:trunc h0.length (killS ann.kill st.slots) st.heap with
    | none=>rw [hq] at e;cases e
    | some z=>rw [hq] at e;cases e;exact g.trunc (Nat.le_refl _) hq
  · cases e;exact g
theorem evLoop_stays {body:St→Option (X × St)} (hb:∀{st y st1},body st=some (y,st1)→Stays st.heap st1.heap) {h0:List Obj} {ann:Ann} :
    ∀{n:Nat} {st st1:St} {y:X},evLoop body h0.length ann n st=some (y,st1)→Stays h0 st.heap→Stays h0 st1.heap
  | 0,_,_,_,e,_=>by cases e
  | n+1,st,st1,y,e,g=>by
    unfold evLoop at e
    cases hh:headOf ann h0.length st with
    | none=>rw [hh] at e;cases e
    | some st2=>
      rw [hh] at e
      have g2:=headOf_stays hh g
      simp only at e
      cases hq:body st2 with
      | none=>rw [hq] at e;cases e
      | some z=>
        obtain ⟨y2,st3⟩:=z
        rw [hq] at e
        have g3:=g2.trans (hb hq)
        cases y2 with
        | normal=>exact evLoop_stays hb e g3
        | exit j=>cases e;exact g3
        | ret=>cases e;exact g3
theorem frzD_stays {c:C} {d:D} {h h1:List Obj} (e:frzD h c=some (d,h1)):Stays h h1:=by
  unfold frzD at e
  split at e
  · cases e;exact .refl
  · cases e;exact .refl
  · cases e;exact .refl
  · cases e;exact .refl
  · split at e
    · split at e
      · cases hp:part _ _ _ with
        | none=>rw [hp] at e;cases e
        | some r=>rw [hp] at e;cases e;exact Stays.set (by simp)
      · cases e
    · cases e
  · cases e
theorem frzDs_stays : ∀{cs:List C} {ds:List (List D)} {h h1:List Obj},frzDs h cs=some (ds,h1)→Stays h h1
  | [],ds,h,h1,e=>by cases e;exact .refl
  | c::cs,ds,h,h1,e=>by
    unfold frzDs at e
    cases hc:frzD h c with
    | none=>rw [hc] at e;cases e
    | some z=>
      obtain ⟨c2,h2⟩:=z
      rw [hc] at e
      simp only at e
      cases hs:frzDs h2 cs with
      | none=>rw [hs] at e;cases e
      | some z=>
        obtain ⟨cs2,h3⟩:=z
        rw [hs] at e
        cases e
        exact (frzD_stays hc).trans (frzDs_stays hs)
theorem frzCs_stays : ∀{cs cs':List C} {h h1:List Obj},frzCs h cs=some (cs',h1)→Stays h h1
  | [],cs',h,h1,e=>by cases e;exact .refl
  | c::cs,cs',h,h1,e=>by
    unfold frzCs at e
    cases hc:frzC h c with
    | none=>rw [hc] at e;cases e
    | some z=>
      obtain ⟨c2,h2⟩:=z
      rw [hc] at e
      simp only at e
      have g1:Stays h h2:=by
        unfold frzC at hc
        split at hc
        · split at hc
          · split at hc
            · rename_i hv
              cases hp:part _ _ _ with
              | none=>rw [hp] at hc;cases hc
              | some r=>rw [hp] at hc;cases hc;exact Stays.set (by simp)
            · cases hc
          · cases hc
        · rename_i cs'
          cases hd:frzDs h cs' with
          | none=>rw [hd] at hc;cases hc
          | some q=>rw [hd] at hc;cases hc;exact frzDs_stays hd
        · split at hc
          · rename_i cs' _
            split at hc
            · cases hd:frzDs h cs' with
              | none=>rw [hd] at hc;cases hc
              | some q=>rw [hd] at hc;cases hc;exact (frzDs_stays hd).trans (Stays.set (by simp [gone]))
            · cases hc
          · cases hc
        · cases hc;exact .refl
      cases hs:frzCs h2 cs with
      | none=>rw [hs] at e;cases e
      | some z=>
        obtain ⟨cs2,h3⟩:=z
        rw [hs] at e
        cases e
        exact g1.trans (frzCs_stays hs)
theorem frzS_stays : ∀{l:List Nat} {s:List V} {h h1:List Obj},frzS l s h=some h1→Stays h h1
  | [],s,h,h1,e=>by cases e;exact .refl
  | k::l,s,h,h1,e=>by
    unfold frzS at e
    split at e
    · split at e
      · split at e
        · rename_i cs2 h2 hc
          split at e
          · exact (frzCs_stays hc).trans ((Stays.set (by simp)).trans (frzS_stays e))
          · cases e
        · cases e
      · cases e
    · cases e
theorem evC_stays (hr:StayRec r) {n:Nat}:∀{c:ACode} {st st1:St} {y:X},evC r n c st=some (y,st1)→Stays st.heap st1.heap:=by
  intro c
  induction c with
  | skip=>intro st st1 y e;cases e;exact .refl
  | frz l=>
    intro st st1 y e
    unfold evC at e
    cases hf:frzS l st.slots st.heap with
    | none=>rw [hf] at e;cases e
    | some h2=>rw [hf] at e;cases e;exact frzS_stays hf
  | exit j=>intro st st1 y e;cases e;exact .refl
  | ret=>intro st st1 y e;cases e;exact .refl
  | region news pairs ops=>
    intro st st1 y e
    unfold evC at e
    cases ho:evOs r st.heap.length 0 ops ⟨st.slots,st.heap++List.replicate news .none⟩ [] with
    | none=>rw [ho] at e;cases e
    | some z=>
      obtain ⟨st2,fs⟩:=z
      rw [ho] at e
      simp only at e
      split at e
      · cases e;exact Stays.app.trans (evOs_stays hr ho)
      · cases e
  | seq a b iha ihb=>
    intro st st1 y e
    unfold evC at e
    cases ha:evC r n a st with
    | none=>rw [ha] at e;cases e
    | some z=>
      obtain ⟨y2,st2⟩:=z
      rw [ha] at e
      cases y2 with
      | normal=>exact (iha ha).trans (ihb e)
      | exit j=>cases e;exact iha ha
      | ret=>cases e;exact iha ha
  | cond t a b iha ihb=>
    intro st st1 y e
    unfold evC at e
    split at e
    · exact iha e
    · exact ihb e
    · cases e
  | block id b ih=>
    intro st st1 y e
    unfold evC at e
    cases hb:evC r n b st with
    | none=>rw [hb] at e;cases e
    | some z=>
      obtain ⟨y2,st2⟩:=z
      rw [hb] at e
      cases y2 with
      | normal=>cases e;exact ih hb
      | ret=>cases e;exact ih hb
      | exit j=>
        simp only at e
        split at e
        · cases e;exact ih hb
        · cases e;exact ih hb
  | loop ann b ih=>
    intro st st1 y e
    unfold evC at e
    exact reify_stays.trans (evLoop_stays ih e .refl)
  | range f ps a b iha ihb=>
    intro st st1 y e
    unfold evC at e
    cases hc:callV r (f.ev st.slots) [.c (.yld st.heap.length)] (st.heap++[.loop ⟨.ready,.normal,st.slots,ps,a,b⟩]) with
    | none=>rw [hc] at e;cases e
    | some z=>
      obtain ⟨v,h2⟩:=z
      rw [hc] at e
      have g:=Stays.app.trans (callV_stays hr hc)
      simp only at e
      cases hg:getH h2 st.heap.length with
      | loop l=>
        rw [hg] at e
        simp only at e
        cases hs:l.state<;>rw [hs] at e<;>simp only at e<;>cases e<;>exact g.trans (Stays.set (by simp))
      | none=>rw [hg] at e;cases e
      | cells _=>rw [hg] at e;cases e
      | arr _ _ _ _=>rw [hg] at e;cases e
      | map _ _ _ _=>rw [hg] at e;cases e
theorem evBody_stays {G:Nat→Option AFunc} (hr:StayRec r) {n:Nat}:StayRec (evBody G r n):=by
  constructor
  · intro k args h v h1 e
    unfold evBody at e
    simp only at e
    cases hg:G k with
    | none=>rw [hg] at e;cases e
    | some fn=>
      rw [hg] at e
      simp only at e
      cases hc:evC r n fn.code ⟨frameOf fn args,h⟩ with
      | none=>rw [hc] at e;cases e
      | some z=>
        obtain ⟨y,s2,h2⟩:=z
        rw [hc] at e
        have g:Stays h h2:=evC_stays hr hc
        have key:(match resV ⟨s2,h2⟩ fn.res with
            | some vs=>match fn.drop with
              | true=>match trunc h.length vs h2 with
                | some h'=>some (resOf vs,h')
                | none=>none
              | false=>some (resOf vs,h2)
            | none=>none)=some (v,h1)→Stays h h1:=by
          intro e
          cases hv:resV ⟨s2,h2⟩ fn.res with
          | none=>rw [hv] at e;cases e
          | some vs=>
            rw [hv] at e
            simp only at e
            cases hd:fn.drop with
            | true=>
              rw [hd] at e
              simp only at e
              cases ht:trunc h.length vs h2 with
              | none=>rw [ht] at e;cases e
              | some h3=>rw [ht] at e;cases e;exact g.trunc (Nat.le_refl _) ht
            | false=>rw [hd] at e;cases e;exact g
        cases y with
        | exit j=>cases e
        | normal=>exact key e
        | ret=>exact key e
  · intro o args h v h1 e
    unfold evBody at e
    simp only at e
    cases hg:getH h o with
    | loop l=>
      rw [hg] at e
      simp only at e
      split at e
      · cases hc:evC r n l.assign ⟨setParams l.params args l.slots,h⟩ with
        | none=>rw [hc] at e;cases e
        | some z=>
          obtain ⟨y,s2,h2⟩:=z
          rw [hc] at e
          have g:Stays h h2:=evC_stays hr hc
          cases y with
          | exit j=>cases e
          | ret=>cases e
          | normal=>
            simp only at e
            cases hg2:getH h2 o with
            | loop l1=>
              rw [hg2] at e
              simp only at e
              cases hs:l1.state with
              | ready=>
                rw [hs] at e
                simp only at e
                cases hc2:evC r n l.body ⟨s2,setH h2 o (.loop { l1 with state:=.busy })⟩ with
                | none=>rw [hc2] at e;cases e
                | some z2=>
                  obtain ⟨y2,s3,h3⟩:=z2
                  rw [hc2] at e
                  have g3:Stays (setH h2 o (.loop { l1 with state:=.busy })) h3:=evC_stays hr hc2
                  have g4:=(g.trans (Stays.set (by simp))).trans g3
                  simp only at e
                  cases hg3:getH h3 o with
                  | loop l2=>
                    rw [hg3] at e
                    simp only at e
                    cases y2<;>simp only at e<;>cases e<;>exact g4.trans (Stays.set (by simp))
                  | none=>rw [hg3] at e;cases e
                  | cells _=>rw [hg3] at e;cases e
                  | arr _ _ _ _=>rw [hg3] at e;cases e
                  | map _ _ _ _=>rw [hg3] at e;cases e
              | busy=>rw [hs] at e;cases e
              | done=>rw [hs] at e;cases e
              | exhausted=>rw [hs] at e;cases e
            | none=>rw [hg2] at e;cases e
            | cells _=>rw [hg2] at e;cases e
            | arr _ _ _ _=>rw [hg2] at e;cases e
            | map _ _ _ _=>rw [hg2] at e;cases e
      · cases e
    | none=>rw [hg] at e;cases e
    | cells _=>rw [hg] at e;cases e
    | arr _ _ _ _=>rw [hg] at e;cases e
    | map _ _ _ _=>rw [hg] at e;cases e
end
theorem ev_stays (G:Nat→Option AFunc):∀n,StayRec (ev G n)
  | 0=>⟨(by intro k args h v h1 e;cases e),(by intro o args h v h1 e;cases e)⟩
  | n+1=>evBody_stays (ev_stays G n)
structure Framed (r:Rec):Prop where
  fill:∀{i:Nat} {x:Obj},(∀b,x.under b=true)→FillRec r i x
  stay:StayRec r
theorem ev_framed (G:Nat→Option AFunc) (n:Nat):Framed (ev G n):=⟨fun hx=>ev_fill G hx n,ev_stays G n⟩
theorem const_under {z:List C} (hz:z.all constC=true):∀b,(Obj.cells z).under b=true:=by
  intro b
  show C.underL b z=true
  induction z with
  | nil=>rfl
  | cons c z ih=>
    simp only [List.all_cons,Bool.and_eq_true] at hz
    simp only [C.underL,ih hz.2,Bool.and_true]
    cases c<;>first | rfl | (cases hz.1)
theorem evO_call {r:Rec} {rb:Nat} {a:AOper} (hc:a.op.inHeap=true) (hg:a.guard=none) {s:List V} {h:List Obj} {st1:St} {f:Foot} (e:evO r rb a ⟨s,h⟩=some (st1,f)) :
    ∃v h1,st1=⟨putD s a.dst v,h1⟩∧f=⟨[],[],some (sameO h h1)⟩:=by
  obtain ⟨dst,op,guard,rid⟩:=a
  simp only at hg hc
  subst hg
  cases op<;>try (cases hc;done)
  case call k p args=>
    cases p with
    | true=>cases hc
    | false=>
      simp only [evO,wantedA] at e
      cases hq:r (.f k (args.map (·.ev s)) h) with
      | none=>rw [hq] at e;cases e
      | some z=>rw [hq] at e;cases e;exact ⟨_,_,rfl,rfl⟩
  case callv k args=>
    simp only [evO,wantedA] at e
    cases hq:callV r (k.ev s) (args.map (·.ev s)) h with
    | none=>rw [hq] at e;cases e
    | some z=>rw [hq] at e;cases e;exact ⟨_,_,rfl,rfl⟩
theorem evO_new {r:Rec} {rb:Nat} {b:AOper} {z:List C} (hb:b.op = .alloc z) (hg:b.guard=none) {s:List V} {h:List Obj}:evO r rb b ⟨s,h⟩=if isHole h (rb+b.rid)=true then some (⟨putD s b.dst (.c (.ptr (rb+b.rid) 0)),setH h (rb+b.rid) (.cells z)⟩,⟨[],[rb+b.rid],none⟩) else none:=by
  obtain ⟨dst,op,guard,rid⟩:=b
  simp only at hg hb
  subst hg;subst hb
  rw [evO_eq (show AOp.isCall (.alloc z)=false from rfl)]
  simp only [evO0,wantedA,opEv,newV]
  by_cases hh:isHole h (rb+rid)=true
  · simp only [hh,if_true,List.nil_append,applyW,readsOf,List.map_cons,List.map_nil]
  · rw [if_neg hh,if_neg hh]
theorem evO_swapNew {r:Rec} (hr:Framed r) {rb:Nat} {a b:AOper} {z:List C} (ha:a.op.inHeap=true) (hga:a.guard=none) (hb:b.op = .alloc z) (hgb:b.guard=none) (hz:z.all constC=true) {st st1 st2:St} {fa fb:Foot} (hlen:rb+b.rid<st.heap.length) (hge:rb≤st.heap.length)
    (ea:evO r rb a st=some (st1,fa)) (eb:evO r rb b st1=some (st2,fb)) (hs:apartS a b=true):∃st1',evO r rb b st=some (st1',fb)∧evO r rb a st1'=some (st2,fa):=by
  obtain ⟨s,h⟩:=st
  obtain ⟨h1,h2,h3⟩:=apartS_spec hs
  obtain ⟨va,h',rfl,rfl⟩:=evO_call ha hga ea
  rw [evO_new hb hgb] at eb
  split at eb
  · rename_i hh
    cases eb
    have hst:=evO_stays hr.stay ea
    have hno:getH h (rb+b.rid) = .none:=by
      rcases Classical.em (getH h (rb+b.rid) = .none) with hn | hn
      · exact hn
      · exact absurd (isHole_iff.1 hh).2 (hst.2 _ hn)
    have hh0:isHole h (rb+b.rid)=true:=isHole_iff.2 ⟨hlen,hno⟩
    have hf:Fill (rb+b.rid) (.cells z) h (setH h (rb+b.rid) (.cells z)):=⟨hlen,hno,rfl⟩
    refine ⟨_,by rw [evO_new hb hgb,if_pos hh0],?_⟩
    -- the call, with other slots that it does not name
    obtain ⟨v,hv⟩:=evO_inv ea
    obtain ⟨h1',e1,g1⟩:∃h1',evO r rb a ⟨s,setH h (rb+b.rid) (.cells z)⟩=some (⟨putD s a.dst va,h1'⟩,⟨[],[],some (sameO h h')⟩)∧Fill (rb+b.rid) (.cells z) h' h1':=by
      obtain ⟨dst,op,guard,rid⟩:=a
      simp only at ha hga
      subst hga
      have hfr:=hr.fill (i:=rb+b.rid) (x:=.cells z) (const_under hz)
      cases op<;>try (cases ha;done)
      case call k p args=>
        cases p with
        | true=>cases ha
        | false=>
          simp only [evO,wantedA] at ea ⊢
          cases hq:r (.f k (args.map (·.ev s)) h) with
          | none=>rw [hq] at ea;cases ea
          | some w=>
            obtain ⟨w1,w2⟩:=w
            rw [hq] at ea
            simp only [Option.some.injEq,Prod.mk.injEq,St.mk.injEq] at ea
            obtain ⟨⟨e1,rfl⟩,e2⟩:=ea
            obtain ⟨h1',e3,g3⟩:=hfr.f hq hf
            refine ⟨h1',?_,g3⟩
            rw [e3];simp only [e1,hf.same g3]
      case callv k args=>
        simp only [evO,wantedA] at ea ⊢
        cases hq:callV r (k.ev s) (args.map (·.ev s)) h with
        | none=>rw [hq] at ea;cases ea
        | some w=>
          obtain ⟨w1,w2⟩:=w
          rw [hq] at ea
          simp only [Option.some.injEq,Prod.mk.injEq,St.mk.injEq] at ea
          obtain ⟨⟨e1,rfl⟩,e2⟩:=ea
          obtain ⟨h1',e3,g3⟩:=callV_fill hfr hq hf
          refine ⟨h1',?_,g3⟩
          rw [e3];simp only [e1,hf.same g3]
    obtain ⟨v2,hv2⟩:=evO_inv e1
    rcases hv2 with ⟨wr,_,_,hn,_⟩ | ⟨h4,_,hst2,hsl⟩
    · cases hn
    · have hput:=hsl (putD s b.dst (.c (.ptr (rb+b.rid) 0))) (AgS.put h2)
      rw [hput]
      simp only [St.mk.injEq] at hst2
      obtain ⟨q1,q2⟩:=hst2
      refine congrArg some (Prod.ext ?_ rfl)
      simp only [St.mk.injEq]
      refine ⟨?_,?_⟩
      · exact (putD_comm h3).symm.trans (by rw [←q1])
      · rw [←q2,g1.eq]
  · cases eb
def Apart2 (ops:List AOper) (F:Nat→Foot) (i j:Nat):Prop:=∀a b,nth ops i=some a→nth ops j=some b→apartS a b=true∧((F i).apart (F j)=true∨(a.op.inHeap=true∧a.guard=none∧b.guard=none∧∃z,b.op = .alloc z∧z.all constC=true))
def Below (ops:List AOper) (n:Nat):Prop:=∀(i:Nat) b z,nth ops i=some b→b.op = .alloc z→b.rid<n
theorem ExL.front2 {r:Rec} (hr:Framed r) {rb n:Nat} {ops:List AOper} (hbl:Below ops n) {F:Nat→Foot} {i:Nat} {B:List Nat}:∀{A:List Nat} {st st':St},rb+n≤st.heap.length→(∀j∈A,Apart2 ops F j i)→ExL r rb ops F (A++i::B) st st'→ExL r rb ops F (i::(A++B)) st st'
  | [],_,_,_,_,h=>h
  | j::A,st,st',hl,hA,h=>by
    obtain ⟨o,st1,h1,h2,h3⟩:=h
    have hl1:rb+n≤st1.heap.length:=Nat.le_trans hl (evO_stays hr.stay h2).1
    have h4:=ExL.front2 hr hbl (A:=A) hl1 (fun k hk=>hA k (List.mem_cons_of_mem _ hk)) h3
    obtain ⟨oi,st2,g1,g2,g3⟩:=h4
    obtain ⟨q1,q2⟩:=hA j (List.mem_cons_self ..) o oi h1 g1
    rcases q2 with q2 | ⟨w1,w2,w3,z,w4,w5⟩
    · obtain ⟨st1',e1,e2⟩:=evO_swap h2 g2 q1 q2
      exact ⟨oi,st1',g1,e1,o,st2,h1,e2,g3⟩
    · have:=hbl i oi z g1 w4
      obtain ⟨st1',e1,e2⟩:=evO_swapNew hr w1 w2 w4 w3 w5 (by omega) (by omega) h2 g2 q1
      exact ⟨oi,st1',g1,e1,o,st2,h1,e2,g3⟩
theorem ExL.stays {r:Rec} (hr:Framed r) {rb:Nat} {ops:List AOper} {F:Nat→Foot}:∀{L:List Nat} {st st':St},ExL r rb ops F L st st'→Stays st.heap st'.heap
  | [],_,_,h=>by cases h;exact .refl
  | i::L,st,st',h=>by
    obtain ⟨o,st1,_,h2,h3⟩:=h
    exact (evO_stays hr.stay h2).trans (ExL.stays hr h3)
theorem shown_spec {ops:List AOper} {fs:List (Nat × Foot)} {ps:List (Nat × Nat)} (hp:pairsOk fs (shownPairs ops ps)=true) {p:Nat × Nat} (hm:p∈ps):∀a b,nth ops p.1=some a→nth ops p.2=some b→(footAt fs p.1).apart (footAt fs p.2)=true∨(a.op.inHeap=true∧a.guard=none∧b.guard=none∧∃z,b.op = .alloc z∧z.all constC=true):=by
  intro a b ha hb
  by_cases hn:callNew ops p=true
  · right
    unfold callNew at hn
    rw [ha,hb] at hn
    simp only [Bool.and_eq_true,Option.isNone_iff_eq_none] at hn
    obtain ⟨⟨⟨n1,n2⟩,n3⟩,n4⟩:=hn
    refine ⟨n1,n2,n3,?_⟩
    split at n4
    · rename_i z hz;exact ⟨z,hz,n4⟩
    · cases n4
  · left
    exact pairsOk_spec hp p (List.mem_filter.2 ⟨hm,by simp [hn]⟩)
end Am
namespace Am
open Go
set_option linter.unusedVariables false
set_option linter.unusedSimpArgs false
inductive Path (ops:Array Oper):Nat→Nat→Prop where
  | edge {x:Nat} {o:Oper} {e:Edge} (ho:ops[x]?=some o) (he:e∈o.after) (hb:Region.binds .any e=true):Path ops x e.on
  | trans {x y:Nat} {o:Oper} {e:Edge} (ho:ops[x]?=some o) (he:e∈o.after) (hb:Region.binds .any e=true) (hp:Path ops e.on y):Path ops x y
theorem mask_spec (acc:Array Nat):∀(l:List Edge) (s y:Nat),(l.foldl (fun s e=>if Region.binds .any e then s ||| 2^e.on ||| acc.getD e.on 0 else s) s).testBit y=true →
    s.testBit y=true∨∃e∈l,Region.binds .any e=true∧(e.on=y∨(acc.getD e.on 0).testBit y=true)
  | [],s,y,h=>.inl h
  | e::l,s,y,h=>by
    rw [List.foldl_cons] at h
    rcases mask_spec acc l _ y h with h | ⟨e',h1,h2,h3⟩
    · by_cases hb:Region.binds .any e=true
      · rw [if_pos hb,Nat.testBit_or,Nat.testBit_or,Bool.or_eq_true,Bool.or_eq_true,Nat.testBit_two_pow,decide_eq_true_eq] at h
        rcases h with (h | h) | h
        · exact .inl h
        · exact .inr ⟨e,List.mem_cons_self ..,hb,.inl h⟩
        · exact .inr ⟨e,List.mem_cons_self ..,hb,.inr h⟩
      · rw [if_neg hb] at h;exact .inl h
    · exact .inr ⟨e',List.mem_cons_of_mem _ h1,h2,h3⟩
theorem before_spec (ops:Array Oper):∀x y,((Region.before ops).getD x 0).testBit y=true→Path ops x y:=by
  have key:(Region.before ops).size=ops.size∧∀x y,((Region.before ops).getD x 0).testBit y=true→Path ops x y:=by
    unfold Region.before
    refine Array.foldl_induction (fun i (acc:Array Nat)=>acc.size=i∧∀x y,(acc.getD x 0).testBit y=true→Path ops x y) ⟨rfl,fun x y h=>by simp at h⟩ (fun i acc ih=>?_)
    obtain ⟨h1,h2⟩:=ih
    refine ⟨by simp [h1],fun x y h=>?_⟩
    have hi:ops[i.1]?=some ops[i]:=by simp
    rw [Array.getD_eq_getD_getElem?,Array.getElem?_push] at h
    by_cases hx:x=acc.size
    · rw [if_pos hx] at h
      simp only [Option.getD_some] at h
      rw [←Array.foldl_toList] at h
      rcases mask_spec acc _ _ y h with h | ⟨e,h3,h4,h5⟩
      · simp at h
      · have hxi:x=i.1:=by omega
        subst hxi
        rcases h5 with rfl | h5
        · exact .edge hi (by simpa using h3) h4
        · exact .trans hi (by simpa using h3) h4 (h2 _ _ h5)
    · rw [if_neg hx,←Array.getD_eq_getD_getElem?] at h
      exact h2 x y h
  exact key.2
def Closed (ops:Array Oper) (listed:Array Bool):Prop:=∀x o,listed.getD x false=true→ops[x]?=some o→∀e∈o.after,Region.binds .any e=true→listed.getD e.on false=true
theorem Closed.path {ops:Array Oper} {listed:Array Bool} (hc:Closed ops listed) {x y:Nat} (hp:Path ops x y):listed.getD x false=true→listed.getD y false=true:=by
  induction hp with
  | edge ho he hb=>exact fun h=>hc _ _ h ho _ he hb
  | trans ho he hb _ ih=>exact fun h=>ih (hc _ _ h ho _ he hb)
def left (n:Nat) (listed:Array Bool):List Nat:=(List.range n).filter fun i=>!listed.getD i true
theorem left_sorted (n:Nat) (listed:Array Bool):(left n listed).Pairwise (·<·):=List.Pairwise.filter _ (List.pairwise_lt_range ..)
theorem any_order {r:Rec} {rb:Nat} {aops:List AOper} {ops:Array Oper} {F:Nat→Foot} (hed:edgesOk ops=true) (hfr:Framed r) {n:Nat} (hbl:Below aops n) (hap:∀p∈openPairs ops,Apart2 aops F p.1 p.2) :
    ∀(fuel t:Nat) (listed:Array Bool) (st st':St),listed.size=ops.size→Closed ops listed→rb+n≤st.heap.length→(left ops.size listed).length≤fuel→ExL r rb aops F (left ops.size listed) st st' →
      ExL r rb aops F (Region.linearise.go .any ops fuel t listed []) st st':=by
  intro fuel
  induction fuel with
  | zero=>
    intro t listed st st' _ _ _ hl h
    have:left ops.size listed=[]:=List.eq_nil_of_length_eq_zero (by omega)
    rw [this] at h
    exact h
  | succ fuel ih=>
    intro t listed st st' hsz hcl hbh hl h
    simp only [Region.linearise.go]
    change ExL r rb aops F (match (Region.ready .any ops listed)[t % (Region.ready .any ops listed).length]? with
      | some i=>Region.linearise.go .any ops fuel (t / (Region.ready .any ops listed).length) (listed.setIfInBounds i true) [i]
      | none=>[].reverse) st st'
    cases hi:(Region.ready .any ops listed)[t % (Region.ready .any ops listed).length]? with
    | none=>
      have hnil:Region.ready .any ops listed=[]:=by
        cases hr:Region.ready .any ops listed with
        | nil=>rfl
        | cons x xs=>
          rw [hr] at hi
          have hlt:t % (x::xs).length<(x::xs).length:=Nat.mod_lt _ (by simp)
          simp at hi
          simp at hlt
          omega
      have hL:left ops.size listed=[]:=by
        cases hL:left ops.size listed with
        | nil=>rfl
        | cons i L=>
          have him:i∈left ops.size listed:=by rw [hL];exact List.mem_cons_self ..
          have hsort:=left_sorted ops.size listed
          rw [hL] at hsort
          obtain ⟨h1,h2⟩:=List.mem_filter.1 him
          have hlt:=List.mem_range.1 h1
          have hmem:i∈Region.ready .any ops listed:=by
            rw [mem_ready]
            have ho:ops[i]?=some ops[i]:=Array.getElem?_eq_getElem hlt
            refine ⟨by simpa using h2,_,ho,fun e he hb=>?_⟩
            have hbelow:e.on<i:=by
              unfold edgesOk at hed
              have:=List.all_eq_true.1 hed i h1
              rw [ho] at this
              simp only [Array.all_eq_true_iff_forall_mem] at this
              have:=this e he
              rw [hb] at this
              simpa [Nat.blt_eq] using this
            cases hq:listed.getD e.on false with
            | true=>rfl
            | false=>
              have hlt2:e.on<listed.size:=by omega
              have hq2:listed.getD e.on true=false:=by
                rw [Array.getD,dif_pos hlt2] at hq
                rw [Array.getD,dif_pos hlt2]
                exact hq
              have hm:e.on∈left ops.size listed:=List.mem_filter.2 ⟨List.mem_range.2 (by omega),by rw [hq2];rfl⟩
              rw [hL] at hm
              rcases List.mem_cons.1 hm with hm | hm
              · omega
              · have:=(List.pairwise_cons.1 hsort).1 _ hm;omega
          rw [hnil] at hmem;cases hmem
      rw [hL] at h
      exact h
    | some i=>
      have himem:=List.mem_of_getElem? hi
      obtain ⟨hun,o,ho,hall⟩:=mem_ready.1 himem
      have hlt:i<ops.size:=(Array.getElem?_eq_some_iff.1 ho).1
      have hL:i∈left ops.size listed:=List.mem_filter.2 ⟨List.mem_range.2 hlt,by simpa using hun⟩
      obtain ⟨A,B,hAB⟩:=List.append_of_mem hL
      have hsort:=left_sorted ops.size listed
      rw [hAB] at hsort h
      have hA:∀j∈A,j<i:=fun j hj=>(List.pairwise_append.1 hsort).2.2 j hj i (List.mem_cons_self ..)
      have hB:∀j∈B,i<j:=fun j hj=>(List.pairwise_cons.1 (List.pairwise_append.1 hsort).2.1).1 j hj
      have hAun:∀j∈A,listed.getD j true=false:=fun j hj=>by
        have hm:j∈left ops.size listed:=by rw [hAB];exact List.mem_append_left _ hj
        simpa using (List.mem_filter.1 hm).2
      have hf:=ExL.front2 hfr hbl hbh (fun j hj=>hap (j,i) (by
        unfold openPairs
        refine List.mem_flatMap.2 ⟨i,List.mem_range.2 hlt,List.mem_filterMap.2 ⟨j,List.mem_range.2 (hA j hj),?_⟩⟩
        rw [if_neg]
        intro hbit
        have hp:=before_spec ops i j hbit
        have hlj:listed.getD j false=true:=by
          cases hp with
          | edge ho' he hb=>rw [ho] at ho';cases ho';exact hall _ he hb
          | trans ho' he hb hp=>rw [ho] at ho';cases ho';exact hcl.path hp (hall _ he hb)
        have h1:=hAun j hj
        have hjs:j<listed.size:=by have:=hA j hj;omega
        rw [Array.getD,dif_pos hjs] at hlj h1
        rw [hlj] at h1;cases h1)) h
      obtain ⟨oi,st1,g1,g2,g3⟩:=hf
      have hleft:left ops.size (listed.setIfInBounds i true)=A++B:=by
        have e1:left ops.size (listed.setIfInBounds i true)=(left ops.size listed).filter (fun j=>decide (j≠i)):=by
          unfold left
          rw [List.filter_filter]
          apply List.filter_congr
          intro j hj
          by_cases hji:j=i
          · subst hji
            have:(listed.setIfInBounds j true).getD j true=true:=by
              have:j<listed.size:=by omega
              simp [this]
            rw [this];simp
          · rw [getD_set_ne true (fun e=>hji e.symm)];simp [hji]
        rw [e1,hAB,List.filter_append,List.filter_cons]
        simp only [ne_eq,not_true_eq_false,decide_false,Bool.false_eq_true,if_false]
        rw [List.filter_eq_self.2 (fun j hj=>by have:=hA j hj;simp;omega),List.filter_eq_self.2 (fun j hj=>by have:=hB j hj;simp;omega)]
      have hrec:=ih (t / (Region.ready .any ops listed).length) (listed.setIfInBounds i true) st1 st' (by simp [hsz]) (fun x o' hx ho' e he hb=>by
          by_cases hxi:i=x
          · subst hxi
            rw [ho] at ho';cases ho'
            exact getD_set_true (hall e he hb)
          · rw [getD_set_ne false hxi] at hx
            exact getD_set_true (hcl x o' hx ho' e he hb)) (Nat.le_trans hbh (evO_stays hfr.stay g2).1) (by rw [hleft];have:=congrArg List.length hAB;simp at this ⊢;omega) (by rw [hleft];exact g3)
      simp only []
      rw [linearise_go_acc,List.reverse_singleton,List.singleton_append]
      exact ⟨oi,st1,g1,g2,hrec⟩
theorem left_all (n:Nat):left n (Array.replicate n false)=List.range n:=by
  unfold left
  refine List.filter_eq_self.2 fun i hi=>?_
  have:=List.mem_range.1 hi
  simp [this]
theorem drawn_order {r:Rec} (hfr:Framed r) {rb n:Nat} {aops:List AOper} (hbl:Below aops n) {ops:Array Oper} {st st':St} (hbh:rb+n≤st.heap.length) {fs:List (Nat × Foot)} (hlen:aops.length=ops.size) (hed:edgesOk ops=true) (hap:(openPairs ops).all (apartAt aops)=true) (hpo:pairsOk fs (shownPairs aops (openPairs ops))=true)
    (he:evOs r rb 0 aops st []=some (st',fs)) (t:Nat):ExL r rb aops (footAt fs) (Region.linearise .any ops t) st st':=by
  unfold Region.linearise
  refine any_order hed hfr hbl (fun p hp a b ha hb=>⟨?_,shown_spec hpo hp a b ha hb⟩) _ _ _ _ _ (by simp) (fun x o hx=>by
    rw [Array.getD_eq_getD_getElem?,Array.getElem?_replicate] at hx
    split at hx<;>simp at hx) hbh (by rw [left_all];simp) ?_
  · have:=List.all_eq_true.1 hap p hp
    unfold apartAt at this
    rw [ha,hb] at this
    exact this
  · rw [left_all,←hlen,List.range_eq_range']
    exact (ExL.of_evOs (fun j o h=>by rwa [Nat.zero_add]) he).1
theorem text_order {r:Rec} {rb:Nat} {aops:List AOper} {n:Nat} {st st':St} {fs:List (Nat × Foot)} (hlen:aops.length=n) (he:evOs r rb 0 aops st []=some (st',fs)):ExL r rb aops (footAt fs) (List.range n) st st':=by
  rw [←hlen,List.range_eq_range']
  exact (ExL.of_evOs (fun j o h=>by rwa [Nat.zero_add]) he).1
end Am
