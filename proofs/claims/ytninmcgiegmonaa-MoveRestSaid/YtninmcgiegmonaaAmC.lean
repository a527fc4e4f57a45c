/-
  A part of the proof: the texts Am6, Am50, Am7, Am8, Am9 of this seat, joined.
-/
import Derived.Test.YtninmcgiegmonaaAmB
import Derived.Laws.Cells
import Derived.Deep.MidRow
import Derived.Laws.StructEq
import Derived.ChangeKeysEq
import Derived.Laws.Cover3
namespace Am
open Go
variable {P:Program} {cfg:Cfg}
def _root_.Go.World.setBlk (w:World) (b:Nat) (o:Go.Obj):World:={ w with heap:=w.heap.setIfInBounds b o }
theorem setBlk_size (w:World) (b:Nat) (o:Go.Obj):(w.setBlk b o).heap.size=w.heap.size:=by simp [World.setBlk]
theorem setBlk_get (w:World) (b:Nat) (o:Go.Obj) (h:b<w.heap.size):(w.setBlk b o).heap[b]?=some o:=by simp [World.setBlk,h]
theorem setBlk_ne (w:World) (b b':Nat) (o:Go.Obj) (h:b'≠b):(w.setBlk b o).heap[b']?=w.heap[b']?:=by
  simp only [World.setBlk];rw [Array.getElem?_setIfInBounds_ne (fun e=>h e.symm)]
theorem setBlk_setBlk (w:World) (b:Nat) (o o':Go.Obj):(w.setBlk b o).setBlk b o'=w.setBlk b o':=by simp [World.setBlk]
theorem setBlk_self {w:World} {b:Nat} {o:Go.Obj} (h:w.heap[b]?=some o):w.setBlk b o=w:=by
  unfold World.setBlk
  have:w.heap.setIfInBounds b o=w.heap:=by
    apply Array.ext_getElem?
    intro i
    by_cases hi:i=b
    · subst hi;rw [h];simp [(Array.getElem?_eq_some_iff.1 h).1]
    · rw [Array.getElem?_setIfInBounds_ne (fun e=>hi e.symm)]
  rw [this]
theorem cellAt_blk {w:World} {b i:Nat} {arr:Array Value} {T:TypeId} {fz:Nat × Nat} (h:w.heap[b]?=some (.cells arr T fz)):cellAt w b i=arr[i]?:=by
  unfold cellAt World.cell?;simp [h]
theorem setCell_blk {w:World} {b i:Nat} {arr:Array Value} {T:TypeId} {fz:Nat × Nat} {v:Value} (h:w.heap[b]?=some (.cells arr T fz)) :
    w.setCell ⟨b,i,none⟩ v=w.setBlk b (.cells (arr.setIfInBounds i v) T fz):=by
  unfold World.setCell World.setBlk
  congr 1
  apply Array.ext_getElem?
  intro j
  simp only [Array.getElem?_modify]
  by_cases hj:b=j
  · subst hj
    obtain ⟨hlt,he⟩:=Array.getElem?_eq_some_iff.1 h
    rw [if_pos rfl,h]
    simp [hlt]
  · rw [if_neg hj,Array.getElem?_setIfInBounds_ne hj]
theorem frozen_blk {w:World} {b i:Nat} {arr:Array Value} {T:TypeId} (h:w.heap[b]?=some (.cells arr T (0,0))):w.frozen? ⟨b,i,none⟩=false:=by
  unfold World.frozen?;simp [h]
theorem run_store_blk {w:World} {b i:Nat} {arr:Array Value} {T:TypeId} {v:Value} (h:w.heap[b]?=some (.cells arr T (0,0))) (hi:i<arr.size) (hv:v.oneCell'=true) :
    (store ⟨b,i,none⟩ v).run P w = .ok () (w.setBlk b (.cells (arr.setIfInBounds i v) T (0,0))):=by
  rw [run_store P w _ v .plain hv]
  have:w.cell? ⟨b,i,none⟩=some arr[i]:=by
    have:=cellAt_blk (i:=i) h
    unfold cellAt at this;rw [this];simp [hi]
  rw [this]
  simp only [frozen_blk h,Bool.false_eq_true,if_false,setCell_blk h]
theorem run_storeCells_blk {b:Nat} {T:TypeId}:∀(vs:List Value) (off i:Nat) (w:World) (arr:Array Value),w.heap[b]?=some (.cells arr T (0,0))→off+i+vs.length≤arr.size→(∀v∈vs,v.oneCell'=true) →
    ∃arr':Array Value,arr'.size=arr.size∧(∀j,arr'[j]?=if off+i≤j∧j<off+i+vs.length then vs[j-(off+i)]? else arr[j]?) ∧
      (storeCells ⟨b,off,none⟩ vs i).run P w = .ok () (w.setBlk b (.cells arr' T (0,0)))
  | [],off,i,w,arr,h,_,_=>⟨arr,rfl,fun j=>by rw [if_neg (by simp)],by simp [storeCells,setBlk_self h]⟩
  | v::vs,off,i,w,arr,h,hn,hv=>by
    have hlt:b<w.heap.size:=(Array.getElem?_eq_some_iff.1 h).1
    have hs:=run_store_blk (P:=P) (v:=v) h (show off+i<arr.size by simp at hn;omega) (hv v (by simp))
    obtain ⟨arr',h1,h2,h3⟩:=run_storeCells_blk vs off (i+1) (w.setBlk b (.cells (arr.setIfInBounds (off+i) v) T (0,0))) (arr.setIfInBounds (off+i) v) (setBlk_get _ _ _ hlt) (by simp at hn ⊢;omega) (fun x hx=>hv x (by simp [hx]))
    refine ⟨arr',by rw [h1];simp,fun j=>?_,?_⟩
    · rw [h2]
      by_cases hj:j=off+i
      · subst hj
        rw [if_neg (by omega),if_pos (by simp)]
        simp at hn
        simp [show off+i<arr.size by omega]
      · by_cases hj2:off+(i+1)≤j∧j<off+(i+1)+vs.length
        · rw [if_pos hj2,if_pos (by simp;omega),show j-(off+i)=(j-(off+(i+1)))+1 by omega];rfl
        · rw [if_neg hj2,if_neg (by simp;omega),Array.getElem?_setIfInBounds_ne (fun e=>hj e.symm)]
    · unfold storeCells
      rw [Sem.run_bind,Addr.add_mid,hs]
      simp only [Result.andThen_ok]
      rw [h3,setBlk_setBlk]
theorem RO'.mono {E E':Env} (hE:E.Le E') {p:Pl} {x:Obj} (h:RO' P cfg E p x) (hb:∀b,p.blk=some b→E'.w.heap[b]?=E.w.heap[b]?):RO' P cfg E' p x:=by
  cases x with
  | none=>trivial
  | cells cs=>obtain ⟨b,arr,T,h1,h2,h3⟩:=h;exact ⟨b,arr,T,h1,by rw [hb b h1];exact h2,h3.mono hE⟩
  | arr fz ver sz rows=>
    obtain ⟨h1,h2,h3⟩:=h
    refine ⟨h1,h2,?_⟩
    cases hp:p.blk with
    | none=>rw [hp] at h3;exact h3
    | some b=>
      rw [hp] at h3
      obtain ⟨arr,T,h4,h5,h6⟩:=h3
      refine ⟨arr,T,by rw [hb b hp];exact h4,h5,fun i row j d a c=>?_⟩
      obtain ⟨v,e,r⟩:=h6 i row j d a c
      exact ⟨v,e,r.mono hE.k0 hE.w0⟩
  | map ka va ks es=>
    obtain ⟨b,en,ck,h1,h2,h3,h4⟩:=h
    refine ⟨b,en,ck,h1,by rw [hb b h1];exact h2,h3,fun i e he=>?_⟩
    obtain ⟨e',q1,q2⟩:=h4 i e he
    refine ⟨e',q1,?_,q2.scal,?_⟩
    · obtain ⟨ks,a1,a2,a3,a4⟩:=q2.key
      refine ⟨ks,a1,a2,a3,fun i d hd=>?_⟩
      have:=a4 i d hd
      have hsc:=kindsD_scal q2.scal i d hd
      generalize ks.getD i undef=y at this ⊢
      cases d with
      | lst rows=>exact (hsc rows rfl).elim
      | int k n=>cases this;exact .int k n
      | bool b=>cases this;exact .bool b
    · obtain ⟨vs,a1,a2,a3⟩:=q2.val
      exact ⟨vs,a1,a2,a3.mono hE⟩
  | loop l=>
    obtain ⟨b,L,h1,h2,h3,h4,h5,h6⟩:=h
    exact ⟨b,L,h1,by rw [hb b h1];exact h2,h3,h4,h5.mono hE,h6⟩
theorem RW.lt {h:List Obj} {pl:Nat→Pl} {fo:Kept} {w:World} (hW:RW P cfg h pl fo w) {o b:Nat} (hn:getH h o ≠ .none) (hb:(pl o).blk=some b):b<w.heap.size:=by
  have:=hW.obj o
  cases hx:getH h o with
  | none=>exact (hn hx).elim
  | cells cs=>rw [hx] at this;obtain ⟨b',arr,T,h1,h2,_⟩:=this;rw [hb] at h1;cases h1;exact (Array.getElem?_eq_some_iff.1 h2).1
  | arr fz ver sz rows=>rw [hx] at this;obtain ⟨_,_,h3⟩:=this;rw [hb] at h3;obtain ⟨arr,T,h2,_⟩:=h3;exact (Array.getElem?_eq_some_iff.1 h2).1
  | map ka va ks es=>rw [hx] at this;obtain ⟨b',en,ck,h1,h2,_⟩:=this;rw [hb] at h1;cases h1;exact (Array.getElem?_eq_some_iff.1 h2).1
  | loop l=>rw [hx] at this;obtain ⟨b',L,h1,h2,_⟩:=this;rw [hb] at h1;cases h1;exact (Array.getElem?_eq_some_iff.1 h2).1
theorem Obj.ne_none_of_mutable {x:Obj} (h:x.mutable=true):x ≠ .none:=by intro e;subst e;cases h
theorem Still.set {w:World} {b:Nat} {ob:Go.Obj} (h0:∀o0,w.heap[b]?=some o0→thawed o0=true) (h1:thawed ob=true):Still w (w.setBlk b ob):=by
  refine ⟨by rw [setBlk_size];exact Nat.le_refl _,rfl,rfl,fun a=>?_⟩
  have hf:∀o0:Go.Obj,thawed o0=true→(match some o0 with | some (.cells _ _ (lo,hi))=>decide (lo≤a.off)&&decide (a.off<hi) | _=>false)=false:=fun o0 h=>by
    cases o0<;>first | rfl | skip
    rename_i c e fr
    obtain ⟨lo,hi⟩:=fr
    simp only [thawed,Bool.and_eq_true,beq_iff_eq] at h
    simp [h.2]
  by_cases e:a.block=b
  · unfold World.frozen?
    rw [e]
    cases hw:w.heap[b]? with
    | none=>
      have:(w.setBlk b ob).heap[b]?=none:=by
        have:=Array.getElem?_eq_none_iff.1 hw
        exact Array.getElem?_eq_none (by rw [setBlk_size];exact this)
      rw [this]
    | some o0=>
      rw [setBlk_get w b ob (Array.getElem?_eq_some_iff.1 hw).1]
      exact (hf ob h1).trans (hf o0 (h0 o0 hw)).symm
  · unfold World.frozen?;rw [setBlk_ne w b a.block ob e]
theorem RW.isThawed {h:List Obj} {pl:Nat→Pl} {fo:Kept} {w:World} (hW:RW P cfg h pl fo w) {o b:Nat} (hn:getH h o ≠ .none) (hb:(pl o).blk=some b):∀o0,w.heap[b]?=some o0→thawed o0=true:=by
  intro o0 h0
  have:=hW.obj o
  cases hx:getH h o with
  | none=>exact (hn hx).elim
  | cells cs=>rw [hx] at this;obtain ⟨b',arr,T,h1,h2,_⟩:=this;rw [hb] at h1;cases h1;have h2':w.heap[b]?=_:=h2;rw [h0] at h2';cases h2';rfl
  | arr fz ver sz rows=>rw [hx] at this;obtain ⟨_,_,h3⟩:=this;rw [hb] at h3;obtain ⟨arr,T,h2,_⟩:=h3;have h2':w.heap[b]?=_:=h2;rw [h0] at h2';cases h2';rfl
  | map ka va ks es=>rw [hx] at this;obtain ⟨b',en,ck,h1,h2,_⟩:=this;rw [hb] at h1;cases h1;have h2':w.heap[b]?=_:=h2;rw [h0] at h2';cases h2';rfl
  | loop l=>rw [hx] at this;obtain ⟨b',L,h1,h2,_⟩:=this;rw [hb] at h1;cases h1;have h2':w.heap[b]?=_:=h2;rw [h0] at h2';cases h2';rfl
theorem RW.update {h:List Obj} {pl:Nat→Pl} {fo:Kept} {w:World} (hW:RW P cfg h pl fo w) {o b:Nat} {x:Obj} {ob:Go.Obj} (hm:(getH h o).mutable=true) (hb:(pl o).blk=some b)
    (hx:(getH h o).le x) (hxm:x.mutable=true)
    (hro:(mkEnv h pl fo w).Le (mkEnv (setH h o x) pl fo (w.setBlk b ob))→RO' P cfg (mkEnv (setH h o x) pl fo (w.setBlk b ob)) (pl o) x) (hob:thawed ob=true:=by rfl) :
    RW P cfg (setH h o x) pl fo (w.setBlk b ob)∧HLe h pl (setH h o x) pl∧Fr h pl w (setH h o x) pl (w.setBlk b ob):=by
  have hn:=Obj.ne_none_of_mutable hm
  have hol:=getH_lt hn
  have hg:∀o',getH (setH h o x) o'=if o'=o then x else getH h o':=fun o'=>by
    rw [getH_setH];by_cases e:o'=o
    · rw [if_pos ⟨e,hol⟩,if_pos e]
    · rw [if_neg (fun a=>e a.1),if_neg e]
  have hown:∀b',owned (setH h o x) pl b'↔owned h pl b':=by
    intro b'
    constructor
    · rintro ⟨o',h1,h2⟩
      rw [hg] at h1
      by_cases e:o'=o
      · subst e;exact ⟨o',hm,h2⟩
      · rw [if_neg e] at h1;exact ⟨o',h1,h2⟩
    · rintro ⟨o',h1,h2⟩
      refine ⟨o',?_,h2⟩
      rw [hg]
      by_cases e:o'=o
      · rw [if_pos e];exact hxm
      · rw [if_neg e];exact h1
  have hle:HLe h pl (setH h o x) pl:=⟨fun o'=>by
    rw [hg];by_cases e:o'=o
    · rw [if_pos e,e];exact hx
    · rw [if_neg e];exact Obj.le_refl _,fun _ _ _=>rfl⟩
  have hfr:Fr h pl w (setH h o x) pl (w.setBlk b ob):=⟨Still.set (hW.isThawed hn hb) hob,fun b' _ hno=>setBlk_ne _ _ _ _ (fun e=>hno (e ▸ ⟨o,hm,hb⟩)),fun b' _ hno=>fun ho=>hno ((hown b').1 ho)⟩
  have hE:=Env.le_of (fo:=fo) hle hfr
  refine ⟨⟨fun o'=>?_,?_,?_⟩,hle,hfr⟩
  · rw [hg]
    by_cases e:o'=o
    · rw [if_pos e,e];exact hro hE
    · rw [if_neg e]
      by_cases hz:getH h o' = .none
      · rw [hz];trivial
      · exact (hW.obj o').mono hE fun b' hb'=>setBlk_ne _ _ _ _ (fun e2=>hW.ne o' o b' e hz hn hb' (e2 ▸ hb))
  · intro o1 o2 b' hne h1 h2 hb1
    refine hW.ne o1 o2 b' hne ?_ ?_ hb1
    · rw [hg] at h1;by_cases e:o1=o
      · rw [e];exact hn
      · rw [if_neg e] at h1;exact h1
    · rw [hg] at h2;by_cases e:o2=o
      · rw [e];exact hn
      · rw [if_neg e] at h2;exact h2
  · intro o' b' h1 h2
    refine hW.fo o' b' ?_ h2
    rw [hg] at h1
    by_cases e:o'=o
    · rw [e];exact hn
    · rw [if_neg e] at h1;exact h1
def updP (pl:Nat→Pl) (o:Nat) (p:Pl):Nat→Pl:=fun i=>if i=o then p else pl i
theorem updP_same (pl:Nat→Pl) (o:Nat) (p:Pl):updP pl o p o=p:=if_pos rfl
theorem updP_ne (pl:Nat→Pl) {o i:Nat} (p:Pl) (h:i≠o):updP pl o p i=pl i:=if_neg h
def _root_.Go.World.pushBlk (w:World) (o:Go.Obj):World:={ w with heap:=w.heap.push o }
theorem Still.push {w w1:World} {ob:Go.Obj} (h:Still w w1) (hob:thawed ob=true):Still w (w1.pushBlk ob):=by
  refine h.trans ⟨by show w1.heap.size≤(w1.heap.push ob).size;simp,rfl,rfl,fun a=>?_⟩
  unfold World.frozen?
  show (match (w1.heap.push ob)[a.block]? with | some (.cells _ _ (lo,hi))=>decide (lo≤a.off)&&decide (a.off<hi) | _=>false)=_
  rw [Array.getElem?_push]
  by_cases e:a.block=w1.heap.size
  · rw [if_pos e,Array.getElem?_eq_none (by omega)]
    cases ob<;>first | rfl | skip
    rename_i c e fr
    obtain ⟨lo,hi⟩:=fr
    simp only [thawed,Bool.and_eq_true,beq_iff_eq] at hob
    simp [hob.2]
  · rw [if_neg e];rfl
theorem pushBlk_get (w:World) (o:Go.Obj):(w.pushBlk o).heap[w.heap.size]?=some o:=by show (w.heap.push o)[w.heap.size]?=_;rw [Array.getElem?_push,if_pos rfl]
theorem pushBlk_old (w:World) (o:Go.Obj) {b:Nat} (h:b<w.heap.size):(w.pushBlk o).heap[b]?=w.heap[b]?:=by
  show (w.heap.push o)[b]?=_;rw [Array.getElem?_push,if_neg (Nat.ne_of_lt h)]
theorem pushBlk_size (w:World) (o:Go.Obj):(w.pushBlk o).heap.size=w.heap.size+1:=Array.size_push _
theorem RW.place {h:List Obj} {pl:Nat→Pl} {fo:Kept} {w w':World} (hfo:∀b,fo b→b<w.heap.size) (hW:RW P cfg h pl fo w) {o:Nat} {x:Obj} {p:Pl} (hol:o<h.length) (hx:(getH h o).le x)
    (hv:getH h o = .none∨¬(getH h o).sameVer x) (hm0:(getH h o).mutable=true∨getH h o = .none) (hsz:Still w w') (hold:∀b,b<w.heap.size→w'.heap[b]?=w.heap[b]?)
    (hp:∀b,p.blk=some b→w.heap.size≤b) (hro:(mkEnv h pl fo w).Le (mkEnv (setH h o x) (updP pl o p) fo w')→RO' P cfg (mkEnv (setH h o x) (updP pl o p) fo w') p x) :
    RW P cfg (setH h o x) (updP pl o p) fo w'∧HLe h pl (setH h o x) (updP pl o p)∧Fr h pl w (setH h o x) (updP pl o p) w':=by
  have hg:∀o',getH (setH h o x) o'=if o'=o then x else getH h o':=fun o'=>by
    rw [getH_setH];by_cases e:o'=o
    · rw [if_pos ⟨e,hol⟩,if_pos e]
    · rw [if_neg (fun a=>e a.1),if_neg e]
  have hle:HLe h pl (setH h o x) (updP pl o p):=⟨fun o'=>by
    rw [hg];by_cases e:o'=o
    · rw [if_pos e,e];exact hx
    · rw [if_neg e];exact Obj.le_refl _,fun o' hn hs=>by
    by_cases e:o'=o
    · subst e
      rw [hg,if_pos rfl] at hs
      rcases hv with hv | hv
      · exact (hn hv).elim
      · exact (hv hs).elim
    · exact updP_ne _ _ e⟩
  have hown:∀b',b'<w.heap.size→owned (setH h o x) (updP pl o p) b'→owned h pl b':=by
    rintro b' hb' ⟨o',h1,h2⟩
    rw [hg] at h1
    by_cases e:o'=o
    · subst e;rw [updP_same] at h2;have:=hp b' h2;omega
    · rw [if_neg e] at h1;rw [updP_ne _ _ e] at h2;exact ⟨o',h1,h2⟩
  have hfr:Fr h pl w (setH h o x) (updP pl o p) w':=⟨hsz,fun b' hb' _=>hold b' hb',fun b' hb' hno ho=>hno (hown b' hb' ho)⟩
  have hE:=Env.le_of (fo:=fo) hle hfr
  refine ⟨⟨fun o'=>?_,?_,?_⟩,hle,hfr⟩
  · rw [hg]
    by_cases e:o'=o
    · rw [if_pos e,e,updP_same];exact hro hE
    · rw [if_neg e,updP_ne _ _ e]
      by_cases hz:getH h o' = .none
      · rw [hz];trivial
      · exact (hW.obj o').mono hE fun b' hb'=>hold b' (hW.lt hz hb')
  · intro o1 o2 b' hne h1 h2 hb1 hb2
    rw [hg] at h1 h2
    by_cases e1:o1=o
    · subst e1
      rw [updP_same] at hb1
      rw [if_neg (fun e=>hne e.symm)] at h2
      rw [updP_ne _ _ (fun e=>hne e.symm)] at hb2
      have:=hp b' hb1;have:=hW.lt h2 hb2;omega
    · rw [if_neg e1] at h1
      rw [updP_ne _ _ e1] at hb1
      by_cases e2:o2=o
      · subst e2;rw [updP_same] at hb2;have:=hp b' hb2;have:=hW.lt h1 hb1;omega
      · rw [if_neg e2] at h2;rw [updP_ne _ _ e2] at hb2;exact hW.ne o1 o2 b' hne h1 h2 hb1 hb2
  · intro o' b' h1 h2 hf
    have hb':=hfo b' hf
    rw [hg] at h1
    by_cases e:o'=o
    · subst e;rw [updP_same] at h2;have:=hp b' h2;omega
    · rw [if_neg e] at h1;rw [updP_ne _ _ e] at h2;exact hW.fo o' b' h1 h2 hf
theorem RW.frozen {h:List Obj} {pl:Nat→Pl} {fo:Kept} {w:World} (hW:RW P cfg h pl fo w) {o ver sz:Nat} {fz:Bool} {rows:List (List D)} (ho:getH h o = .arr fz ver sz rows) :
    RW P cfg (setH h o (.arr true ver sz rows)) pl fo w∧HLe h pl (setH h o (.arr true ver sz rows)) pl∧Fr h pl w (setH h o (.arr true ver sz rows)) pl w:=by
  have hn:getH h o ≠ .none:=by rw [ho];simp
  have hol:=getH_lt hn
  have hg:∀o',getH (setH h o (.arr true ver sz rows)) o'=if o'=o then .arr true ver sz rows else getH h o':=fun o'=>by
    rw [getH_setH];by_cases e:o'=o
    · rw [if_pos ⟨e,hol⟩,if_pos e]
    · rw [if_neg (fun a=>e a.1),if_neg e]
  have hle:HLe h pl (setH h o (.arr true ver sz rows)) pl:=⟨fun o'=>by
    rw [hg];by_cases e:o'=o
    · rw [if_pos e,e,ho];exact ⟨_,_,_,rfl,Nat.le_refl _,fun _=>rfl⟩
    · rw [if_neg e];exact Obj.le_refl _,fun _ _ _=>rfl⟩
  have hown:∀b',owned (setH h o (.arr true ver sz rows)) pl b'→owned h pl b':=by
    rintro b' ⟨o',h1,h2⟩
    rw [hg] at h1
    by_cases e:o'=o
    · rw [if_pos e] at h1;cases h1
    · rw [if_neg e] at h1;exact ⟨o',h1,h2⟩
  have hfr:Fr h pl w (setH h o (.arr true ver sz rows)) pl w:=⟨Still.refl _,fun _ _ _=>rfl,fun b' _ hno ho=>hno (hown b' ho)⟩
  have hE:=Env.le_of (fo:=fo) hle hfr
  refine ⟨⟨fun o'=>?_,?_,?_⟩,hle,hfr⟩
  · rw [hg]
    by_cases e:o'=o
    · rw [if_pos e,e]
      have:=(hW.obj o).mono hE fun b' hb'=>rfl
      rw [ho] at this;exact this
    · rw [if_neg e]
      by_cases hz:getH h o' = .none
      · rw [hz];trivial
      · exact (hW.obj o').mono hE fun b' hb'=>rfl
  · intro o1 o2 b' hne h1 h2 hb1
    refine hW.ne o1 o2 b' hne ?_ ?_ hb1
    · rw [hg] at h1;by_cases e:o1=o
      · rw [e];exact hn
      · rw [if_neg e] at h1;exact h1
    · rw [hg] at h2;by_cases e:o2=o
      · rw [e];exact hn
      · rw [if_neg e] at h2;exact h2
  · intro o' b' h1 h2
    refine hW.fo o' b' ?_ h2
    rw [hg] at h1
    by_cases e:o'=o
    · rw [e];exact hn
    · rw [if_neg e] at h1;exact h1
theorem RW.world {h:List Obj} {pl:Nat→Pl} {fo:Kept} {w w':World} (hW:RW P cfg h pl fo w) (hsz:Still w w') (hold:∀b,b<w.heap.size→w'.heap[b]?=w.heap[b]?) :
    RW P cfg h pl fo w'∧HLe h pl h pl∧Fr h pl w h pl w':=by
  have hfr:Fr h pl w h pl w':=⟨hsz,fun b hb _=>hold b hb,fun _ _ hno=>hno⟩
  have hE:=Env.le_of (fo:=fo) (HLe.refl h pl) hfr
  refine ⟨⟨fun o=>?_,hW.ne,hW.fo⟩,HLe.refl _ _,hfr⟩
  by_cases hz:getH h o = .none
  · rw [hz];trivial
  · exact (hW.obj o).mono hE fun b' hb'=>hold b' (hW.lt hz hb')
theorem R_ofD {E:Env} {t:Bool} {d:D} {v:Value} (h:RD (E.kt t) E.w d v):R E (C.ofD t d) v:=by
  cases d with
  | int k n=>cases h;exact .int k n
  | bool b=>cases h;exact .bool b
  | lst rows=>exact .lst h
theorem load_ok {h:List Obj} {pl:Nat→Pl} {fo:Kept} {w:World} (hW:RW P cfg h pl fo w) {c:C} {v:Value} {n:Nat} {cs:List C} (hr:R (mkEnv h pl fo w) c v) (hl:loadC h n c=some cs) :
    ∃b p,v = .pointer (some ⟨b,p,none⟩)∧cs.length=n∧∀(j:Nat) (x:C),nth cs j=some x→∃y,cellAt w b (p+j)=some y∧R (mkEnv h pl fo w) x y:=by
  cases c with
  | ptr o off=>
    cases hr with
    | @ptr _ _ b hb0=>
    simp only [loadC] at hl
    cases ho':getH h o with
    | none=>rw [ho'] at hl;cases hl
    | arr=>rw [ho'] at hl;cases hl
    | map=>rw [ho'] at hl;cases hl
    | loop=>rw [ho'] at hl;cases hl
    | cells cs'=>
    have hb:=hb0.blk ho'
    rw [ho'] at hl
    obtain ⟨h1,h2⟩:=part_spec hl
    have hro:=hW.obj o
    rw [ho'] at hro
    obtain ⟨b',arr,T,hb',hblk0,hrl⟩:=hro
    have hblk:w.heap[b']?=some (.cells arr T (0,0)):=hblk0
    have:b'=b:=by have:=hb'.symm.trans hb;injection this
    subst this
    refine ⟨b',off,rfl,h1,fun j x hj=>?_⟩
    have hm:=part_mem hl hj
    have hsz:off+j<arr.size:=Nat.lt_of_lt_of_le (nth_lt hm) hrl.1.1
    refine ⟨arr[off+j],by rw [cellAt_blk hblk];simp [hsz],?_⟩
    have:=hrl.2 _ _ hm
    simpa [Array.getD,hsz] using this
  | aptr o ver i off=>
    cases hr with
    | @aptr _ _ _ _ b fz ver' sz rows ho hv hb=>
    simp only [loadC] at hl
    have ho':getH h o = .arr fz ver' sz rows:=ho
    rw [ho'] at hl
    simp only at hl
    by_cases e:ver'=ver
    · rw [if_pos e] at hl
      have hb1:=hb e.symm
      cases hrow:nth rows i with
      | none=>rw [hrow] at hl;cases hl
      | some row=>
        rw [hrow] at hl
        simp only [Option.bind_some] at hl
        cases hpt:part off n row with
        | none=>rw [hpt] at hl;cases hl
        | some ds=>
          rw [hpt] at hl;cases hl
          obtain ⟨h1,h2⟩:=part_spec hpt
          have hro:=hW.obj o
          rw [ho'] at hro
          obtain ⟨_,hlen,hro⟩:=hro
          have hb1':(pl o).blk=some b:=hb1
          rw [hb1'] at hro
          obtain ⟨arr,T,hblk0,_,hc⟩:=hro
          have hblk:w.heap[b]?=some (.cells arr T (0,0)):=hblk0
          refine ⟨b,i*sz+off,rfl,by simp [h1],fun j x hj=>?_⟩
          rw [nth_map] at hj
          cases hd:nth ds j with
          | none=>rw [hd] at hj;cases hj
          | some d=>
            rw [hd] at hj;cases hj
            obtain ⟨y,hy1,hy2⟩:=hc i row (off+j) d hrow (part_mem hpt hd)
            exact ⟨y,by rw [cellAt_blk hblk,Nat.add_assoc];exact hy1,R_ofD (t:=false) hy2⟩
    · rw [if_neg e] at hl;cases hl
  | ept t row off=>
    cases hr with
    | @ept _ _ _ b p vs hK hc hrd=>
    simp only [loadC] at hl
    cases hpt:part off n row with
    | none=>rw [hpt] at hl;cases hl
    | some ds=>
      rw [hpt] at hl;cases hl
      obtain ⟨h1,h2⟩:=part_spec hpt
      refine ⟨b,p+off,rfl,by simp [h1],fun j x hj=>?_⟩
      rw [nth_map] at hj
      cases hd:nth ds j with
      | none=>rw [hd] at hj;cases hj
      | some d=>
        rw [hd] at hj;cases hj
        refine ⟨vs (off+j),?_,R_ofD (hrd _ _ (part_mem hpt hd))⟩
        rw [Nat.add_assoc];exact hc _ _ (part_mem hpt hd)
  | any=>cases hl
  | int k n=>cases hl
  | bool b=>cases hl
  | lst t rows=>cases hl
  | nils=>cases hl
  | sl o ver off len=>cases hl
  | map o=>cases hl
  | fn f agg a b=>cases hl
  | yld o=>cases hl
  | nilfn=>cases hl
  | nilp=>cases hl
  | psl=>cases hl
  | ls=>cases hl
  | lpt c=>
    cases hr with
    | @lpt _ v b p hK hc hr=>
    simp only [loadC] at hl
    by_cases e:n=1
    · rw [if_pos e] at hl;cases hl
      refine ⟨b,p,rfl,by rw [e];rfl,fun j x hj=>?_⟩
      cases j with
      | zero=>cases hj;exact ⟨v,hc,hr⟩
      | succ j=>cases hj
    · rw [if_neg e] at hl;cases hl
end Am
namespace Am
open Go
section
variable {P:Program} {cfg:Cfg}
theorem RW.move {h:List Obj} {pl:Nat→Pl} {fo:Kept} {w:World} (hW:RW P cfg h pl fo w) {o r b:Nat} {cs:List C} {x:Obj} {p:Pl} {ob:Go.Obj} (ho:getH h o = .cells cs) (hb:(pl o).blk=some b)
    (hr:getH h r = .none) (hrl:r<h.length) (hxm:x.mutable=true) (hp:p.blk=some b)
    (hro:(mkEnv h pl fo w).Le (mkEnv (setH (setH h o gone) r x) (updP (updP pl o ⟨none,0⟩) r p) fo (w.setBlk b ob))→RO' P cfg (mkEnv (setH (setH h o gone) r x) (updP (updP pl o ⟨none,0⟩) r p) fo (w.setBlk b ob)) p x) (hob:thawed ob=true:=by rfl) :
    RW P cfg (setH (setH h o gone) r x) (updP (updP pl o ⟨none,0⟩) r p) fo (w.setBlk b ob)∧HLe h pl (setH (setH h o gone) r x) (updP (updP pl o ⟨none,0⟩) r p)∧Fr h pl w (setH (setH h o gone) r x) (updP (updP pl o ⟨none,0⟩) r p) (w.setBlk b ob):=by
  have hn:getH h o ≠ .none:=by rw [ho];simp
  have hol:=getH_lt hn
  have hor:o≠r:=fun e=>hn (e ▸ hr)
  have hg:∀o',getH (setH (setH h o gone) r x) o'=if o'=r then x else if o'=o then gone else getH h o':=fun o'=>by
    rw [getH_setH,getH_setH,setH_len]
    by_cases e:o'=r
    · rw [if_pos ⟨e,hrl⟩,if_pos e]
    · rw [if_neg (fun a=>e a.1),if_neg e]
      by_cases e2:o'=o
      · rw [if_pos ⟨e2,hol⟩,if_pos e2]
      · rw [if_neg (fun a=>e2 a.1),if_neg e2]
  have hq:∀o',updP (updP pl o ⟨none,0⟩) r p o'=if o'=r then p else if o'=o then ⟨none,0⟩ else pl o':=fun o'=>rfl
  have hm:(getH h o).mutable=true:=by rw [ho];rfl
  have hle:HLe h pl (setH (setH h o gone) r x) (updP (updP pl o ⟨none,0⟩) r p):=⟨fun o'=>by
    rw [hg]
    by_cases e:o'=r
    · rw [e,hr];trivial
    · rw [if_neg e]
      by_cases e2:o'=o
      · rw [if_pos e2,e2,ho];exact .inr ⟨_,_,_,_,rfl⟩
      · rw [if_neg e2];exact Obj.le_refl _,fun o' h1 h2=>by
    rw [hq]
    by_cases e:o'=r
    · rw [e] at h1;exact (h1 hr).elim
    · rw [if_neg e]
      by_cases e2:o'=o
      · rw [hg,if_neg e,if_pos e2,e2,ho] at h2;exact h2.elim
      · rw [if_neg e2]⟩
  have hown:∀b',owned (setH (setH h o gone) r x) (updP (updP pl o ⟨none,0⟩) r p) b'↔owned h pl b':=by
    intro b'
    constructor
    · rintro ⟨o',h1,h2⟩
      rw [hg] at h1
      rw [hq] at h2
      by_cases e:o'=r
      · rw [if_pos e,hp] at h2;exact ⟨o,hm,by rw [hb];exact h2⟩
      · rw [if_neg e] at h1 h2
        by_cases e2:o'=o
        · rw [if_pos e2] at h2;cases h2
        · rw [if_neg e2] at h1 h2;exact ⟨o',h1,h2⟩
    · rintro ⟨o',h1,h2⟩
      by_cases e:o'=o
      · refine ⟨r,by rw [hg,if_pos rfl];exact hxm,?_⟩
        rw [hq,if_pos rfl,hp,←hb,←e];exact h2
      · have er:o'≠r:=fun e=>by rw [e,hr] at h1;cases h1
        exact ⟨o',by rw [hg,if_neg er,if_neg e];exact h1,by rw [hq,if_neg er,if_neg e];exact h2⟩
  have hfr:Fr h pl w (setH (setH h o gone) r x) (updP (updP pl o ⟨none,0⟩) r p) (w.setBlk b ob):=⟨Still.set (hW.isThawed hn hb) hob,fun b' _ hno=>setBlk_ne _ _ _ _ (fun e=>hno (e ▸ ⟨o,hm,hb⟩)),fun b' _ hno=>fun ho=>hno ((hown b').1 ho)⟩
  have hE:=Env.le_of (fo:=fo) hle hfr
  refine ⟨⟨fun o'=>?_,?_,?_⟩,hle,hfr⟩
  · rw [hg,hq]
    by_cases e:o'=r
    · rw [if_pos e,if_pos e];exact hro hE
    · rw [if_neg e,if_neg e]
      by_cases e2:o'=o
      · rw [if_pos e2,if_pos e2]
        exact ⟨Nat.le_refl _,fun i row hi=>(by cases hi),rfl⟩
      · rw [if_neg e2,if_neg e2]
        by_cases hz:getH h o' = .none
        · rw [hz];trivial
        · exact (hW.obj o').mono hE fun b' hb'=>setBlk_ne _ _ _ _ (fun e3=>hW.ne o' o b' e2 hz hn hb' (e3 ▸ hb))
  · intro o1 o2 b' hne h1 h2 hb1 hb2
    rw [hg] at h1 h2
    rw [hq] at hb1 hb2
    by_cases e1:o1=r
    · rw [if_pos e1,hp] at hb1
      have e2:o2≠r:=fun e=>hne (e1.trans e.symm)
      rw [if_neg e2] at h2 hb2
      by_cases e3:o2=o
      · rw [if_pos e3] at hb2;cases hb2
      · rw [if_neg e3] at h2 hb2
        exact hW.ne o2 o b' e3 h2 hn hb2 (hb.trans hb1)
    · rw [if_neg e1] at h1 hb1
      by_cases e3:o1=o
      · rw [if_pos e3] at hb1;cases hb1
      · rw [if_neg e3] at h1 hb1
        by_cases e2:o2=r
        · rw [if_pos e2,hp] at hb2
          exact hW.ne o1 o b' e3 h1 hn hb1 (hb.trans hb2)
        · rw [if_neg e2] at h2 hb2
          by_cases e4:o2=o
          · rw [if_pos e4] at hb2;cases hb2
          · rw [if_neg e4] at h2 hb2
            exact hW.ne o1 o2 b' hne h1 h2 hb1 hb2
  · intro o' b' h1 h2
    rw [hg] at h1
    rw [hq] at h2
    by_cases e:o'=r
    · rw [if_pos e,hp] at h2;exact hW.fo o b' hn (hb.trans h2)
    · rw [if_neg e] at h1 h2
      by_cases e2:o'=o
      · rw [if_pos e2] at h2;cases h2
      · rw [if_neg e2] at h1 h2;exact hW.fo o' b' h1 h2
theorem RW.giveup {h:List Obj} {pl:Nat→Pl} {fo:Kept} {w:World} (hW:RW P cfg h pl fo w) {o:Nat} {cs:List C} (ho:getH h o = .cells cs) :
    RW P cfg (setH h o gone) pl fo w∧HLe h pl (setH h o gone) pl∧Fr h pl w (setH h o gone) pl w:=by
  have hn:getH h o ≠ .none:=by rw [ho];simp
  have hol:=getH_lt hn
  have hg:∀o',getH (setH h o gone) o'=if o'=o then gone else getH h o':=fun o'=>by
    rw [getH_setH];by_cases e:o'=o
    · rw [if_pos ⟨e,hol⟩,if_pos e]
    · rw [if_neg (fun a=>e a.1),if_neg e]
  have hle:HLe h pl (setH h o gone) pl:=⟨fun o'=>by
    rw [hg];by_cases e:o'=o
    · rw [if_pos e,e,ho];exact .inr ⟨_,_,_,_,rfl⟩
    · rw [if_neg e];exact Obj.le_refl _,fun _ _ _=>rfl⟩
  have hown:∀b',owned (setH h o gone) pl b'→owned h pl b':=by
    rintro b' ⟨o',h1,h2⟩
    rw [hg] at h1
    by_cases e:o'=o
    · rw [if_pos e] at h1;cases h1
    · rw [if_neg e] at h1;exact ⟨o',h1,h2⟩
  have hfr:Fr h pl w (setH h o gone) pl w:=⟨Still.refl _,fun _ _ _=>rfl,fun b' _ hno ho=>hno (hown b' ho)⟩
  have hE:=Env.le_of (fo:=fo) hle hfr
  have hnn:∀o',getH (setH h o gone) o' ≠ .none→getH h o' ≠ .none:=fun o' h1=>by
    rw [hg] at h1
    by_cases e:o'=o
    · rw [e];exact hn
    · rw [if_neg e] at h1;exact h1
  refine ⟨⟨fun o'=>?_,fun o1 o2 b' hne h1 h2 hb1 hb2=>hW.ne o1 o2 b' hne (hnn _ h1) (hnn _ h2) hb1 hb2,fun o' b' h1 h2=>hW.fo o' b' (hnn _ h1) h2⟩,hle,hfr⟩
  rw [hg]
  by_cases e:o'=o
  · rw [if_pos e,e]
    have hro:=hW.obj o
    rw [ho] at hro
    obtain ⟨b,arr,T,hb,hblk,_⟩:=hro
    refine ⟨Nat.zero_le _,fun i row hi=>(by cases hi),?_⟩
    rw [hb]
    exact ⟨arr,T,hblk,by simp,fun i row j d hi=>(by cases hi)⟩
  · rw [if_neg e];exact (hW.obj o').mono hE fun _ _=>rfl
end
end Am
namespace Am
open Go
variable {P:Program} {cfg:Cfg}
theorem ofConstC_ok {E:Env} {v:Value} {c:C} (h:ofConstC v=some c):R E c v:=by
  unfold ofConstC at h
  split at h
  · cases h;exact .int _ _
  · cases h;exact .bool _
  · cases h;exact .nils
  · cases h;exact .nilp
  · cases h;exact .nilfn
  · rename_i f a b
    by_cases e:a.size=0∧b.size=0
    · rw [if_pos e] at h;cases h
      exact .fn (fun _=>undef) (fun _=>undef) (by simp [Array.eq_empty_of_size_eq_zero e.1]) (by simp [Array.eq_empty_of_size_eq_zero e.2]) (fun i c h=>by cases h) (fun i c h=>by cases h)
    · rw [if_neg e] at h;cases h
  · cases h;exact .any _
  · cases h;exact .any _
  · cases h;exact .any _
  · cases h
theorem ofConstCs_ok {E:Env}:∀{vs:List Value} {cs:List C},ofConstCs vs=some cs→cs.length=vs.length∧∀(i:Nat) (c:C),nth cs i=some c→∃v,nth vs i=some v∧R E c v
  | [],cs,h=>by cases h;exact ⟨rfl,fun i c h=>by cases h⟩
  | v::vs,cs,h=>by
    unfold ofConstCs at h
    split at h
    · rename_i c cs' h1 h2
      cases h
      obtain ⟨a,b⟩:=ofConstCs_ok (E:=E) h2
      refine ⟨by simp [a],fun i x hx=>?_⟩
      cases i with
      | zero=>cases hx;exact ⟨v,rfl,ofConstC_ok h1⟩
      | succ i=>exact b i x hx
    · cases h
theorem RL_ofConstCs {E:Env} {vs:Array Value} {cs:List C} (h:ofConstCs vs.toList=some cs):RL E cs vs:=by
  obtain ⟨a,b⟩:=ofConstCs_ok (E:=E) h
  refine ⟨by simp [a],fun i c hc=>?_⟩
  obtain ⟨v,h1,h2⟩:=b i c hc
  rw [nth_get] at h1
  have:vs.getD i undef=v:=by
    have:=(Array.getElem?_toList (xs:=vs) (i:=i)).symm.trans h1
    simp [Array.getD_eq_getD_getElem?,this]
  rw [this];exact h2
theorem ofConst_ok {E:Env} {v:Value} {x:V} (h:ofConst v=some x):RV E x v:=by
  unfold ofConst at h
  split at h
  · rename_i cs
    cases hc:ofConstCs cs.toList with
    | none=>rw [hc] at h;cases h
    | some l=>
      rw [hc] at h;cases h
      obtain ⟨a,b⟩:=RL_ofConstCs (E:=E) hc
      exact .agg a b
  · rename_i vs
    by_cases e:vs.size=0
    · rw [if_pos e] at h;cases h;exact .tup e fun i x h=>by cases h
    · rw [if_neg e] at h;cases h
  · cases hc:ofConstC v with
    | none=>rw [hc] at h;cases h
    | some c=>rw [hc] at h;cases h;exact .c (ofConstC_ok hc)
def Rho (s:List V) (E:Env) (ρ:Operand→Value):Prop:=∀x y,cOpd x=some y→RV E (y.ev s) (ρ x)
theorem Rho.of {E:Env} {s:List V} {tmps:Array Value} (h:RS E s tmps) {ρ:Operand→Value} (h1:∀t,ρ (.tmp t)=tmps.getD t undef) (h2:∀v,ρ (.const v)=v) (h3:∀f,ρ (.func f) = .func (.func f) #[] #[]):Rho s E ρ:=by
  intro x y hx
  cases x with
  | tmp t=>cases hx;rw [h1];exact h.2 t
  | const v=>
    simp only [cOpd] at hx
    cases hc:ofConst v with
    | none=>rw [hc] at hx;cases hx
    | some z=>rw [hc] at hx;cases hx;rw [h2];exact ofConst_ok hc
  | func f=>cases hx;rw [h3];exact .c (.fn (fun _=>undef) (fun _=>undef) (by simp) (by simp) (fun i c h=>by cases h) (fun i c h=>by cases h))
  | global g=>cases hx
def OpRes (P:Program) (cfg:Cfg) (h:List Obj) (pl:Nat→Pl) (fo:Kept) (w:World) (res:Result Next) (v:V) (h':List Obj):Prop:=
  ∃cv w' pl',(res = .ok (.value cv) w'∨(res = .ok .skip w'∧cv=undef))∧RV (mkEnv h' pl' fo w') v cv∧RW P cfg h' pl' fo w'∧HLe h pl h' pl'∧Fr h pl w h' pl' w'
section
variable {h:List Obj} {pl:Nat→Pl} {fo:Kept} {w:World} {s:List V} {ρ:Operand→Value}
theorem OpRes.pure (hW:RW P cfg h pl fo w) {res:Result Next} {v:V} {cv:Value} (e:res = .ok (.value cv) w) (hv:RV (mkEnv h pl fo w) v cv):OpRes P cfg h pl fo w res v h:=
  ⟨cv,w,pl,.inl e,hv,hW,HLe.refl _ _,Fr.refl _ _ _⟩
theorem RV.c_inv {E:Env} {x:C} {v:Value} (h:RV E (.c x) v):R E x v:=by cases h;assumption
theorem R.int_inv {E:Env} {k:IntKind} {n:Int} {v:Value} (h:R E (.int k n) v):v = .int k n:=by cases h;rfl
theorem R.bool_inv {E:Env} {b:Bool} {v:Value} (h:R E (.bool b) v):v = .bool b:=by cases h;rfl
@[simp] theorem run_underlying' (t : TypeId) (w : World) : (underlying t).run P w = match P.underlying t with | some d => .ok d w | none => .halt (.stuck "no such type") w := by
  unfold underlying;simp;cases P.underlying t<;>rfl
@[simp] theorem run_sizeOf' (t : TypeId) (w : World) : (Go.sizeOf t).run P w = match P.info? t with | some i => .ok i.size w | none => .halt (.stuck "no such type") w := by
  unfold Go.sizeOf typeInfo;simp;cases P.info? t<;>rfl
@[simp] theorem run_typeInfo' (t : TypeId) (w : World) : (typeInfo t).run P w = match P.info? t with | some i => .ok i w | none => .halt (.stuck "no such type") w := by
  unfold typeInfo;simp;cases P.info? t<;>rfl
theorem sizeT_info {t n:Nat} (h:sizeT P t=some n):∃i,P.info? t=some i∧i.size=n:=by
  unfold sizeT at h;cases hi:P.info? t with
  | none=>rw [hi] at h;cases h
  | some i=>rw [hi] at h;cases h;exact ⟨i,rfl,rfl⟩
theorem run_isAgg' {t:TypeId} {b:Bool} (h:isAgg P t=some b) (w:World):(Go.isAgg t).run P w = .ok b w:=by
  unfold isAgg at h
  unfold Go.isAgg
  cases hu:P.underlying t with
  | none=>rw [hu] at h;cases h
  | some d=>rw [hu] at h;simp [hu];cases d<;>cases h<;>rfl
theorem shapeT_cases {t:Nat} {n:Option Nat} (h:shapeT P t=some n):(∃m,n=some m∧isAgg P t=some true∧sizeT P t=some m)∨(n=none∧isAgg P t=some false∧sizeT P t=some 1):=by
  unfold shapeT at h
  split at h
  · rename_i n' h1 h2;cases h;exact .inl ⟨_,rfl,h1,h2⟩
  · rename_i h1 h2;cases h;exact .inr ⟨rfl,h1,h2⟩
  · cases h
theorem shapeT_size {t:Nat} {n:Option Nat} (h:shapeT P t=some n):sizeT P t=some (num n):=by
  rcases shapeT_cases h with ⟨m,rfl,_,h2⟩ | ⟨rfl,_,h2⟩<;>exact h2
theorem RV_ofCells_agg {E:Env} {cs:List C} {vs:List Value} {m:Nat} {v:V} (hv:V.ofCells (some m) cs=some v) (hn:vs.length=cs.length) (hr:∀(j:Nat) (x:C),nth cs j=some x→∃y,nth vs j=some y∧R E x y):RV E v (.agg vs.toArray):=by
  unfold V.ofCells at hv
  simp only at hv
  by_cases e:cs.length=m
  · rw [if_pos e] at hv;cases hv
    refine .agg (by simp [hn]) fun i c hc=>?_
    obtain ⟨y,h1,h2⟩:=hr i c hc
    rw [nth_get] at h1
    have:vs.toArray.getD i undef=y:=by simp [Array.getD_eq_getD_getElem?,h1]
    rw [this];exact h2
  · rw [if_neg e] at hv;cases hv
theorem ofCells_one {cs:List C} {v:V} (hv:V.ofCells none cs=some v):∃x,cs=[x]∧v = .c x:=by
  unfold V.ofCells at hv
  cases cs with
  | nil=>cases hv
  | cons x l=>cases l with
    | nil=>cases hv;exact ⟨x,rfl,rfl⟩
    | cons _ _=>cases hv
theorem cells_list {E:Env} {cs:List C} {b p:Nat} (hr:∀(j:Nat) (x:C),nth cs j=some x→∃y,cellAt E.w b (p+j)=some y∧R E x y) :
    ∃vs:List Value,vs.length=cs.length∧E.w.rangeAt b p vs∧∀(j:Nat) (x:C),nth cs j=some x→∃y,nth vs j=some y∧R E x y:=by
  induction cs generalizing p with
  | nil=>exact ⟨[],rfl,fun j v h=>by simp at h,fun j x h=>by cases h⟩
  | cons c cs ih=>
    obtain ⟨y,h1,h2⟩:=hr 0 c rfl
    obtain ⟨vs,a,b',c'⟩:=ih (p:=p+1) (fun j x hx=>by have:=hr (j+1) x hx;rwa [show p+(j+1)=p+1+j by omega] at this)
    refine ⟨y::vs,by simp [a],fun j v hv=>?_,fun j x hx=>?_⟩
    · cases j with
      | zero=>simp at hv;subst hv;exact h1
      | succ j=>have:=b' j v (by simpa using hv);rwa [show p+1+j=p+(j+1) by omega] at this
    · cases j with
      | zero=>cases hx;exact ⟨y,rfl,h2⟩
      | succ j=>exact c' j x hx
theorem loadVar_ok (hW:RW P cfg h pl fo w) {t:Nat} {n:Option Nat} (ht:shapeT P t=some n) {c:C} {v:Value} {cs:List C} {x:V} (hr:R (mkEnv h pl fo w) c v) (hl:loadC h (num n) c=some cs) (hx:V.ofCells n cs=some x) :
    ∃b p cv,v = .pointer (some ⟨b,p,none⟩)∧(loadVar t ⟨b,p,none⟩).run P w = .ok cv w∧RV (mkEnv h pl fo w) x cv:=by
  obtain ⟨b,p,rfl,hlen,hc⟩:=load_ok hW hr hl
  refine ⟨b,p,?_⟩
  rcases shapeT_cases ht with ⟨m,rfl,ha,hs⟩ | ⟨rfl,ha,hs⟩
  · obtain ⟨vs,h1,h2,h3⟩:=cells_list (E:=mkEnv h pl fo w) hc
    refine ⟨.agg vs.toArray,rfl,?_,RV_ofCells_agg hx h1 h3⟩
    unfold isAgg at ha
    cases hu:P.underlying t with
    | none=>rw [hu] at ha;cases ha
    | some d=>
      rw [hu] at ha
      exact run_loadVar_mid w b p t vs d h2 hu (by cases d<;>first | rfl | cases ha) (by
        obtain ⟨i,hi,hs'⟩:=sizeT_info hs
        rw [hi];simp only [num,Option.getD_some] at hlen;simp [hs',h1,hlen])
  · obtain ⟨y,rfl,rfl⟩:=ofCells_one hx
    obtain ⟨z,h1,h2⟩:=hc 0 y rfl
    refine ⟨z,rfl,?_,.c h2⟩
    simp only [Nat.add_zero] at h1
    unfold loadVar
    rw [Sem.run_bind,run_isAgg' ha]
    have h1':w.cell? ⟨b,p,none⟩=some z:=h1
    simp [h1']
theorem op_mov (hW:RW P cfg h pl fo w) (hρ:Rho s (mkEnv h pl fo w) ρ) {o:Oper} {x:Operand} {y:Opd} (ho:o.op = .move x∨o.op = .assign x) (hx:cOpd x=some y) :
    OpRes P cfg h pl fo w ((execOp ρ o).run P w) (y.ev s) h:=
  .pure hW (cv:=ρ x) (by rcases ho with ho | ho<;>simp [execOp,ho]) (hρ x y hx)
theorem op_pick (hW:RW P cfg h pl fo w) (hρ:Rho s (mkEnv h pl fo w) ρ) {o:Oper} {c a b:Operand} {c' a' b':Opd} (ho:o.op = .pick c a b) (hc:cOpd c=some c') (ha:cOpd a=some a') (hb:cOpd b=some b')
    {v:V} {wr:Wr} (he:opEv 0 s h (.pick c' a' b')=some (v,wr)):OpRes P cfg h pl fo w ((execOp ρ o).run P w) v (applyW h wr):=by
  have h1:=hρ c c' hc
  simp only [opEv] at he
  split at he
  · rename_i e;rw [e] at h1;have:=h1.c_inv.bool_inv;cases he
    exact .pure hW (cv:=ρ a) (by simp [execOp,ho,this,asBool]) (hρ a a' ha)
  · rename_i e;rw [e] at h1;have:=h1.c_inv.bool_inv;cases he
    exact .pure hW (cv:=ρ b) (by simp [execOp,ho,this,asBool]) (hρ b b' hb)
  · cases he
theorem op_load (hW:RW P cfg h pl fo w) (hρ:Rho s (mkEnv h pl fo w) ρ) {o:Oper} {t:Nat} {a:Operand} {n:Option Nat} {a':Opd} (ho:o.op = .load t a) (ht:shapeT P t=some n) (ha:cOpd a=some a') {r:Nat}
    {v:V} {wr:Wr} (he:opEv r s h (.load n a')=some (v,wr)):OpRes P cfg h pl fo w ((execOp ρ o).run P w) v (applyW h wr):=by
  have h1:=hρ a a' ha
  simp only [opEv] at he
  split at he
  · rename_i c e
    rw [e] at h1
    cases hl:loadC h (num n) c with
    | none=>rw [hl] at he;cases he
    | some cs=>
      rw [hl] at he
      simp only [Option.bind_some] at he
      cases hx:V.ofCells n cs with
      | none=>rw [hx] at he;cases he
      | some x=>
        rw [hx] at he;cases he
        obtain ⟨b,p,cv,hv,hrun,hr⟩:=loadVar_ok hW ht h1.c_inv hl hx
        exact .pure hW (cv:=cv) (by simp [execOp,ho,Instr.loadAt,hv,Instr.sureAddr,hrun]) hr
  · cases he
theorem run_fieldPlace {b p n m:Nat} {f:Field} (hf:sizeT P f.type=some (n+1)) (w:World) (hm:f.offset=m):(fieldPlace ⟨b,p,none⟩ f).run P w = .ok ⟨b,p+m,none⟩ w:=by
  obtain ⟨i,hi,hs⟩:=sizeT_info hf
  unfold fieldPlace
  simp [hi,hs,Addr.add_mid,hm]
theorem op_faddr (hW:RW P cfg h pl fo w) (hρ:Rho s (mkEnv h pl fo w) ρ) {o:Oper} {t k:Nat} {x:Operand} {x':Opd} (ho:o.op = .fieldAddr t x k) {fs:Array Field} {f:Field} {n:Nat} (hu:P.underlying t=some (.struct fs)) (hf:fs[k]?=some f)
    (hsz:sizeT P f.type=some (n+1)) (hx:cOpd x=some x') {r:Nat} {v:V} {wr:Wr} (he:opEv r s h (.faddr f.offset x')=some (v,wr)):OpRes P cfg h pl fo w ((execOp ρ o).run P w) v (applyW h wr):=by
  have h1:=hρ x x' hx
  have hrun:∀b p,ρ x = .pointer (some ⟨b,p,none⟩)→(execOp ρ o).run P w = .ok (.value (.pointer (some ⟨b,p+f.offset,none⟩))) w:=fun b p e=>by
    simp [execOp,ho,Instr.fieldAt,hu,hf,e,Instr.sureAddr,run_fieldPlace hsz w rfl]
  simp only [opEv] at he
  split at he
  · rename_i o' f' e;rw [e] at h1;cases he
    generalize hv:ρ x=v at h1
    cases h1.c_inv with
    | ptr hb=>exact .pure hW (hrun _ _ hv) (.c (.ptr hb))
  · rename_i o' ver i f' e;rw [e] at h1;cases he
    generalize hv:ρ x=v at h1
    cases h1.c_inv with
    | aptr ho' hver hb=>exact .pure hW (hrun _ _ hv) (.c (by rw [Nat.add_assoc];exact .aptr ho' hver hb))
  · rename_i t' row f' e;rw [e] at h1;cases he
    generalize hv:ρ x=v at h1
    cases h1.c_inv with
    | ept vs hK hc hr=>exact .pure hW (hrun _ _ hv) (.c (by rw [Nat.add_assoc];exact .ept vs hK hc hr))
  · cases he
theorem op_iaddr (hW:RW P cfg h pl fo w) (hρ:Rho s (mkEnv h pl fo w) ρ) {o:Oper} {t e sz:Nat} {x i:Operand} {x' i':Opd} (ho:o.op = .indexAddr t x i) (hu:P.underlying t=some (.slice e)) (hsz:sizeT P e=some sz)
    (hx:cOpd x=some x') (hi:cOpd i=some i') {r:Nat} {v:V} {wr:Wr} (he:opEv r s h (.iaddr sz x' i')=some (v,wr)):OpRes P cfg h pl fo w ((execOp ρ o).run P w) v (applyW h wr):=by
  have h1:=hρ x x' hx
  have h2:=hρ i i' hi
  obtain ⟨ti,hti,hts⟩:=sizeT_info hsz
  have hrun:∀b p len cap k (n:Int),ρ x = .slice (some ⟨b,p,none⟩) len cap→ρ i = .int k n→0≤n→n<len→(execOp ρ o).run P w = .ok (.value (.pointer (some ⟨b,p+n.toNat*sz,none⟩))) w:=fun b p len cap k n e1 e2 l1 l2=>by
    simp [execOp,ho,Instr.indexAt,hu,e1,e2,asIntOf,l1,l2,hti,hts,Addr.add_mid]
  simp only [opEv] at he
  split at he
  · rename_i c k n ex ei
    rw [ex] at h1;rw [ei] at h2
    cases hel:elemC h sz c n with
    | none=>rw [hel] at he;cases he
    | some q=>
      rw [hel] at he;cases he
      cases c<;>simp only [elemC] at hel<;>try (cases hel;done)
      case lst tg rows=>
        by_cases hn:0≤n
        · rw [if_pos hn] at hel
          split at hel
          · rename_i row hrow
            by_cases hl:row.length=sz
            · rw [if_pos hl] at hel;cases hel
              generalize hv:ρ x=v at h1
              cases h1.c_inv with
              | lst hrd=>
                cases hrd with
                | nil a cap=>cases hrow
                | @lst _ b off cap sz' vs hK hcap hs hc hr=>
                  have hlt:=nth_lt hrow
                  have:sz'=sz:=by rw [←hl];exact (hs _ _ hrow).symm
                  subst this
                  refine .pure hW (hrun _ _ _ _ _ _ hv h2.c_inv.int_inv hn (by omega)) (.c ?_)
                  exact .ept (p:=off+n.toNat*sz') (off:=0) (fun j=>vs n.toNat j) hK (fun j d hj=>hc _ _ _ _ hrow hj) (fun j d hj=>hr _ _ _ _ hrow hj)
            · rw [if_neg hl] at hel;cases hel
          · cases hel
        · rw [if_neg hn] at hel;cases hel
      case sl o' ver off len=>
        by_cases hn:0≤n∧n<len
        · rw [if_pos hn] at hel
          split at hel
          · rename_i fz ver' sz' rows hobj
            by_cases hc:ver'=ver∧sz'=sz
            · rw [if_pos hc] at hel;cases hel
              obtain ⟨rfl,rfl⟩:=hc
              generalize hv:ρ x=v at h1
              cases h1.c_inv with
              | @sl _ _ _ _ cap a fz2 ver2 sz2 rows2 ho' hver hl hb=>
                have ho2:getH h o' = .arr fz2 ver2 sz2 rows2:=ho'
                rw [hobj] at ho2;cases ho2
                obtain ⟨hlen,hb⟩:=hb rfl
                have hlt:n.toNat<len:=by omega
                rcases hb with ⟨b,hb1,rfl,rfl⟩ | ⟨_,_,rfl⟩ | ⟨_,rfl⟩
                · refine .pure hW (hrun _ _ _ _ _ _ hv h2.c_inv.int_inv hn.1 hn.2) (.c ?_)
                  have:=R.aptr (E:=mkEnv h pl fo w) (o:=o') (ver:=ver') (i:=off+n.toNat) (off:=0) (b:=b) ho' (Nat.le_refl _) (fun _=>hb1)
                  rwa [Nat.add_mul,Nat.add_zero] at this
                · omega
                · omega
            · rw [if_neg hc] at hel;cases hel
          · cases hel
        · rw [if_neg hn] at hel;cases hel
      case psl o' off len=>
        by_cases hn:0≤n∧n<len∧sz=1
        · rw [if_pos hn] at hel;cases hel
          obtain ⟨hn0,hn1,rfl⟩:=hn
          generalize hv:ρ x=v at h1
          cases h1.c_inv with
          | @psl _ _ _ cap b a hb hl ha _=>
            rcases ha with rfl | rfl
            · omega
            · refine .pure hW (hrun _ _ _ _ _ _ hv h2.c_inv.int_inv hn0 hn1) (.c ?_)
              rw [Nat.mul_one]
              exact .ptr hb
        · rw [if_neg hn] at hel;cases hel
      case ls cs=>
        by_cases hn:0≤n∧sz=1
        · rw [if_pos hn] at hel
          obtain ⟨hn0,rfl⟩:=hn
          cases hq:nth cs n.toNat with
          | none=>rw [hq] at hel;cases hel
          | some c=>
            rw [hq] at hel;cases hel
            have hlt:=nth_lt hq
            generalize hv:ρ x=v at h1
            cases h1.c_inv with
            | @ls _ b off cap vs hK hl hc hr=>
              refine .pure hW (hrun _ _ _ _ _ _ hv h2.c_inv.int_inv hn0 (by omega)) (.c ?_)
              rw [Nat.mul_one]
              exact .lpt hK (hc _ hlt) (hr _ _ hq)
        · rw [if_neg hn] at hel;cases hel
  · cases he
theorem op_iaddrA (hW:RW P cfg h pl fo w) (hρ:Rho s (mkEnv h pl fo w) ρ) {o:Oper} {t e sz len:Nat} {x i:Operand} {x' i':Opd} (ho:o.op = .indexAddr t x i) (hu:P.underlying t=some (.array len e)) (hsz:sizeT P e=some sz)
    (hx:cOpd x=some x') (hi:cOpd i=some i') {r:Nat} {v:V} {wr:Wr} (he:opEv r s h (.iaddrA len sz x' i')=some (v,wr)):OpRes P cfg h pl fo w ((execOp ρ o).run P w) v (applyW h wr):=by
  have h1:=hρ x x' hx
  have h2:=hρ i i' hi
  obtain ⟨ti,hti,hts⟩:=sizeT_info hsz
  simp only [opEv] at he
  split at he
  · rename_i o' off k n ex ei
    rw [ex] at h1;rw [ei] at h2
    by_cases hn:0≤n∧n<len
    · rw [if_pos hn] at he;cases he
      generalize hv:ρ x=v at h1
      cases h1.c_inv with
      | ptr hb=>
        exact .pure hW (cv:=.pointer (some ⟨_,off+n.toNat*sz,none⟩)) (by simp [execOp,ho,Instr.indexAt,hu,hv,h2.c_inv.int_inv,asIntOf,hn.1,hn.2,hti,hts,Addr.add_mid,Instr.sureAddr]) (.c (.ptr hb))
    · rw [if_neg hn] at he;cases he
  · cases he
theorem part_ok {E:Env} {t:Nat} {n:Option Nat} (ht:shapeT P t=some n) {cs cs':List C} {vs:Array Value} {off:Nat} {x:V} (hr:RL E cs vs) (hp:part off (num n) cs=some cs') (hx:V.ofCells n cs'=some x) (w:World) :
    ∃cv,(Go.part t vs off).run P w = .ok cv w∧RV E x cv:=by
  have hs:=shapeT_size ht
  obtain ⟨i,hi,hsi⟩:=sizeT_info hs
  rcases shapeT_cases ht with ⟨m,rfl,ha,_⟩ | ⟨rfl,ha,_⟩
  · obtain ⟨p1,p2⟩:=part_spec hp
    have ple:=part_le hp
    simp only [num,Option.getD_some] at p1 ple hsi
    refine ⟨.agg (vs.extract off (off+m)),?_,?_⟩
    · unfold Go.part;rw [Sem.run_bind,run_isAgg' ha];simp [hi,hsi]
    · unfold V.ofCells at hx
      simp only [p1,if_true] at hx;cases hx
      refine .agg ?_ fun j c hc=>?_
      · simp [p1,hr.1];omega
      · have hm:=part_mem hp hc
        have h3:=hr.2 _ _ hm
        have hj:=nth_lt hc
        have:(vs.extract off (off+m)).getD j undef=vs.getD (off+j) undef:=by
          have:=nth_lt hm
          simp [Array.getD_eq_getD_getElem?,Array.getElem?_extract]
          rw [if_pos (by rw [hr.1];omega)]
        rw [this];exact h3
  · obtain ⟨y,rfl,rfl⟩:=ofCells_one hx
    have hm:nth cs (off+0)=some y:=part_mem hp rfl
    have h3:=hr.2 _ _ hm
    have hlt:=nth_lt hm
    rw [←hr.1] at hlt
    simp only [Nat.add_zero] at h3 hlt
    refine ⟨vs[off],?_,.c (by simpa [Array.getD,hlt] using h3)⟩
    unfold Go.part;rw [Sem.run_bind,run_isAgg' ha];simp [hlt]
theorem RV.agg_inv {E:Env} {cs:List C} {v:Value} (h:RV E (.agg cs) v):∃vs,v = .agg vs∧RL E cs vs:=by
  cases h with
  | agg hn h=>exact ⟨_,rfl,hn,h⟩
theorem op_fld (hW:RW P cfg h pl fo w) (hρ:Rho s (mkEnv h pl fo w) ρ) {o:Oper} {t k:Nat} {x:Operand} {x':Opd} (ho:o.op = .field t x k) {fs:Array Field} {f:Field} {n:Option Nat} (hu:P.underlying t=some (.struct fs)) (hf:fs[k]?=some f)
    (hsh:shapeT P f.type=some n) (hx:cOpd x=some x') {r:Nat} {v:V} {wr:Wr} (he:opEv r s h (.fld f.offset n x')=some (v,wr)):OpRes P cfg h pl fo w ((execOp ρ o).run P w) v (applyW h wr):=by
  have h1:=hρ x x' hx
  simp only [opEv] at he
  split at he
  · rename_i cs e
    rw [e] at h1
    obtain ⟨vs,hv,hr⟩:=h1.agg_inv
    cases hp:part f.offset (num n) cs with
    | none=>rw [hp] at he;cases he
    | some cs'=>
      rw [hp] at he;simp only [Option.bind_some] at he
      cases hy:V.ofCells n cs' with
      | none=>rw [hy] at he;cases he
      | some y=>
        rw [hy] at he;cases he
        obtain ⟨cv,hrun,hr'⟩:=part_ok hsh hr hp hy w
        exact .pure hW (cv:=cv) (by simp [execOp,ho,Instr.field,hu,hf,hv,asAgg,hrun]) hr'
  · cases he
theorem op_idx (hW:RW P cfg h pl fo w) (hρ:Rho s (mkEnv h pl fo w) ρ) {o:Oper} {t e sz len:Nat} {n:Option Nat} {x i:Operand} {x' i':Opd} (ho:o.op = .index t x i) (hu:P.underlying t=some (.array len e)) (hsz:sizeT P e=some sz) (hsh:shapeT P e=some n)
    (hx:cOpd x=some x') (hi:cOpd i=some i') {r:Nat} {v:V} {wr:Wr} (he:opEv r s h (.idx len sz n x' i')=some (v,wr)):OpRes P cfg h pl fo w ((execOp ρ o).run P w) v (applyW h wr):=by
  have h1:=hρ x x' hx
  have h2:=hρ i i' hi
  obtain ⟨ti,hti,hts⟩:=sizeT_info hsz
  simp only [opEv] at he
  split at he
  · rename_i cs kk k ex ei
    rw [ex] at h1;rw [ei] at h2
    obtain ⟨vs,hv,hr⟩:=h1.agg_inv
    by_cases hn:0≤k∧k<len
    · rw [if_pos hn] at he
      cases hp:part (k.toNat*sz) (num n) cs with
      | none=>rw [hp] at he;cases he
      | some cs'=>
        rw [hp] at he;simp only [Option.bind_some] at he
        cases hy:V.ofCells n cs' with
        | none=>rw [hy] at he;cases he
        | some y=>
          rw [hy] at he;cases he
          obtain ⟨cv,hrun,hr'⟩:=part_ok hsh hr hp hy w
          exact .pure hW (cv:=cv) (by simp [execOp,ho,Instr.index,hu,hv,h2.c_inv.int_inv,asIntOf,hn.1,hn.2,hti,hts,hrun]) hr'
    · rw [if_neg hn] at he;cases he
  · cases he
theorem bin_run {op:BinOp} {op':Bin} {t:Nat} {k k':IntKind} {a b:Int} {c:C} (hop:binOf op=some op') (hk:(op'.isShift||k==k')=true) (hb:binI op' k a b=some c) (w:World) :
    ∃cv,(binOp op t (.int k a) (.int k' b)).run P w = .ok cv w∧∀E,R E c cv:=by
  have h0:op'.isShift=false→k=k':=fun h=>by rw [h] at hk;simpa using hk
  cases op with
  | add=>cases hop;obtain rfl:=h0 rfl;cases hb;exact ⟨.int k (k.wrap (a+b)),by simp [binOp,Op.intArith],fun E=>.int _ _⟩
  | sub=>cases hop;obtain rfl:=h0 rfl;cases hb;exact ⟨.int k (k.wrap (a-b)),by simp [binOp,Op.intArith],fun E=>.int _ _⟩
  | mul=>cases hop;obtain rfl:=h0 rfl;cases hb;exact ⟨.int k (k.wrap (a*b)),by simp [binOp,Op.intArith],fun E=>.int _ _⟩
  | quo=>
    cases hop;obtain rfl:=h0 rfl
    simp only [binI] at hb
    by_cases hb0:b=0
    · rw [if_pos hb0] at hb;cases hb
    · rw [if_neg hb0] at hb;cases hb
      exact ⟨.int k (k.wrap (a.tdiv b)),by simp [binOp,Op.intDiv,hb0],fun E=>.int _ _⟩
  | rem=>
    cases hop;obtain rfl:=h0 rfl
    simp only [binI] at hb
    by_cases hb0:b=0
    · rw [if_pos hb0] at hb;cases hb
    · rw [if_neg hb0] at hb;cases hb
      exact ⟨.int k (a.tmod b),by simp [binOp,Op.intDiv,hb0],fun E=>.int _ _⟩
  | shl=>
    cases hop
    simp only [binI] at hb
    by_cases hb0:b<0
    · rw [if_pos hb0] at hb;cases hb
    · rw [if_neg hb0] at hb;cases hb
      exact ⟨.int k (k.wrap (a*2^(min b.toNat k.bits))),by simp [binOp,Op.shift,hb0],fun E=>.int _ _⟩
  | shr=>
    cases hop
    simp only [binI] at hb
    by_cases hb0:b<0
    · rw [if_pos hb0] at hb;cases hb
    · rw [if_neg hb0] at hb;cases hb
      exact ⟨.int k (a.fdiv (2^(min b.toNat k.bits))),by simp [binOp,Op.shift,hb0],fun E=>.int _ _⟩
  | and=>cases hop;obtain rfl:=h0 rfl;cases hb;exact ⟨.int k (k.wrap (BitVec.ofInt k.bits a &&& BitVec.ofInt k.bits b).toNat),by simp [binOp,Op.intBits],fun E=>.int _ _⟩
  | or=>cases hop;obtain rfl:=h0 rfl;cases hb;exact ⟨.int k (k.wrap (BitVec.ofInt k.bits a ||| BitVec.ofInt k.bits b).toNat),by simp [binOp,Op.intBits],fun E=>.int _ _⟩
  | xor=>cases hop;obtain rfl:=h0 rfl;cases hb;exact ⟨.int k (k.wrap (BitVec.ofInt k.bits a ^^^ BitVec.ofInt k.bits b).toNat),by simp [binOp,Op.intBits],fun E=>.int _ _⟩
  | andNot=>cases hop;obtain rfl:=h0 rfl;cases hb;exact ⟨.int k (k.wrap (BitVec.ofInt k.bits a &&& ~~~ BitVec.ofInt k.bits b).toNat),by simp [binOp,Op.intBits],fun E=>.int _ _⟩
  | eql=>cases hop;obtain rfl:=h0 rfl;cases hb;exact ⟨.bool (a==b),by simp [binOp,Op.intCmp],fun E=>.bool _⟩
  | neq=>cases hop;obtain rfl:=h0 rfl;cases hb;exact ⟨.bool (a != b),by simp [binOp,Op.intCmp],fun E=>.bool _⟩
  | lss=>cases hop;obtain rfl:=h0 rfl;cases hb;exact ⟨.bool (decide (a<b)),by simp [binOp,Op.intCmp],fun E=>.bool _⟩
  | leq=>cases hop;obtain rfl:=h0 rfl;cases hb;exact ⟨.bool (decide (a≤b)),by simp [binOp,Op.intCmp],fun E=>.bool _⟩
  | gtr=>cases hop;obtain rfl:=h0 rfl;cases hb;exact ⟨.bool (decide (a>b)),by simp [binOp,Op.intCmp],fun E=>.bool _⟩
  | geq=>cases hop;obtain rfl:=h0 rfl;cases hb;exact ⟨.bool (decide (a≥b)),by simp [binOp,Op.intCmp],fun E=>.bool _⟩
theorem op_bin (hW:RW P cfg h pl fo w) (hρ:Rho s (mkEnv h pl fo w) ρ) {o:Oper} {t u:Nat} {op:BinOp} {op':Bin} {x y:Operand} {x' y':Opd} (ho:o.op = .binOp op t x y u) (hop:binOf op=some op')
    (hx:cOpd x=some x') (hy:cOpd y=some y') {r:Nat} {v:V} {wr:Wr} (he:opEv r s h (.bin op' x' y')=some (v,wr)):OpRes P cfg h pl fo w ((execOp ρ o).run P w) v (applyW h wr):=by
  have h1:=hρ x x' hx
  have h2:=hρ y y' hy
  simp only [opEv] at he
  generalize hxe:x'.ev s=xv at he
  generalize hye:y'.ev s=yv at he
  unfold binV at he
  split at he
  · rename_i k a k' b
    rw [hxe] at h1;rw [hye] at h2
    have e1:=h1.c_inv.int_inv
    have e2:=h2.c_inv.int_inv
    by_cases hk:(op'.isShift||k==k')=true
    · rw [if_pos hk] at he
      cases hb:binI op' k a b with
      | none=>rw [hb] at he;cases he
      | some c=>
        rw [hb] at he;cases he
        have hg:(eqGuard op t x y (.int k a) (.int k' b)).run P w = .ok () w:=by unfold eqGuard;cases op<;>simp
        obtain ⟨cv,hcv,hr⟩:=bin_run (P:=P) (t:=t) hop hk hb w
        exact .pure hW (cv:=cv) (by simp only [execOp,ho,Sem.run_bind,e1,e2,hg,Result.andThen_ok,hcv,Sem.run_pure]) (.c (hr _))
    · rw [if_neg hk] at he;cases he
  · cases he
theorem equalIn_bool {t d:Nat} (hu:P.underlying t=some .bool) (a b:Bool) (w:World):(Op.equalIn (d+1) t (.bool a) (.bool b)).run P w = .ok (a==b) w:=by
  unfold Op.equalIn;simp [hu]
theorem equal_bool {t:Nat} (hu:P.underlying t=some .bool) (a b:Bool) (w:World):(Op.equal t (.bool a) (.bool b)).run P w = .ok (a==b) w:=equalIn_bool (d:=9999) hu a b w
theorem op_eqB (hW:RW P cfg h pl fo w) (hρ:Rho s (mkEnv h pl fo w) ρ) {o:Oper} {t u:Nat} {op:BinOp} {neg:Bool} {x y:Operand} {x' y':Opd} (ho:o.op = .binOp op t x y u) (hop:op=if neg then .neq else .eql) (hu:P.underlying t=some .bool)
    (hx:cOpd x=some x') (hy:cOpd y=some y') {r:Nat} {v:V} {wr:Wr} (he:opEv r s h (.eqB neg x' y')=some (v,wr)):OpRes P cfg h pl fo w ((execOp ρ o).run P w) v (applyW h wr):=by
  have h1:=hρ x x' hx
  have h2:=hρ y y' hy
  simp only [opEv] at he
  split at he
  · rename_i a b ex ey
    rw [ex] at h1;rw [ey] at h2
    have e1:=h1.c_inv.bool_inv
    have e2:=h2.c_inv.bool_inv
    cases he
    subst hop
    refine .pure hW (cv:=.bool ((a==b) != neg)) ?_ (.c (.bool _))
    cases neg<;>simp [execOp,ho,e1,e2,eqGuard,binOp,equal_bool hu]
  · cases he
theorem op_not (hW:RW P cfg h pl fo w) (hρ:Rho s (mkEnv h pl fo w) ρ) {o:Oper} {t:Nat} {x:Operand} {x':Opd} (ho:o.op = .unOp .not t x) (hx:cOpd x=some x') {r:Nat} {v:V} {wr:Wr} (he:opEv r s h (.not x')=some (v,wr)) :
    OpRes P cfg h pl fo w ((execOp ρ o).run P w) v (applyW h wr):=by
  have h1:=hρ x x' hx
  simp only [opEv] at he
  split at he
  · rename_i b e;rw [e] at h1;have e1:=h1.c_inv.bool_inv;cases he
    exact .pure hW (cv:=.bool !b) (by simp [execOp,ho,e1,Op.unary]) (.c (.bool _))
  · cases he
theorem op_neg (hW:RW P cfg h pl fo w) (hρ:Rho s (mkEnv h pl fo w) ρ) {o:Oper} {t:Nat} {x:Operand} {x':Opd} (ho:o.op = .unOp .neg t x) (hx:cOpd x=some x') {r:Nat} {v:V} {wr:Wr} (he:opEv r s h (.neg x')=some (v,wr)) :
    OpRes P cfg h pl fo w ((execOp ρ o).run P w) v (applyW h wr):=by
  have h1:=hρ x x' hx
  simp only [opEv] at he
  split at he
  · rename_i k n e;rw [e] at h1;have e1:=h1.c_inv.int_inv;cases he
    exact .pure hW (cv:=.int k (k.wrap (0-n))) (by simp [execOp,ho,e1,Op.unary,Op.intArith]) (.c (.int _ _))
  · cases he
theorem op_conv (hW:RW P cfg h pl fo w) (hρ:Rho s (mkEnv h pl fo w) ρ) {o:Oper} {t u:Nat} {k k':IntKind} {x:Operand} {x':Opd} (ho:o.op = .convert t u x) (ht:P.underlying t=some (.int k')) (hu:P.underlying u=some (.int k)) (hx:cOpd x=some x') {r:Nat} {v:V} {wr:Wr}
    (he:opEv r s h (.conv k x')=some (v,wr)):OpRes P cfg h pl fo w ((execOp ρ o).run P w) v (applyW h wr):=by
  have h1:=hρ x x' hx
  simp only [opEv] at he
  split at he
  · rename_i k2 n e;rw [e] at h1;have e1:=h1.c_inv.int_inv;cases he
    exact .pure hW (cv:=.int k (k.wrap n)) (by simp [execOp,ho,e1,convert,ht,hu,Conv.intToInt]) (.c (.int _ _))
  · cases he
theorem op_extract (hW:RW P cfg h pl fo w) (hρ:Rho s (mkEnv h pl fo w) ρ) {o:Oper} {i:Nat} {x:Operand} {x':Opd} (ho:o.op = .extract x i) (hx:cOpd x=some x') {r:Nat} {v:V} {wr:Wr} (he:opEv r s h (.extract i x')=some (v,wr)) :
    OpRes P cfg h pl fo w ((execOp ρ o).run P w) v (applyW h wr):=by
  have h1:=hρ x x' hx
  simp only [opEv] at he
  split at he
  · rename_i vs e
    rw [e] at h1
    cases hn:nth vs i with
    | none=>rw [hn] at he;cases he
    | some y=>
      rw [hn] at he;cases he
      generalize hv:ρ x=v0 at h1
      cases h1 with
      | @tup _ arr hsz hr=>
        have hlt:i<arr.size:=by rw [hsz];exact nth_lt hn
        have:=hr i v hn
        exact .pure hW (cv:=arr[i]) (by simp [execOp,ho,hv,Instr.extract,hlt]) (by simpa [Array.getD,hlt] using this)
  · cases he
theorem op_len (hW:RW P cfg h pl fo w) (hρ:Rho s (mkEnv h pl fo w) ρ) {o:Oper} {t e:Nat} {c:Call} {x:Operand} {x':Opd} (ho:o.op = .call c) (hc:c.callee = .builtin .len) (ha:c.args=#[x]) (ht:c.argTypes[0]?=some t) (hu:P.underlying t=some (.slice e))
    (hx:cOpd x=some x') {r:Nat} {v:V} {wr:Wr} (he:opEv r s h (.len x')=some (v,wr)):OpRes P cfg h pl fo w ((execOp ρ o).run P w) v (applyW h wr):=by
  have h1:=hρ x x' hx
  have hrun:∀a len cap,ρ x = .slice a len cap→(execOp ρ o).run P w = .ok (.value (.int .i64 len)) w:=fun a len cap ex=>by
    simp [execOp,ho,resolve,hc,ha,invoke,builtin,Builtin.len_,ht,ex,hu,goInt]
  simp only [opEv] at he
  generalize hv:ρ x=v0 at h1
  split at he
  · rename_i c ex
    rw [ex] at h1
    cases hel:lenC c with
    | none=>rw [hel] at he;cases he
    | some q=>
      rw [hel] at he;cases he
      cases c<;>simp only [lenC] at hel<;>try (cases hel;done)
      case lst tg rows=>
        cases hel
        cases h1.c_inv with
        | lst hrd=>
          cases hrd with
          | nil a cap=>exact .pure hW (hrun _ _ _ hv) (.c (.int _ _))
          | lst sz vs hK hcap hs hc hr=>exact .pure hW (hrun _ _ _ hv) (.c (.int _ _))
      case nils=>
        cases hel
        cases h1.c_inv with
        | nils=>exact .pure hW (hrun _ _ _ hv) (.c (.int _ _))
      case sl o' ver off len=>
        cases hel
        cases h1.c_inv with
        | sl ho' hver hl hb=>exact .pure hW (hrun _ _ _ hv) (.c (.int _ _))
      case psl o' off len=>
        cases hel
        cases h1.c_inv with
        | psl hb hl ha _=>exact .pure hW (hrun _ _ _ hv) (.c (.int _ _))
      case ls cs=>
        cases hel
        cases h1.c_inv with
        | ls vs hK hl hc hr=>exact .pure hW (hrun _ _ _ hv) (.c (.int _ _))
  · cases he
theorem op_mm (hW:RW P cfg h pl fo w) (hρ:Rho s (mkEnv h pl fo w) ρ) {o:Oper} {c:Call} {isMax:Bool} {x y:Operand} {x' y':Opd} (ho:o.op = .call c) (hc:c.callee = .builtin (if isMax then .max else .min)) (ha:c.args=#[x,y])
    (hx:cOpd x=some x') (hy:cOpd y=some y') {r:Nat} {v:V} {wr:Wr} (he:opEv r s h (.mm isMax x' y')=some (v,wr)):OpRes P cfg h pl fo w ((execOp ρ o).run P w) v (applyW h wr):=by
  have h1:=hρ x x' hx
  have h2:=hρ y y' hy
  simp only [opEv] at he
  split at he
  · rename_i k a k' b ex ey
    rw [ex] at h1;rw [ey] at h2
    have e1:=h1.c_inv.int_inv
    have e2:=h2.c_inv.int_inv
    cases he
    refine .pure hW (cv:=.int k (if isMax then (if b>a then b else a) else (if b<a then b else a))) ?_ (.c (.int _ _))
    cases isMax<;>simp [execOp,ho,resolve,hc,ha,invoke,builtin,Builtin.max_,Builtin.min_,Builtin.max2,Builtin.min2,e1,e2]
  · cases he
end
end Am
namespace Am
open Go
variable {P:Program} {cfg:Cfg}
theorem takeN_append {α:Type} (a b:List α):takeN a.length (a++b)=some a:=by
  induction a with
  | nil=>rfl
  | cons x a ih=>simp [takeN,ih]
theorem part_append {α:Type} {off n:Nat} {l a b:List α} (h:dropN off l=a++b) (hn:a.length=n):part off n l=some a:=by
  unfold part;rw [h,←hn];exact takeN_append a b
theorem dropN_add {α:Type} (m n:Nat) (l:List α):dropN (m+n) l=dropN n (dropN m l):=by
  induction m generalizing l with
  | zero=>simp [dropN]
  | succ m ih=>cases l with
    | nil=>cases n<;>simp [dropN]
    | cons x l=>rw [show m+1+n=(m+n)+1 by omega];simp [dropN,ih]
theorem dropN_append {α:Type} (a b:List α):dropN a.length (a++b)=b:=by
  induction a with
  | nil=>rfl
  | cons x a ih=>simpa [dropN] using ih
theorem eqCs_append : ∀{k1 k2:List (Option IntKind)} {A B:List C} {r:Bool},eqCs (k1++k2) A B=some r →
    ∃A1 A2 B1 B2 r1 r2,A=A1++A2∧B=B1++B2∧A1.length=k1.length∧B1.length=k1.length∧eqCs k1 A1 B1=some r1∧eqCs k2 A2 B2=some r2∧r=(r1&&r2)
  | [],k2,A,B,r,h=>⟨[],A,[],B,true,r,rfl,rfl,rfl,rfl,rfl,h,by simp⟩
  | some k::k1,k2,.int ka a::A,.int kb b::B,r,h=>by
    simp only [List.cons_append,eqCs] at h
    by_cases e:(k==ka&&k==kb)=true
    · rw [if_pos e] at h
      cases he:eqCs (k1++k2) A B with
      | none=>rw [he] at h;cases h
      | some q=>
        rw [he] at h;cases h
        obtain ⟨A1,A2,B1,B2,r1,r2,h1,h2,h3,h4,h5,h6,h7⟩:=eqCs_append he
        exact ⟨.int ka a::A1,A2,.int kb b::B1,B2,(a==b&&r1),r2,by simp [h1],by simp [h2],by simp [h3],by simp [h4],by simp [eqCs,e,h5],h6,by rw [h7,Bool.and_assoc]⟩
    · rw [if_neg e] at h;cases h
  | none::k1,k2,.bool a::A,.bool b::B,r,h=>by
    simp only [List.cons_append,eqCs] at h
    cases he:eqCs (k1++k2) A B with
    | none=>rw [he] at h;cases h
    | some q=>
      rw [he] at h;cases h
      obtain ⟨A1,A2,B1,B2,r1,r2,h1,h2,h3,h4,h5,h6,h7⟩:=eqCs_append he
      exact ⟨.bool a::A1,A2,.bool b::B1,B2,(a==b&&r1),r2,by simp [h1],by simp [h2],by simp [h3],by simp [h4],by simp [eqCs,h5],h6,by rw [h7,Bool.and_assoc]⟩
  | some k::k1,k2,[],B,r,h=>by simp [eqCs] at h
  | some k::k1,k2,.int _ _::A,[],r,h=>by simp [eqCs] at h
  | none::k1,k2,[],B,r,h=>by simp [eqCs] at h
  | none::k1,k2,.bool _::A,[],r,h=>by simp [eqCs] at h
  | some k::k1,k2,a::A,b::B,r,h=>by
    cases a<;>first | (simp [eqCs] at h;done) | (cases b<;>first | (simp [eqCs] at h;done) | exact (by
      simp only [List.cons_append,eqCs] at h
      rename_i ka a' kb b'
      by_cases e:(k==ka&&k==kb)=true
      · rw [if_pos e] at h
        cases he:eqCs (k1++k2) A B with
        | none=>rw [he] at h;cases h
        | some q=>
          rw [he] at h;cases h
          obtain ⟨A1,A2,B1,B2,r1,r2,h1,h2,h3,h4,h5,h6,h7⟩:=eqCs_append he
          exact ⟨.int ka a'::A1,A2,.int kb b'::B1,B2,(a'==b'&&r1),r2,by simp [h1],by simp [h2],by simp [h3],by simp [h4],by simp [eqCs,e,h5],h6,by rw [h7,Bool.and_assoc]⟩
      · rw [if_neg e] at h;cases h))
  | none::k1,k2,a::A,b::B,r,h=>by
    cases a<;>first | (simp [eqCs] at h;done) | (cases b<;>first | (simp [eqCs] at h;done) | exact (by
      simp only [List.cons_append,eqCs] at h
      rename_i a' b'
      cases he:eqCs (k1++k2) A B with
      | none=>rw [he] at h;cases h
      | some q=>
        rw [he] at h;cases h
        obtain ⟨A1,A2,B1,B2,r1,r2,h1,h2,h3,h4,h5,h6,h7⟩:=eqCs_append he
        exact ⟨.bool a'::A1,A2,.bool b'::B1,B2,(a'==b'&&r1),r2,by simp [h1],by simp [h2],by simp [h3],by simp [h4],by simp [eqCs,h5],h6,by rw [h7,Bool.and_assoc]⟩))
def ValT (P:Program) (E:Env) (t:TypeId) (cs:List C) (v:Value):Prop:=∃n x,shapeT P t=some n∧V.ofCells n cs=some x∧RV E x v
theorem ValT_part {E:Env} {t off:Nat} {cs as rest:List C} {vs:Array Value} {n:Nat} (hs:sizeT P t=some n) (hsh:∃k,shapeT P t=some k) (hr:RL E cs vs) (hd:dropN off cs=as++rest) (hn:as.length=n) (w:World) :
    ∃v,(Go.part t vs off).run P w = .ok v w∧ValT P E t as v:=by
  obtain ⟨k,hk⟩:=hsh
  have hnum:num k=n:=by have:=shapeT_size hk;rw [hs] at this;injection this with this;exact this.symm
  have hp:part off (num k) cs=some as:=part_append hd (by rw [hnum];exact hn)
  have hx:∃x,V.ofCells k as=some x:=by
    rcases shapeT_cases hk with ⟨m,rfl,_,_⟩ | ⟨rfl,_,_⟩
    · simp only [num,Option.getD_some] at hnum
      exact ⟨.agg as,by simp [V.ofCells,hn,hnum]⟩
    · simp only [num,Option.getD_none] at hnum
      cases as with
      | nil=>simp at hn;omega
      | cons a l=>cases l with
        | nil=>exact ⟨.c a,rfl⟩
        | cons b l=>simp at hn;omega
  obtain ⟨x,hx⟩:=hx
  obtain ⟨v,h1,h2⟩:=part_ok hk hr hp hx w
  exact ⟨v,h1,k,x,hk,hx,h2⟩
theorem flatK_shape {m t:Nat} {ks:List (Option IntKind)} (h:flatK P m t=some ks) (hs:sizeT P t=some ks.length):∃k,shapeT P t=some k:=by
  cases m with
  | zero=>cases h
  | succ m=>
    unfold flatK at h
    unfold shapeT isAgg
    cases hu:P.underlying t with
    | none=>rw [hu] at h;cases h
    | some d=>
      rw [hu] at h
      cases d<;>simp only at h<;>try cases h
      all_goals (simp [hs])
theorem ValT.agg {E:Env} {t:Nat} {cs:List C} {v:Value} (h:ValT P E t cs v) (ha:isAgg P t=some true):∃vs,v = .agg vs∧RL E cs vs:=by
  obtain ⟨n,x,h1,h2,h3⟩:=h
  rcases shapeT_cases h1 with ⟨m,rfl,_,_⟩ | ⟨rfl,hb,_⟩
  · unfold V.ofCells at h2
    simp only at h2
    by_cases e:cs.length=m
    · rw [if_pos e] at h2;cases h2;exact h3.agg_inv
    · rw [if_neg e] at h2;cases h2
  · rw [ha] at hb;cases hb
theorem ValT.one {E:Env} {t:Nat} {c:C} {v:Value} (h:ValT P E t [c] v) (ha:isAgg P t=some false):R E c v:=by
  obtain ⟨n,x,h1,h2,h3⟩:=h
  rcases shapeT_cases h1 with ⟨m,rfl,hb,_⟩ | ⟨rfl,hb,_⟩
  · rw [ha] at hb;cases hb
  · cases h2;exact h3.c_inv
theorem eqCs_nil {A B:List C} {r:Bool} (h:eqCs [] A B=some r):A=[]∧B=[]∧r=true:=by
  cases A<;>cases B<;>simp_all [eqCs]
theorem eqCs_bool {A B:List C} {r:Bool} (h:eqCs [none] A B=some r):∃a b,A=[.bool a]∧B=[.bool b]∧r=(a==b):=by
  cases A with
  | nil=>simp [eqCs] at h
  | cons a A=>cases B with
    | nil=>cases a<;>simp [eqCs] at h
    | cons b B=>
      cases a<;>cases b<;>simp only [eqCs] at h<;>try cases h
      cases he:eqCs [] A B with
      | none=>rw [he] at h;cases h
      | some q=>
        rw [he] at h
        obtain ⟨rfl,rfl,rfl⟩:=eqCs_nil he
        simp only [Option.map_some,Bool.and_true,Option.some.injEq] at h
        exact ⟨_,_,rfl,rfl,h.symm⟩
theorem eqCs_int {k:IntKind} {A B:List C} {r:Bool} (h:eqCs [some k] A B=some r):∃a b,A=[.int k a]∧B=[.int k b]∧r=(a==b):=by
  cases A with
  | nil=>simp [eqCs] at h
  | cons a A=>cases B with
    | nil=>cases a<;>simp [eqCs] at h
    | cons b B=>
      cases a<;>cases b<;>simp only [eqCs] at h<;>try cases h
      rename_i k1 a k2 b
      by_cases e:(k==k1&&k==k2)=true
      · rw [if_pos e] at h
        simp only [Bool.and_eq_true,beq_iff_eq] at e
        obtain ⟨rfl,rfl⟩:=e
        cases he:eqCs [] A B with
        | none=>rw [he] at h;cases h
        | some q=>
          rw [he] at h
          obtain ⟨rfl,rfl,rfl⟩:=eqCs_nil he
          simp only [Option.map_some,Bool.and_true,Option.some.injEq] at h
          exact ⟨_,_,rfl,rfl,h.symm⟩
      · rw [if_neg e] at h;cases h
theorem equalIn_flat {E:Env} (w:World):∀(m t:Nat) (ks:List (Option IntKind)),flatK P m t=some ks→sizeT P t=some ks.length→∀(as bs:List C) (x y:Value) (r:Bool),ValT P E t as x→ValT P E t bs y→eqCs ks as bs=some r →
    ∀d,(Op.equalIn (d+m) t x y).run P w = .ok r w
  | 0,_,_,h,_,_,_,_,_,_,_,_,_,_=>by cases h
  | m+1,t,ks,h,hs,as,bs,x,y,r,hx,hy,he,d=>by
    unfold flatK at h
    cases hu:P.underlying t with
    | none=>rw [hu] at h;cases h
    | some dd=>
      rw [hu] at h
      cases dd with
      | bool=>
        simp only [Option.some.injEq] at h
        subst h
        have ha:isAgg P t=some false:=by simp [isAgg,hu]
        obtain ⟨a,b,rfl,rfl,rfl⟩:=eqCs_bool he
        have e1:=(hx.one ha).bool_inv
        have e2:=(hy.one ha).bool_inv
        rw [e1,e2]
        exact Am.equalIn_bool (d:=d+m) hu a b w
      | int k=>
        simp only [Option.some.injEq] at h
        subst h
        have ha:isAgg P t=some false:=by simp [isAgg,hu]
        obtain ⟨a,b,rfl,rfl,rfl⟩:=eqCs_int he
        have e1:=(hx.one ha).int_inv
        have e2:=(hy.one ha).int_inv
        rw [e1,e2]
        exact run_equalIn_int w (d+m) t k k a b hu
      | struct fs=>
        simp only at h
        have ha:isAgg P t=some true:=by simp [isAgg,hu]
        obtain ⟨xs,rfl,rx⟩:=hx.agg ha
        obtain ⟨ys,rfl,ry⟩:=hy.agg ha
        by_cases hp:P.stoodInHeld t=true
        · rw [if_pos hp] at h;cases h
        · rw [if_neg hp] at h
          have hf:P.fieldsOf t=fs:=by simp [Program.fieldsOf,hu]
          rw [show d+(m+1)=(d+m)+1 by omega,run_equalIn_struct w (d+m) t xs ys (by rw [hf];exact hu) (by simpa using hp),hf]
          have key:∀(l:List Field) (off:Nat) (ks:List (Option IntKind)) (A B:List C) (r:Bool),flatK.flds P (flatK P m) l off=some ks→dropN off as=A→dropN off bs=B→eqCs ks A B=some r→(Op.eqFields (d+m) xs ys l).run P w = .ok r w:=by
            intro l
            induction l with
            | nil=>
              intro off ks A B r h1 h2 h3 h4
              cases h1
              obtain ⟨_,_,rfl⟩:=eqCs_nil h4
              rfl
            | cons f l ih=>
              intro off ks A B r h1 h2 h3 h4
              unfold flatK.flds at h1
              split at h1
              · rename_i kf sz rest g1 g2 g3
                by_cases hc : f.name ≠ "_" ∧ f.offset = off ∧ kf.length = sz
                · rw [if_pos hc] at h1;cases h1
                  obtain ⟨hn,ho,hl⟩:=hc
                  obtain ⟨A1,A2,B1,B2,r1,r2,q1,q2,q3,q4,q5,q6,q7⟩:=eqCs_append h4
                  subst hl
                  have hsh:=flatK_shape g1 g2
                  obtain ⟨vx,px,tx⟩:=ValT_part (t:=f.type) (off:=f.offset) g2 hsh rx (by rw [ho,h2,q1]) q3 w
                  obtain ⟨vy,py,ty⟩:=ValT_part (t:=f.type) (off:=f.offset) g2 hsh ry (by rw [ho,h3,q2]) q4 w
                  have hq:=equalIn_flat w m f.type kf g1 g2 A1 B1 vx vy r1 tx ty q5 d
                  have hih:=ih (off+kf.length) rest A2 B2 r2 (by rw [g2] at g3;exact g3) (by rw [dropN_add,h2,q1,←q3];exact dropN_append _ _) (by rw [dropN_add,h3,q2,←q4];exact dropN_append _ _) q6
                  simp only [Op.eqFields,hn,ne_eq,not_false_eq_true,if_true,Sem.run_bind,px,py,hq,Result.andThen_ok]
                  cases r1
                  · simp [q7]
                  · simp [q7,hih]
                · rw [if_neg hc] at h1;cases h1
              · cases h1
          exact key fs.toList 0 ks as bs r h rfl rfl he
      | array len e=>
        simp only at h
        have ha:isAgg P t=some true:=by simp [isAgg,hu]
        obtain ⟨xs,rfl,rx⟩:=hx.agg ha
        obtain ⟨ys,rfl,ry⟩:=hy.agg ha
        split at h
        · rename_i ke sz g1 g2
          by_cases hl:ke.length=sz
          · rw [if_pos hl] at h;cases h
            obtain ⟨i,hi,hsz⟩:=sizeT_info g2
            have hce:P.cellsOf e=sz:=by simp [Program.cellsOf,hi,hsz]
            rw [show d+(m+1)=(d+m)+1 by omega,run_equalIn_array w (d+m) xs ys hu hi,hce]
            subst hl
            have hsh:=flatK_shape g1 g2
            have key:∀(k i:Nat) (A B:List C) (r:Bool),dropN (i*ke.length) as=A→dropN (i*ke.length) bs=B→eqCs (List.replicate k ke).flatten A B=some r→(Op.eqItems (d+m) e ke.length xs ys (List.range' i k)).run P w = .ok r w:=by
              intro k
              induction k with
              | zero=>
                intro i A B r h2 h3 h4
                simp only [List.replicate_zero,List.flatten_nil] at h4
                obtain ⟨_,_,rfl⟩:=eqCs_nil h4
                rfl
              | succ k ih=>
                intro i A B r h2 h3 h4
                rw [List.replicate_succ,List.flatten_cons] at h4
                obtain ⟨A1,A2,B1,B2,r1,r2,q1,q2,q3,q4,q5,q6,q7⟩:=eqCs_append h4
                obtain ⟨vx,px,tx⟩:=ValT_part (t:=e) (off:=i*ke.length) g2 hsh rx (by rw [h2,q1]) q3 w
                obtain ⟨vy,py,ty⟩:=ValT_part (t:=e) (off:=i*ke.length) g2 hsh ry (by rw [h3,q2]) q4 w
                have hq:=equalIn_flat w m e ke g1 g2 A1 B1 vx vy r1 tx ty q5 d
                have hih:=ih (i+1) A2 B2 r2 (by rw [Nat.add_mul,Nat.one_mul,dropN_add,h2,q1,←q3];exact dropN_append _ _) (by rw [Nat.add_mul,Nat.one_mul,dropN_add,h3,q2,←q4];exact dropN_append _ _) q6
                rw [List.range'_succ]
                simp only [Op.eqItems,Sem.run_bind,px,py,hq,Result.andThen_ok]
                cases r1
                · simp [q7]
                · simp [q7,hih]
            have:=key len 0 as bs r (by simp [dropN]) (by simp [dropN]) he
            rwa [List.range_eq_range']
          · rw [if_neg hl] at h;cases h
        · cases h
      | _=>cases h
section
variable {h:List Obj} {pl:Nat→Pl} {fo:Kept} {w:World} {s:List V} {ρ:Operand→Value}
theorem ofCells_agg (cs:List C):V.ofCells (some cs.length) cs=some (.agg cs):=by simp [V.ofCells]
theorem eqCs_len : ∀{ks:List (Option IntKind)} {A B:List C} {r:Bool},eqCs ks A B=some r→A.length=ks.length∧B.length=ks.length:=by
  intro ks
  induction ks with
  | nil=>intro A B r h;obtain ⟨rfl,rfl,_⟩:=eqCs_nil h;exact ⟨rfl,rfl⟩
  | cons k ks ih=>
    intro A B r h
    obtain ⟨A1,A2,B1,B2,r1,r2,h1,h2,h3,h4,h5,h6,h7⟩:=eqCs_append (k1:=[k]) (k2:=ks) h
    obtain ⟨a,b⟩:=ih h6
    simp at h3 h4
    subst h1;subst h2
    simp [h3,h4,a,b];omega
theorem op_eqA (hW:RW P cfg h pl fo w) (hρ:Rho s (mkEnv h pl fo w) ρ) {o:Oper} {t u n:Nat} {op:BinOp} {neg:Bool} {ks:List (Option IntKind)} {x y:Operand} {x' y':Opd} (ho:o.op = .binOp op t x y u) (hop:op=if neg then .neq else .eql)
    (ha:isAgg P t=some true) (hk:flatK P 20 t=some ks) (hn:sizeT P t=some n) (hl:ks.length=n) (hg:P.eqGuardType P.depth t=false)
    (hx:cOpd x=some x') (hy:cOpd y=some y') {r:Nat} {v:V} {wr:Wr} (he:opEv r s h (.eqA neg ks x' y')=some (v,wr)):OpRes P cfg h pl fo w ((execOp ρ o).run P w) v (applyW h wr):=by
  have h1:=hρ x x' hx
  have h2:=hρ y y' hy
  simp only [opEv] at he
  split at he
  · rename_i as bs ex ey
    rw [ex] at h1;rw [ey] at h2
    cases hq:eqCs ks as bs with
    | none=>rw [hq] at he;cases he
    | some q=>
      rw [hq] at he;cases he
      subst hl
      obtain ⟨l1,l2⟩:=eqCs_len hq
      have hsh:shapeT P t=some (some ks.length):=by simp [shapeT,ha,hn]
      have vx:ValT P (mkEnv h pl fo w) t as (ρ x):=⟨_,_,hsh,by rw [←l1];exact ofCells_agg as,h1⟩
      have vy:ValT P (mkEnv h pl fo w) t bs (ρ y):=⟨_,_,hsh,by rw [←l2];exact ofCells_agg bs,h2⟩
      have heq:(Op.equal t (ρ x) (ρ y)).run P w = .ok q w:=equalIn_flat w 20 t ks hk hn as bs (ρ x) (ρ y) q vx vy hq 9980
      obtain ⟨xs,e1,_⟩:=h1.agg_inv
      obtain ⟨ys,e2,_⟩:=h2.agg_inv
      have hgd:(eqGuard op t x y (ρ x) (ρ y)).run P w = .ok () w:=by
        rw [e1,e2];unfold eqGuard
        subst hop
        cases neg<;>simp [hg]
      refine .pure hW (cv:=.bool (q != neg)) ?_ (.c (.bool _))
      subst hop
      have hb:(binOp (if neg then .neq else .eql) t (ρ x) (ρ y)).run P w = .ok (.bool (q != neg)) w:=by
        rw [e1,e2] at heq ⊢
        cases neg<;>simp [binOp,heq]
      simp only [execOp,ho,Sem.run_bind,hgd,Result.andThen_ok,hb,Sem.run_pure]
  · cases he
theorem oneCs_ok (hρ:Rho s (mkEnv h pl fo w) ρ):∀{xs:List Operand} {ys:List Opd} {cs:List C},cOpds xs=some ys→oneCs s ys=some cs →
    cs.length=xs.length∧∀(i:Nat) (c:C),nth cs i=some c→R (mkEnv h pl fo w) c ((xs.map ρ).getD i undef)
  | [],ys,cs,h1,h2=>by cases h1;cases h2;exact ⟨rfl,fun i c h=>by cases h⟩
  | x::xs,ys,cs,h1,h2=>by
    unfold cOpds at h1
    split at h1
    · rename_i a as ha has
      cases h1
      unfold oneCs at h2
      split at h2
      · rename_i c cs' hc hcs
        cases h2
        obtain ⟨l,f⟩:=oneCs_ok hρ has hcs
        refine ⟨by simp [l],fun i y hy=>?_⟩
        cases i with
        | zero=>cases hy;have:=hρ x a ha;rw [hc] at this;simpa using this.c_inv
        | succ i=>simpa using f i y hy
      · cases h2
    · cases h1
theorem map_range (vs:Array Value):(Array.range vs.size).map (fun i=>vs.getD i undef)=vs:=by
  apply Array.ext
  · simp
  · intro i h1 h2;simp [Array.getD,h2]
theorem R.mkfn {E:Env} {f:Nat} {agg:Bool} {first caps:List C} {fv cv:Array Value} (h1:(agg=false∧RL E first fv)∨(agg=true∧∃arr,fv=#[.agg arr]∧RL E first arr)) (h2:RL E caps cv):R E (.fn f agg first caps) (.func (.func f) fv cv):=by
  rcases h1 with ⟨rfl,h1⟩ | ⟨rfl,arr,rfl,h1⟩
  · exact .fn (fun i=>fv.getD i undef) (fun i=>cv.getD i undef) (by have:=map_range fv;rw [h1.1] at this;simpa using this.symm) (by rw [←h2.1,map_range]) h1.2 h2.2
  · exact .fn (fun i=>arr.getD i undef) (fun i=>cv.getD i undef) (by have:=map_range arr;rw [h1.1] at this;rw [if_pos rfl,this]) (by rw [←h2.1,map_range]) h1.2 h2.2
theorem RL_of_list {E:Env} {cs:List C} {l:List Value} (h1:cs.length=l.length) (h2:∀(i:Nat) (c:C),nth cs i=some c→R E c (l.getD i undef)):RL E cs l.toArray:=
  ⟨by simp [h1],fun i c hc=>by have:=h2 i c hc;simpa [Array.getD_eq_getD_getElem?,List.getD] using this⟩
theorem op_mkfn (hW:RW P cfg h pl fo w) (hρ:Rho s (mkEnv h pl fo w) ρ) {o:Oper} {f:Nat} {first caps:Array Operand} {first':Option Opd} {caps':List Opd} (ho:o.op = .makeFunc (.func f) first caps)
    (hf:(first.toList=[]∧first'=none)∨∃x y,first.toList=[x]∧first'=some y∧cOpd x=some y) (hc:cOpds caps.toList=some caps') {r:Nat} {v:V} {wr:Wr} (he:opEv r s h (.mkfn f first' caps')=some (v,wr)) :
    OpRes P cfg h pl fo w ((execOp ρ o).run P w) v (applyW h wr):=by
  have hrun:(execOp ρ o).run P w = .ok (.value (.func (.func f) (first.map ρ) (caps.map ρ))) w:=by simp [execOp,ho,Instr.makeFunc]
  have hcm:caps.map ρ=(caps.toList.map ρ).toArray:=by rw [←Array.toList_map,Array.toArray_toList]
  rcases hf with ⟨hf,rfl⟩ | ⟨x,y,hf,rfl,hx⟩
  · have hfe:first=#[]:=by cases first;simpa using hf
    simp only [opEv] at he
    split at he
    · rename_i cs hcs
      cases he
      obtain ⟨l,g⟩:=oneCs_ok hρ hc hcs
      refine .pure hW hrun (.c (R.mkfn (.inl ⟨rfl,?_⟩) (by rw [hcm];exact RL_of_list (by simp [l]) g)))
      subst hfe;exact ⟨by simp,fun i c h=>by cases h⟩
    · cases he
  · have hfe:first=#[x]:=by cases first;simpa using hf
    have h1:=hρ x y hx
    simp only [opEv] at he
    split at he
    · rename_i c cs e hcs
      cases he
      rw [e] at h1
      obtain ⟨l,g⟩:=oneCs_ok hρ hc hcs
      refine .pure hW hrun (.c (R.mkfn (.inl ⟨rfl,?_⟩) (by rw [hcm];exact RL_of_list (by simp [l]) g)))
      subst hfe
      refine ⟨by simp,fun i c' hc'=>?_⟩
      cases i with
      | zero=>cases hc';simpa using h1.c_inv
      | succ i=>cases hc'
    · rename_i ys cs e hcs
      cases he
      rw [e] at h1
      obtain ⟨l,g⟩:=oneCs_ok hρ hc hcs
      obtain ⟨arr,ea,ra⟩:=h1.agg_inv
      refine .pure hW hrun (.c (R.mkfn (.inr ⟨rfl,arr,?_,ra⟩) (by rw [hcm];exact RL_of_list (by simp [l]) g)))
      subst hfe
      simp [ea]
    · cases he
theorem laid_ok {E:Env} {x:V} {v:Value} {l:List C} (hr:RV E x v) (hl:x.laid=some l):RL E l v.cells∧(∀y∈v.cells.toList,y.oneCell'=true)∧(∀(i:Nat) (c:C),nth l i=some c→c ≠ .any):=by
  cases x with
  | tup xs=>cases hl
  | c c=>
    simp only [V.laid] at hl
    by_cases hk:known [c]=true
    · rw [if_pos hk] at hl;cases hl
      have hne:=known_spec hk 0 c rfl
      have hp:=hr.c_inv.plain hne
      have hcell:v.cells=#[v]:=by cases v<;>first | rfl | cases hp
      rw [hcell]
      refine ⟨⟨rfl,fun i c' hc'=>?_⟩,fun y hy=>?_,known_spec hk⟩
      · cases i with
        | zero=>cases hc';exact hr.c_inv
        | succ i=>cases hc'
      · simp at hy;rw [hy];cases v<;>first | rfl | cases hp
    · rw [if_neg hk] at hl;cases hl
  | agg cs=>
    simp only [V.laid] at hl
    by_cases hk:known cs=true
    · rw [if_pos hk] at hl;cases hl
      obtain ⟨arr,rfl,ra⟩:=hr.agg_inv
      refine ⟨ra,fun y hy=>?_,known_spec hk⟩
      obtain ⟨i,hi,rfl⟩:=List.mem_iff_getElem.1 hy
      have hi':i<arr.size:=by simpa [Value.cells] using hi
      obtain ⟨c,hc⟩:=nth_some (l:=_) (i:=i) (show i<_ from ra.1 ▸ hi')
      have:=(ra.2 i c hc).plain (known_spec hk i c hc)
      simp only [Array.getD,hi',dite_true] at this
      simp only [Value.cells,Array.getElem_toList]
      cases hx:arr[i]<;>rw [show arr.getInternal i hi'=arr[i] from rfl,hx] at this<;>first | rfl | cases this
    · rw [if_neg hk] at hl;cases hl
theorem fill_get (off:Nat):∀(l:List Value) (k:Nat) (cells:Array Value),off+k+l.length≤cells.size →
    ((l.zipIdx k).foldl (fun cs (p:Value × Nat)=>cs.setIfInBounds (off+p.2) p.1) cells).size=cells.size ∧
    ∀i,((l.zipIdx k).foldl (fun cs (p:Value × Nat)=>cs.setIfInBounds (off+p.2) p.1) cells).getD i undef=if off+k≤i∧i<off+k+l.length then l.getD (i-(off+k)) undef else cells.getD i undef
  | [],k,cells,h=>⟨rfl,fun i=>by rw [if_neg (by simp)];rfl⟩
  | v::l,k,cells,h=>by
    simp only [List.zipIdx_cons,List.foldl_cons]
    obtain ⟨a,b⟩:=fill_get off l (k+1) (cells.setIfInBounds (off+k) v) (by simp at h ⊢;omega)
    refine ⟨by rw [a];simp,fun i=>?_⟩
    rw [b i]
    simp at h
    by_cases hi:i=off+k
    · subst hi
      rw [if_neg (by omega),if_pos (by simp)]
      simp [Array.getD,show off+k<cells.size by omega]
    · by_cases h2:off+(k+1)≤i∧i<off+(k+1)+l.length
      · rw [if_pos h2,if_pos (by simp;omega),show i-(off+k)=(i-(off+(k+1)))+1 by omega];rfl
      · rw [if_neg h2,if_neg (by simp;omega)]
        simp only [Array.getD_eq_getD_getElem?]
        rw [Array.getElem?_setIfInBounds_ne (fun e=>hi e.symm)]
theorem fill_ok {E:Env} (place:Nat→Option (Nat × Nat)):∀(ps:List (Nat × Operand)) (ps':List (Nat × Nat × Opd)) (cs cs':List C) (cells:Array Value),
    ps.length=ps'.length→(∀(i:Nat) p p',nth ps i=some p→nth ps' i=some p'→place p.1=some (p'.1,p'.2.1)∧RV E (p'.2.2.ev s) (ρ p.2))→RL E cs cells→buildC s ps' cs=some cs' →
    ∃cells',Instr.fill place cells (ps.map fun p=>(p.1,ρ p.2))=some cells'∧RL E cs' cells'
  | [],[],cs,cs',cells,_,_,hr,hb=>by cases hb;exact ⟨cells,rfl,hr⟩
  | [],_::_,_,_,_,hl,_,_,_=>by simp at hl
  | _::_,[],_,_,_,hl,_,_,_=>by simp at hl
  | p::ps,(off,n,y)::ps',cs,cs',cells,hl,hp,hr,hb=>by
    obtain ⟨h1,h2⟩:=hp 0 p (off,n,y) rfl rfl
    simp only [buildC] at hb
    cases hly:(y.ev s).laid with
    | none=>rw [hly] at hb;cases hb
    | some l=>
      rw [hly] at hb
      simp only at hb
      obtain ⟨rl,ro,_⟩:=laid_ok h2 hly
      by_cases hn:l.length=n
      · rw [if_pos hn] at hb
        cases hs:splice off l cs with
        | none=>rw [hs] at hb;cases hb
        | some c1=>
          rw [hs] at hb
          simp only [Option.bind_some] at hb
          obtain ⟨s1,s2,s3⟩:=splice_spec hs
          have hsz:(ρ p.2).cells.size=n:=by rw [rl.1,hn]
          have hlen:(ρ p.2).cells.toList.length=l.length:=by rw [←rl.1];simp
          obtain ⟨f1,f2⟩:=fill_get off (ρ p.2).cells.toList 0 cells (by rw [hlen,hr.1];omega)
          have hfold:∀(a:Array Value) (z:Array Value),a.zipIdx.foldl (fun cs (x:Value × Nat)=>cs.setIfInBounds (off+x.2) x.1) z=(a.toList.zipIdx 0).foldl (fun cs (x:Value × Nat)=>cs.setIfInBounds (off+x.2) x.1) z:=fun a z=>by
            rw [←Array.foldl_toList];congr 1
            simp
          have hr1:RL E c1 ((ρ p.2).cells.zipIdx.foldl (fun cs (x:Value × Nat)=>cs.setIfInBounds (off+x.2) x.1) cells):=by
            rw [hfold]
            refine ⟨by rw [f1,hr.1,s1],fun i c hc=>?_⟩
            rw [f2 i,hlen]
            rw [s3 i] at hc
            simp only [Nat.add_zero] at hc ⊢
            by_cases hi:off≤i∧i<off+l.length
            · rw [if_pos hi] at hc ⊢
              have:=rl.2 _ _ hc
              simpa [Array.getD_eq_getD_getElem?,List.getD] using this
            · rw [if_neg hi] at hc ⊢
              exact hr.2 i c hc
          obtain ⟨cells',e1,e2⟩:=fill_ok place ps ps' c1 cs' _ (by simpa using hl) (fun i p p' a b=>hp (i+1) p p' a b) hr1 hb
          refine ⟨cells',?_,e2⟩
          simp only [List.map_cons,Instr.fill,h1]
          rw [if_neg]
          · exact e1
          · simp [hsz];rw [hr.1];omega
      · rw [if_neg hn] at hb;cases hb
theorem zeroT_ok {E:Env} {t:Nat} {z:List C} (hz:zeroT P t=some z) (w:World):∃v,(zeroValue t).run P w = .ok v w∧RL E z v.cells:=by
  unfold zeroT at hz
  unfold zeroValue
  cases hi:P.info? t with
  | none=>rw [hi] at hz;cases hz
  | some i=>
    rw [hi] at hz
    simp only [Option.bind_some] at hz
    cases hv:i.zero with
    | none=>rw [hv] at hz;cases hz
    | some v=>
      rw [hv] at hz
      simp only [Option.bind_some] at hz
      exact ⟨v,by simp [hi,hv],RL_ofConstCs hz⟩
theorem cParts_ok {fs:Array Field} (hρ:Rho s (mkEnv h pl fo w) ρ):∀{ps:List (Nat × Operand)} {ps':List (Nat × Nat × Opd)},cParts P fs ps=some ps' →
    ps.length=ps'.length∧∀(i:Nat) p p',nth ps i=some p→nth ps' i=some p'→(∃f,fs[p.1]?=some f∧f.offset=p'.1∧sizeT P f.type=some p'.2.1)∧RV (mkEnv h pl fo w) (p'.2.2.ev s) (ρ p.2)
  | [],ps',hc=>by cases hc;exact ⟨rfl,fun i p p' h=>by cases h⟩
  | (i,x)::ps,ps',hc=>by
    unfold cParts at hc
    split at hc
    · rename_i f y r h1 h2 h3
      cases hs:sizeT P f.type with
      | none=>rw [hs] at hc;cases hc
      | some n=>
        rw [hs] at hc;cases hc
        obtain ⟨a,b⟩:=cParts_ok hρ h3
        refine ⟨by simp [a],fun j p p' hp hp'=>?_⟩
        cases j with
        | zero=>cases hp;cases hp';exact ⟨⟨f,h1,rfl,hs⟩,hρ x y h2⟩
        | succ j=>exact b j p p' hp hp'
    · cases hc
theorem cPartsA_ok {sz:Nat} (hρ:Rho s (mkEnv h pl fo w) ρ):∀{ps:List (Nat × Operand)} {ps':List (Nat × Nat × Opd)},cPartsA sz ps=some ps' →
    ps.length=ps'.length∧∀(i:Nat) p p',nth ps i=some p→nth ps' i=some p'→p'.1=p.1*sz∧p'.2.1=sz∧RV (mkEnv h pl fo w) (p'.2.2.ev s) (ρ p.2)
  | [],ps',hc=>by cases hc;exact ⟨rfl,fun i p p' h=>by cases h⟩
  | (i,x)::ps,ps',hc=>by
    unfold cPartsA at hc
    split at hc
    · rename_i y r h2 h3
      cases hc
      obtain ⟨a,b⟩:=cPartsA_ok hρ h3
      refine ⟨by simp [a],fun j p p' hp hp'=>?_⟩
      cases j with
      | zero=>cases hp;cases hp';exact ⟨rfl,rfl,hρ x y h2⟩
      | succ j=>exact b j p p' hp hp'
    · cases hc
theorem run_places (w:World):∀(l:List Field),(∀f∈l,∃n,sizeT P f.type=some n)→(l.mapM (fun f=>do pure (f.offset,←Go.sizeOf f.type):Field→Sem (Nat × Nat))).run P w = .ok (l.map fun f=>(f.offset,(sizeT P f.type).getD 0)) w
  | [],_=>rfl
  | f::l,h=>by
    obtain ⟨n,hn⟩:=h f (by simp)
    obtain ⟨i,hi,hs⟩:=sizeT_info hn
    have:=run_places w l (fun g hg=>h g (by simp [hg]))
    rw [List.mapM_cons]
    simp only [Sem.run_bind,run_sizeOf',hi,Result.andThen_ok,Sem.run_pure,this,hs,hn,List.map_cons,Option.getD_some]
end
end Am
namespace Am
open Go
variable {P:Program} {cfg:Cfg}
section
variable {h:List Obj} {pl:Nat→Pl} {fo:Kept} {w:World} {s:List V} {ρ:Operand→Value}
theorem applyW_append (h:List Obj) (a b:Wr):applyW h (a++b)=applyW (applyW h a) b:=by
  induction a generalizing h with
  | nil=>rfl
  | cons x a ih=>obtain ⟨o,y⟩:=x;exact ih _
theorem op_build (hW:RW P cfg h pl fo w) (hρ:Rho s (mkEnv h pl fo w) ρ) {o:Oper} {t:Nat} {ps:Array (Nat × Operand)} {fs:Array Field} {z:List C} {ps':List (Nat × Nat × Opd)} (ho:o.op = .build t ps) (hu:P.underlying t=some (.struct fs)) (hz:zeroT P t=some z)
    (hsz:∀f∈fs.toList,∃n,sizeT P f.type=some n) (hp:cParts P fs ps.toList=some ps') {r:Nat} {v:V} {wr:Wr} (he:opEv r s h (.build z ps')=some (v,wr)):OpRes P cfg h pl fo w ((execOp ρ o).run P w) v (applyW h wr):=by
  simp only [opEv] at he
  cases hb:buildC s ps' z with
  | none=>rw [hb] at he;cases he
  | some cs=>
    rw [hb] at he;cases he
    obtain ⟨zv,hz1,hz2⟩:=zeroT_ok (E:=mkEnv h pl fo w) hz w
    obtain ⟨l1,l2⟩:=cParts_ok hρ hp
    have hpl:=run_places (P:=P) w fs.toList hsz
    have hpla:(fs.mapM (fun f=>do pure (f.offset,←Go.sizeOf f.type):Field→Sem (Nat × Nat))).run P w = .ok ((fs.toList.map fun f=>(f.offset,(sizeT P f.type).getD 0)).toArray) w:=by
      rw [Array.mapM_eq_mapM_toList]
      simp only [Sem.run_map,hpl,Result.andThen_ok]
    obtain ⟨cells',e1,e2⟩:=fill_ok (E:=mkEnv h pl fo w) (s:=s) (ρ:=ρ) (fun i=>((fs.toList.map fun f=>(f.offset,(sizeT P f.type).getD 0)).toArray)[i]?) ps.toList ps' z cs zv.cells l1 (fun i p p' a b=>by
      obtain ⟨⟨f,f1,f2,f3⟩,rv⟩:=l2 i p p' a b
      refine ⟨?_,rv⟩
      have:fs.toList[p.1]?=some f:=by rw [Array.getElem?_toList];exact f1
      simp [this,f2,f3]) hz2 hb
    refine .pure hW (cv:=.agg cells') ?_ (.agg e2.1 e2.2)
    simp only [execOp,ho,Instr.build,Sem.run_bind,hz1,Result.andThen_ok,run_underlying',hu,hpla]
    have hm:(ps.map fun (x:Nat × Operand)=>(x.1,ρ x.2)).toList=ps.toList.map fun p=>(p.1,ρ p.2):=by simp
    simp only [hm,e1,Sem.run_pure,Result.andThen_ok]
theorem op_buildA (hW:RW P cfg h pl fo w) (hρ:Rho s (mkEnv h pl fo w) ρ) {o:Oper} {t len e sz:Nat} {ps:Array (Nat × Operand)} {z:List C} {ps':List (Nat × Nat × Opd)} (ho:o.op = .build t ps) (hu:P.underlying t=some (.array len e)) (hz:zeroT P t=some z)
    (hsz:sizeT P e=some sz) (hp:cPartsA sz ps.toList=some ps') {r:Nat} {v:V} {wr:Wr} (he:opEv r s h (.build z ps')=some (v,wr)):OpRes P cfg h pl fo w ((execOp ρ o).run P w) v (applyW h wr):=by
  simp only [opEv] at he
  obtain ⟨ti,hti,hts⟩:=sizeT_info hsz
  cases hb:buildC s ps' z with
  | none=>rw [hb] at he;cases he
  | some cs=>
    rw [hb] at he;cases he
    obtain ⟨zv,hz1,hz2⟩:=zeroT_ok (E:=mkEnv h pl fo w) hz w
    obtain ⟨l1,l2⟩:=cPartsA_ok hρ hp
    obtain ⟨cells',e1,e2⟩:=fill_ok (E:=mkEnv h pl fo w) (s:=s) (ρ:=ρ) (fun i=>some (i*sz,sz)) ps.toList ps' z cs zv.cells l1 (fun i p p' a b=>by
      obtain ⟨f1,f2,rv⟩:=l2 i p p' a b
      exact ⟨by rw [f1,f2],rv⟩) hz2 hb
    refine .pure hW (cv:=.agg cells') ?_ (.agg e2.1 e2.2)
    simp only [execOp,ho,Instr.build,Sem.run_bind,hz1,Result.andThen_ok,run_underlying',hu,run_sizeOf',hti,hts]
    have hm:(ps.map fun (x:Nat × Operand)=>(x.1,ρ x.2)).toList=ps.toList.map fun p=>(p.1,ρ p.2):=by simp
    simp only [hm,e1,Sem.run_pure,Result.andThen_ok]
theorem op_nilchk (hW:RW P cfg h pl fo w) (hρ:Rho s (mkEnv h pl fo w) ρ) {o:Oper} {x:Operand} {x':Opd} (ho:o.op = .nilCheck x) (hx:cOpd x=some x') {r:Nat} {v:V} {wr:Wr} (he:opEv r s h (.nilchk x')=some (v,wr)) :
    OpRes P cfg h pl fo w ((execOp ρ o).run P w) v (applyW h wr):=by
  have h1:=hρ x x' hx
  simp only [opEv] at he
  split at he
  · rename_i o' off e;rw [e] at h1;cases he
    generalize hv:ρ x=v0 at h1
    cases h1.c_inv with
    | ptr hb=>exact .pure hW (cv:=.pointer (some ⟨_,off,none⟩)) (by simp [execOp,ho,hv]) (.c (.ptr hb))
  · rename_i f g a b e;rw [e] at h1;cases he
    generalize hv:ρ x=v0 at h1
    have h2:=h1.c_inv
    cases h2 with
    | fn vs ws e1 e2 hf hc=>exact .pure hW (by simp [execOp,ho,hv]) (.c (.fn vs ws e1 e2 hf hc))
  · rename_i o' ver i off e;rw [e] at h1;cases he
    generalize hv:ρ x=v0 at h1
    cases h1.c_inv with
    | aptr ho' hver hb=>exact .pure hW (by simp [execOp,ho,hv]) (.c (.aptr ho' hver hb))
  · cases he
theorem op_isnil (hW:RW P cfg h pl fo w) (hρ:Rho s (mkEnv h pl fo w) ρ) {o:Oper} {t u e:Nat} {op:BinOp} {neg:Bool} {x:Operand} {x':Opd} (ho:o.op = .binOp op t x (.const (.slice none 0 0)) u) (hop:op=if neg then .neq else .eql) (hu:P.underlying t=some (.slice e))
    (hc:ρ (.const (.slice none 0 0)) = .slice none 0 0) (hx:cOpd x=some x') {r:Nat} {v:V} {wr:Wr} (he:opEv r s h (.isnil neg x')=some (v,wr)):OpRes P cfg h pl fo w ((execOp ρ o).run P w) v (applyW h wr):=by
  have h1:=hρ x x' hx
  have hrun:∀a l c (q:Bool),ρ x = .slice a l c→a.isNone=q→(execOp ρ o).run P w = .ok (.value (.bool (q != neg))) w:=fun a l c q ex hq=>by
    have heq:(Op.equal t (.slice a l c) (.slice none 0 0)).run P w = .ok q w:=by rw [←hq];exact run_equal_slice_nil w t e a l c hu
    have hg:(eqGuard op t x (.const (.slice none 0 0)) (.slice a l c) (.slice none 0 0)).run P w = .ok () w:=by unfold eqGuard;subst hop;cases neg<;>simp
    have hb:(binOp op t (.slice a l c) (.slice none 0 0)).run P w = .ok (.bool (q != neg)) w:=by subst hop;cases neg<;>simp [binOp,heq]
    simp only [execOp,ho,Sem.run_bind,ex,hc,hg,Result.andThen_ok,hb,Sem.run_pure]
  simp only [opEv] at he
  split at he
  · rename_i ex;rw [ex] at h1;cases he
    generalize hv:ρ x=v0 at h1
    cases h1.c_inv with
    | nils=>exact .pure hW (hrun _ _ _ true hv rfl) (.c (.bool _))
  · rename_i tg rows ex;rw [ex] at h1
    cases rows with
    | nil=>cases he
    | cons row rows=>
      cases he
      generalize hv:ρ x=v0 at h1
      cases h1.c_inv with
      | lst hrd=>cases hrd with
        | lst sz vs hK hcap hs hc hr=>exact .pure hW (hrun _ _ _ false hv rfl) (.c (.bool _))
  · cases he
theorem OpRes.place (hfo:∀b,fo b→b<w.heap.size) (hW:RW P cfg h pl fo w) {rid:Nat} (hh:isHole h rid=true) {x:Obj} {cap:Nat} {ob:Go.Obj} {w1:World} (hw1:w1.heap=w.heap) {c:C} {cv:Value} {res:Result Next}
    (hres:res = .ok (.value cv) (w1.pushBlk ob))
    (hro:(mkEnv h pl fo w).Le (mkEnv (setH h rid x) (updP pl rid ⟨some w.heap.size,cap⟩) fo (w1.pushBlk ob))→RO' P cfg (mkEnv (setH h rid x) (updP pl rid ⟨some w.heap.size,cap⟩) fo (w1.pushBlk ob)) ⟨some w.heap.size,cap⟩ x)
    (hr:getH (setH h rid x) rid=x→R (mkEnv (setH h rid x) (updP pl rid ⟨some w.heap.size,cap⟩) fo (w1.pushBlk ob)) c cv) (hos:w1.os=w.os:=by rfl) (hou:w1.output=w.output:=by rfl) (hob:thawed ob=true:=by rfl) :
    OpRes P cfg h pl fo w res (.c c) (setH h rid x):=by
  obtain ⟨h1,h2⟩:=isHole_iff.1 hh
  obtain ⟨a,b,c'⟩:=hW.place hfo (w':=w1.pushBlk ob) (p:=⟨some w.heap.size,cap⟩) (x:=x) h1 (by rw [h2];trivial) (.inl h2) (.inr h2) (Still.push ⟨by rw [hw1];exact Nat.le_refl _,hos,hou,fun a=>by unfold World.frozen?;rw [hw1]⟩ hob)
    (fun b hb=>by rw [pushBlk_old _ _ (by rw [hw1];exact hb),hw1]) (fun b hb=>by injection hb with hb;omega) hro
  have hg:getH (setH h rid x) rid=x:=by rw [getH_setH,if_pos ⟨rfl,h1⟩]
  exact ⟨cv,_,_,.inl hres,.c (hr hg),a,b,c'⟩
theorem op_alloc (hfo:∀b,fo b→b<w.heap.size) (hW:RW P cfg h pl fo w) {o:Oper} {e:Nat} {z:List C} (ho:o.op = .alloc e) (hz:zeroT P e=some z) {r:Nat} {v:V} {wr:Wr} (he:opEv r s h (.alloc z)=some (v,wr)) :
    OpRes P cfg h pl fo w ((execOp ρ o).run P w) v (applyW h wr):=by
  simp only [opEv,newV] at he
  by_cases hh:isHole h r=true
  · rw [if_pos hh] at he;cases he
    obtain ⟨zv,hz1,hz2⟩:=zeroT_ok (E:=mkEnv h pl fo w) hz w
    refine OpRes.place (cap:=zv.cells.size) (ob:=.cells zv.cells e) hfo hW hh rfl (cv:=.pointer (some ⟨w.heap.size,0,none⟩)) ?_ (fun hE=>⟨_,_,_,rfl,pushBlk_get _ _,(hz2.mono hE).rc rfl⟩) (fun hg=>.ptr (.of hg (by show (updP _ _ _ _).blk=_;rw [updP_same])))
    simp only [execOp,ho,Instr.alloc,Sem.run_bind,hz1,Result.andThen_ok,newVar,newRow,run_newObj,Sem.run_pure]
    rfl
  · rw [if_neg hh] at he;cases he
theorem op_box (hfo:∀b,fo b→b<w.heap.size) (hW:RW P cfg h pl fo w) (hρ:Rho s (mkEnv h pl fo w) ρ) {o:Oper} {e:Nat} {x:Operand} {x':Opd} (ho:o.op = .box e x) (hx:cOpd x=some x') {r:Nat} {v:V} {wr:Wr}
    (he:opEv r s h (.box x')=some (v,wr)):OpRes P cfg h pl fo w ((execOp ρ o).run P w) v (applyW h wr):=by
  have h1:=hρ x x' hx
  simp only [opEv] at he
  cases hl:(x'.ev s).laid with
  | none=>rw [hl] at he;cases he
  | some l=>
    rw [hl] at he
    simp only [newV] at he
    by_cases hh:isHole h r=true
    · rw [if_pos hh] at he;cases he
      obtain ⟨rl,_,_⟩:=laid_ok h1 hl
      refine OpRes.place (cap:=(ρ x).cells.size) (ob:=.cells (ρ x).cells e) hfo hW hh rfl (cv:=.pointer (some ⟨w.heap.size,0,none⟩)) ?_ (fun hE=>⟨_,_,_,rfl,pushBlk_get _ _,(rl.mono hE).rc rfl⟩) (fun hg=>.ptr (.of hg (by show (updP _ _ _ _).blk=_;rw [updP_same])))
      simp only [execOp,ho,Instr.box,Sem.run_bind,Result.andThen_ok,newVar,newRow,run_newObj,Sem.run_pure]
      rfl
    · rw [if_neg hh] at he;cases he
theorem op_mkmap (hfo:∀b,fo b→b<w.heap.size) (hW:RW P cfg h pl fo w) {o:Oper} {t:Nat} {ka va:Bool} {ks:List (Option IntKind)} (ho:o.op = .makeMap t none) {r:Nat} {v:V} {wr:Wr} (he:opEv r s h (.mkmap ka va ks)=some (v,wr)) :
    OpRes P cfg h pl fo w ((execOp ρ o).run P w) v (applyW h wr):=by
  simp only [opEv,newV] at he
  by_cases hh:isHole h r=true
  · rw [if_pos hh] at he;cases he
    refine OpRes.place (cap:=0) (ob:=.map #[] 0) hfo hW hh rfl (cv:=.map (some w.heap.size)) ?_ (fun hE=>⟨w.heap.size,#[],0,rfl,pushBlk_get _ _,rfl,fun i e he=>by cases he⟩) (fun hg=>.map hg (by show (updP _ _ _ _).blk=_;rw [updP_same]))
    simp only [execOp,ho,Instr.makeMap,Option.map_none,Sem.run_bind,Result.andThen_ok,run_newObj,Sem.run_pure]
    rfl
  · rw [if_neg hh] at he;cases he
theorem sl_data (hW:RW P cfg h pl fo w) {o ver off len sz:Nat} {fz:Bool} {rows r:List (List D)} {v:Value} {K:Kept} (hr:R (mkEnv h pl fo w) (.sl o ver off len) v) (ho:getH h o = .arr fz ver sz rows) (hp:part off len rows=some r)
    (hK0:∀b,(mkEnv h pl fo w).K0 b→K b) (hKb:∀b,(pl o).blk=some b→K b):RD K w (.lst r) v:=by
  cases hr with
  | @sl _ _ _ _ cap a fz2 ver2 sz2 rows2 ho' hver hl hb=>
    have ho2:getH h o = .arr fz2 ver2 sz2 rows2:=ho'
    rw [ho] at ho2;cases ho2
    obtain ⟨hlen,hb⟩:=hb rfl
    obtain ⟨p1,p2⟩:=part_spec hp
    by_cases hz:len=0
    · subst hz
      have:r=[]:=by cases r with
        | nil=>rfl
        | cons=>simp at p1
      subst this
      exact .nil _ _
    · rcases hb with ⟨b,hb1,rfl,rfl⟩ | ⟨_,_,rfl⟩ | ⟨_,rfl⟩
      · have hro:=hW.obj o
        rw [ho] at hro
        obtain ⟨hcap,hrl,hro⟩:=hro
        have hb1':(pl o).blk=some b:=hb1
        rw [hb1'] at hro
        obtain ⟨arr,T,hblk0,_,hc⟩:=hro
        have hblk:w.heap[b]?=some (.cells arr T (0,0)):=hblk0
        rw [←p1]
        refine .lst sz (fun i j=>arr.getD (off*sz+i*sz+j) undef) (hKb b hb1') (by rw [p1];exact hl) (fun i row hi=>hrl _ _ (part_mem hp hi)) (fun i row j d hi hj=>?_) (fun i row j d hi hj=>?_)
        · obtain ⟨x,hx,_⟩:=hc _ _ _ _ (part_mem hp hi) hj
          rw [cellAt_blk hblk,show off*sz+i*sz+j=(off+i)*sz+j by rw [Nat.add_mul]]
          rw [hx];simp [Array.getD_eq_getD_getElem?,hx]
        · obtain ⟨x,hx,hd⟩:=hc _ _ _ _ (part_mem hp hi) hj
          have hx':arr.getD (off*sz+i*sz+j) undef=x:=by
            rw [show off*sz+i*sz+j=(off+i)*sz+j by rw [Nat.add_mul]]
            simp [Array.getD_eq_getD_getElem?,hx]
          rw [hx']
          exact hd.mono hK0 fun _ _ _ _ e=>e
      · omega
      · omega
theorem toD_ok {E:Env} {c:C} {d:D} {v:Value} (hr:R E c v) (h1:toD h c=some (d,[])):RD E.K0 E.w d v:=by
  cases c with
  | int k n=>cases h1;cases hr;exact .int _ _
  | bool b=>cases h1;cases hr;exact .bool _
  | lst t rows=>
    cases t with
    | false=>cases h1;cases hr with | lst hd=>exact hd
    | true=>cases h1
  | nils=>cases h1;cases hr;exact .nil _ _
  | sl o ver off len=>
    simp only [toD] at h1
    split at h1
    · split at h1
      · cases hp:part off len _ with
        | none=>rw [hp] at h1;cases h1
        | some r=>rw [hp] at h1;cases h1
      · cases h1
    · cases h1
  | any=>cases h1
  | ptr=>cases h1
  | aptr=>cases h1
  | ept=>cases h1
  | map=>cases h1
  | fn=>cases h1
  | yld=>cases h1
  | nilfn=>cases h1
  | nilp=>cases h1
  | psl=>cases h1
  | ls=>cases h1
  | lpt=>cases h1
theorem toDs_ok {E:Env} {cs:List C} {vs:Array Value} {ds:List D} (hr:RL E cs vs) (h1:toDs h cs=some (ds,[])):ds.length=cs.length∧∀(i:Nat) (d:D),nth ds i=some d→RD E.K0 E.w d (vs.getD i undef):=by
  have key:∀(cs:List C) (ds:List D) (k:Nat),(∀(i:Nat) (c:C),nth cs i=some c→R E c (vs.getD (k+i) undef))→toDs h cs=some (ds,[])→ds.length=cs.length∧∀(i:Nat) (d:D),nth ds i=some d→RD E.K0 E.w d (vs.getD (k+i) undef):=by
    intro cs
    induction cs with
    | nil=>intro ds k _ h1;cases h1;exact ⟨rfl,fun i d h=>by cases h⟩
    | cons c cs ih=>
      intro ds k hc h1
      unfold toDs at h1
      split at h1
      · rename_i d kk ds' ks' e1 e2
        simp only [Option.some.injEq,Prod.mk.injEq,List.append_eq_nil_iff] at h1
        obtain ⟨rfl,rfl,rfl⟩:=h1
        obtain ⟨a,b⟩:=ih ds' (k+1) (fun i c' hi=>by have:=hc (i+1) c' hi;rwa [show k+(i+1)=k+1+i by omega] at this) e2
        refine ⟨by simp [a],fun i d' hi=>?_⟩
        cases i with
        | zero=>cases hi;exact toD_ok (hc 0 c rfl) e1
        | succ i=>have:=b i d' hi;rwa [show k+1+i=k+(i+1) by omega] at this
      · cases h1
  have:=key cs ds 0 (fun i c hi=>by rw [Nat.zero_add];exact hr.2 i c hi) h1
  refine ⟨this.1,fun i d hd=>by have:=this.2 i d hd;rwa [Nat.zero_add] at this⟩
theorem op_store (hW:RW P cfg h pl fo w) (hρ:Rho s (mkEnv h pl fo w) ρ) {o:Oper} {t:Nat} {n:Option Nat} {a x:Operand} {a' x':Opd} (ho:o.op = .store t a x) (ht:shapeT P t=some n) (ha:cOpd a=some a') (hx:cOpd x=some x') {r:Nat} {v:V} {wr:Wr}
    (he:opEv r s h (.store n a' x')=some (v,wr)):OpRes P cfg h pl fo w ((execOp ρ o).run P w) v (applyW h wr):=by
  have h1:=hρ a a' ha
  have h2:=hρ x x' hx
  obtain ⟨ti,hti,hts⟩:=sizeT_info (shapeT_size ht)
  simp only [opEv] at he
  split at he
  · rename_i p l ep hl
    rw [ep] at h1
    by_cases hn:l.length=num n
    · rw [if_pos hn] at he
      obtain ⟨rl,rone,_⟩:=laid_ok h2 hl
      have hvs:(ρ x).cells.size=num n:=by rw [rl.1,hn]
      have hrun:∀b off arr T,ρ a = .pointer (some ⟨b,off,none⟩)→w.heap[b]?=some (.cells arr T (0,0))→off+num n≤arr.size→∃arr',arr'.size=arr.size∧(∀j,arr'[j]?=if off≤j∧j<off+num n then (ρ x).cells[j-off]? else arr[j]?) ∧
          (execOp ρ o).run P w = .ok .skip (w.setBlk b (.cells arr' T (0,0))):=fun b off arr T e1 e2 e3=>by
        obtain ⟨arr',q1,q2,q3⟩:=run_storeCells_blk (P:=P) (ρ x).cells.toList off 0 w arr e2 (by simp [hvs];omega) rone
        refine ⟨arr',q1,fun j=>?_,?_⟩
        · rw [q2 j];simp only [Nat.add_zero,Array.length_toList,hvs,Array.getElem?_toList]
        · simp only [execOp,ho,Instr.storeAt,e1,Instr.sureAddr,Sem.run_bind,Sem.run_pure,Result.andThen_ok,storeVar,run_sizeOf',hti,hts]
          rw [if_neg (by simp [hvs])]
          rw [q3]
          rfl
      cases p with
      | ptr o' off=>
        simp only [storeC] at he
        generalize hv:ρ a=v0 at h1
        cases h1.c_inv with
        | @ptr _ _ b hb0=>
          cases ho2:getH h o' with
          | none=>rw [ho2] at he;cases he
          | arr=>rw [ho2] at he;cases he
          | map=>rw [ho2] at he;cases he
          | loop=>rw [ho2] at he;cases he
          | cells cs=>
          have hb:=hb0.blk ho2
          rw [ho2] at he
          cases hs:splice off l cs with
          | none=>simp only [hs] at he;cases he
          | some cs'=>
            simp only [hs] at he;cases he
            obtain ⟨s1,s2,s3⟩:=splice_spec hs
            have hro:=hW.obj o'
            rw [ho2] at hro
            obtain ⟨b',arr,T,hb',hblk0,hrl⟩:=hro
            have hblk:w.heap[b']?=some (.cells arr T (0,0)):=hblk0
            have:b'=b:=by have:=hb'.symm.trans hb;injection this
            subst this
            obtain ⟨arr',q1,q2,q3⟩:=hrun b' off arr T hv hblk (by rw [←hn];exact Nat.le_trans s2 hrl.1.1)
            obtain ⟨A,B,C'⟩:=hW.update (o:=o') (x:=.cells cs') (ob:=.cells arr' T (0,0)) (by rw [ho2];rfl) hb' (by rw [ho2];exact .inl ⟨_,rfl⟩) rfl (fun hE=>by
              refine ⟨b',arr',T,hb',setBlk_get _ _ _ (Array.getElem?_eq_some_iff.1 hblk).1,⟨by rw [q1,s1];exact hrl.1.1,by rw [q1];exact hrl.1.2⟩,fun i c hc=>?_⟩
              rw [s3 i] at hc
              by_cases hi:off≤i∧i<off+l.length
              · rw [if_pos hi] at hc
                have:=(rl.2 _ _ hc).mono hE
                have e:arr'.getD i undef=(ρ x).cells.getD (i-off) undef:=by
                  simp only [Array.getD_eq_getD_getElem?];rw [q2 i,if_pos (by omega)]
                rw [e];exact this
              · rw [if_neg hi] at hc
                have:=(hrl.2 _ _ hc).mono hE
                have e:arr'.getD i undef=arr.getD i undef:=by
                  simp only [Array.getD_eq_getD_getElem?];rw [q2 i,if_neg (by omega)]
                rw [e];exact this)
            exact ⟨undef,_,pl,.inr ⟨q3,rfl⟩,.c (.any _),A,B,C'⟩
      | aptr o' ver i off=>
        simp only [storeC] at he
        generalize hv:ρ a=v0 at h1
        cases h1.c_inv with
        | @aptr _ _ _ _ b fz ver' sz rows ho' hver hb=>
          have ho2:getH h o' = .arr fz ver' sz rows:=ho'
          rw [ho2] at he
          cases fz with
          | true=>cases he
          | false=>
            simp only at he
            by_cases hve:ver'=ver
            · rw [if_pos hve] at he
              subst hve
              split at he
              · rename_i row ds hrow hds
                cases hs:splice off ds row with
                | none=>rw [hs] at he;cases he
                | some row'=>
                  rw [hs] at he;cases he
                  obtain ⟨s1,s2,s3⟩:=splice_spec hs
                  obtain ⟨dl,dr⟩:=toDs_ok rl hds
                  have hb1:(pl o').blk=some b:=hb rfl
                  have hro:=hW.obj o'
                  rw [ho2] at hro
                  obtain ⟨hcap,hrl,hro⟩:=hro
                  rw [hb1] at hro
                  obtain ⟨arr,T,hblk0,hsz,hc⟩:=hro
                  have hblk:w.heap[b]?=some (.cells arr T (0,0)):=hblk0
                  have hrowl:=hrl _ _ hrow
                  have hi:=nth_lt hrow
                  have hbound:i*sz+sz≤arr.size:=by
                    have:(i+1)*sz≤(pl o').cap*sz:=Nat.mul_le_mul_right _ (by omega)
                    rw [Nat.add_mul,Nat.one_mul] at this;omega
                  obtain ⟨arr',q1,q2,q3⟩:=hrun b (i*sz+off) arr T hv hblk (by rw [←hn,←dl];rw [hrowl] at s2;omega)
                  obtain ⟨A,B,C'⟩:=hW.update (o:=o') (x:=.arr false ver' sz (setNth rows i row')) (ob:=.cells arr' T (0,0)) (by rw [ho2];rfl) hb1 (by rw [ho2];exact ⟨_,_,_,rfl,Nat.le_refl _,fun _=>setNth_len _ _ _⟩) rfl (fun hE=>by
                    refine ⟨by rw [setNth_len];exact hcap,fun k rw_ hk=>?_,?_⟩
                    · rw [nth_setNth] at hk
                      by_cases hki:k=i∧i<rows.length
                      · rw [if_pos hki] at hk;cases hk;rw [s1];exact hrowl
                      · rw [if_neg hki] at hk;exact hrl _ _ hk
                    · rw [hb1]
                      refine ⟨arr',T,setBlk_get _ _ _ (Array.getElem?_eq_some_iff.1 hblk).1,by rw [q1];exact hsz,fun k rw_ j d hk hj=>?_⟩
                      rw [nth_setNth] at hk
                      have hdn:ds.length=num n:=dl.trans hn
                      by_cases hki:k=i∧i<rows.length
                      · obtain ⟨rfl,_⟩:=hki
                        rw [if_pos ⟨rfl,hi⟩] at hk;cases hk
                        rw [s3 j] at hj
                        by_cases hjo:off≤j∧j<off+ds.length
                        · rw [if_pos hjo] at hj
                          have:=dr _ _ hj
                          have hlt:=nth_lt hj
                          refine ⟨(ρ x).cells.getD (j-off) undef,?_,this.mono hE.k0 hE.w0⟩
                          rw [q2,if_pos (by omega),show k*sz+j-(k*sz+off)=j-off by omega]
                          have:j-off<(ρ x).cells.size:=by rw [hvs,←hdn];exact hlt
                          simp [Array.getD,this]
                        · rw [if_neg hjo] at hj
                          obtain ⟨y,y1,y2⟩:=hc _ _ _ _ hrow hj
                          exact ⟨y,by rw [q2,if_neg (by omega)];exact y1,y2.mono hE.k0 hE.w0⟩
                      · rw [if_neg hki] at hk
                        obtain ⟨y,y1,y2⟩:=hc _ _ _ _ hk hj
                        refine ⟨y,?_,y2.mono hE.k0 hE.w0⟩
                        have hkl:=hrl _ _ hk
                        have hjl:=nth_lt hj
                        have hne:k≠i:=fun e=>hki ⟨e,hi⟩
                        rw [hrowl] at s2
                        rw [q2,if_neg]
                        · exact y1
                        · intro hcon
                          rcases Nat.lt_or_gt_of_ne hne with hlt | hlt
                          · have:(k+1)*sz≤i*sz:=Nat.mul_le_mul_right _ hlt
                            rw [Nat.add_mul,Nat.one_mul] at this;omega
                          · have:(i+1)*sz≤k*sz:=Nat.mul_le_mul_right _ hlt
                            rw [Nat.add_mul,Nat.one_mul] at this;omega)
                  exact ⟨undef,_,pl,.inr ⟨q3,rfl⟩,.c (.any _),A,B,C'⟩
              · cases he
            · rw [if_neg hve] at he;cases he
      | any=>cases he
      | int=>cases he
      | bool=>cases he
      | lst=>cases he
      | nils=>cases he
      | ept=>cases he
      | sl=>cases he
      | map=>cases he
      | fn=>cases he
      | yld=>cases he
      | nilfn=>cases he
      | nilp=>cases he
      | psl=>cases he
      | ls=>cases he
      | lpt=>cases he
    · rw [if_neg hn] at he;cases he
  · cases he
end
end Am
