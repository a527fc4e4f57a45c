/-
  A part of the proof: the texts Am34, Am35, Am36, Am37, Am38, Am40 of this seat, joined.
-/
import Derived.Attr
import Derived.Test.YtninmcgiegmonaaAmH
namespace Am
open Go
set_option linter.unusedVariables false
set_option linter.unusedSimpArgs false
variable {G:Nat→Option AFunc}
abbrev QT := X→List V→List Obj→Prop
abbrev KT := Option (List (Nat × Foot))→List V→List Obj→Prop
def RX (G:Nat→Option AFunc) (c:ACode) (s:List V) (h:List Obj) (Q:QT):Prop:=RC G c ⟨s,h⟩ fun x st=>Q x st.slots st.heap
def RN (G:Nat→Option AFunc) (rb:Nat) (fs:Option (Nat × List (Nat × Foot))) (ops:List AOper) (s:List V) (h:List Obj) (K:KT):Prop:=
  match fs with
  | none=>∃i l,RO G rb i ops ⟨s,h⟩ l fun st _=>K none st.slots st.heap
  | some (i,l)=>RO G rb i ops ⟨s,h⟩ l fun st l'=>K (some l') st.slots st.heap
def seqX (G:Nat→Option AFunc) (b:ACode) (Q:QT):QT:=fun x s h=>match x with
  | .normal=>RX G b s h Q
  | x=>Q x s h
@[go_sem ↓] theorem seqX_normal {b:ACode} {Q:QT} {s:List V} {h:List Obj}:seqX G b Q .normal s h↔RX G b s h Q:=Iff.rfl
@[go_sem ↓] theorem seqX_exit {b:ACode} {Q:QT} {s:List V} {h:List Obj} {i:Nat}:seqX G b Q (.exit i) s h↔Q (.exit i) s h:=Iff.rfl
@[go_sem ↓] theorem seqX_ret {b:ACode} {Q:QT} {s:List V} {h:List Obj}:seqX G b Q .ret s h↔Q .ret s h:=Iff.rfl
def blkX (id:Nat) (Q:QT):QT:=fun x s h=>match x with
  | .exit i=>if Nat.beq i id=true then Q .normal s h else Q (.exit i) s h
  | x=>Q x s h
@[go_sem ↓] theorem blkX_normal {id:Nat} {Q:QT} {s:List V} {h:List Obj}:blkX id Q .normal s h↔Q .normal s h:=Iff.rfl
@[go_sem ↓] theorem blkX_ret {id:Nat} {Q:QT} {s:List V} {h:List Obj}:blkX id Q .ret s h↔Q .ret s h:=Iff.rfl
@[go_sem ↓] theorem blkX_exit {id i:Nat} {Q:QT} {s:List V} {h:List Obj}:blkX id Q (.exit i) s h↔if Nat.beq i id=true then Q .normal s h else Q (.exit i) s h:=Iff.rfl
@[go_sem ↓] theorem RX_skip {s:List V} {h:List Obj} {Q:QT}:RX G .skip s h Q↔Q .normal s h:=RC_skip
def FrzK (s:List V) (Q:QT):Option (List Obj)→Prop
  | none=>False
  | some h=>Q .normal s h
@[go_sem] theorem FrzK_some {s:List V} {Q:QT} {h:List Obj}:FrzK s Q (some h)↔Q .normal s h:=Iff.rfl
@[go_sem ↓] theorem RX_frz {l:List Nat} {s:List V} {h:List Obj} {Q:QT}:RX G (.frz l) s h Q↔FrzK s Q (frzS l s h):=by
  unfold RX;rw [RC_frz]
  cases frzS l s h with
  | none=>simp [FrzK]
  | some h=>simp [FrzK]
@[go_sem] theorem frzC_lst {h:List Obj} {t:Bool} {r:List (List D)}:frzC h (.lst t r)=some (.lst t r,h):=rfl
@[go_sem] theorem frzC_int {h:List Obj} {k:IntKind} {n:Int}:frzC h (.int k n)=some (.int k n,h):=rfl
@[go_sem] theorem frzC_bool {h:List Obj} {b:Bool}:frzC h (.bool b)=some (.bool b,h):=rfl
@[go_sem] theorem frzC_nils {h:List Obj}:frzC h .nils=some (.nils,h):=rfl
@[go_sem] theorem frzC_sl {h:List Obj} {o ver off len:Nat}:frzC h (.sl o ver off len)=(match getH h o with | .arr _ ver' sz rows=>if ver'=ver then (part off len rows).map fun r=>(.lst false r,setH h o (.arr true ver' sz rows)) else none | _=>none):=rfl
@[go_sem] theorem frzC_ls {h:List Obj} {cs:List C}:frzC h (.ls cs)=(frzDs h cs).map fun r=>(.lst false r.1,r.2):=rfl
@[go_sem] theorem frzD_sl {h:List Obj} {o ver off len:Nat}:frzD h (.sl o ver off len)=(match getH h o with | .arr _ ver' sz rows=>if ver'=ver then (part off len rows).map fun r=>(.lst r,setH h o (.arr true ver' sz rows)) else none | _=>none):=rfl
@[go_sem] theorem frzD_lst {h:List Obj} {rows:List (List D)}:frzD h (.lst false rows)=some (.lst rows,h):=rfl
@[go_sem] theorem frzD_nils {h:List Obj}:frzD h .nils=some (.lst [],h):=rfl
@[go_sem] theorem frzC_psl {h:List Obj} {o off len:Nat}:frzC h (.psl o off len)=(match getH h o with | .cells cs=>if off=0∧cs.length=len then (frzDs h cs).map fun r=>(.lst false r.1,setH r.2 o gone) else none | _=>none):=rfl
@[go_sem] theorem sliceRows_ls {h:List Obj} {cs:List C}:sliceRows h (.ls cs)=none:=rfl
@[go_sem] theorem appendC_nil1 {h:List Obj} {rid by_ o ver off len:Nat}:appendC h rid by_ 1 .nils (.ls [.sl o ver off len])=(if 1*by_≤2^40 then newV h rid (.cells [.sl o ver off len]) (.psl rid 0 1) [] else none):=by
  simp [appendC,C.isSl]
@[go_sem] theorem appendC_psl1 {h:List Obj} {rid by_ o ver off len o' off' len':Nat}:appendC h rid by_ 1 (.psl o' off' len') (.ls [.sl o ver off len])=(match getH h o' with
    | .cells cs=>if off'=0∧0<len'∧cs.length=len'∧(len'+1)*by_≤2^40 then newV h rid (.cells (cs++[.sl o ver off len])) (.psl rid 0 (len'+1)) [(o',gone)] else none
    | _=>none):=by
  simp only [appendC,C.isSl,List.isEmpty_cons,List.all_cons,List.all_nil,Bool.and_self,and_self,if_true,List.length_cons,List.length_nil,Nat.zero_add]
  cases getH h o'<;>rfl
attribute [go_sem] frzCs frzS frzDs gone
@[go_sem ↓] theorem RX_exit {i:Nat} {s:List V} {h:List Obj} {Q:QT}:RX G (.exit i) s h Q↔Q (.exit i) s h:=RC_exit
@[go_sem ↓] theorem RX_ret {s:List V} {h:List Obj} {Q:QT}:RX G .ret s h Q↔Q .ret s h:=RC_ret
@[go_sem ↓] theorem RX_seq {a b:ACode} {s:List V} {h:List Obj} {Q:QT}:RX G (.seq a b) s h Q↔RX G a s h (seqX G b Q):=by
  unfold RX;rw [RC_seq]
  have:seqK G b (fun x (st:St)=>Q x st.slots st.heap)=fun x (st:St)=>seqX G b Q x st.slots st.heap:=by
    funext x st;cases x<;>rfl
  rw [this]
@[go_sem ↓] theorem RX_block {id:Nat} {b:ACode} {s:List V} {h:List Obj} {Q:QT}:RX G (.block id b) s h Q↔RX G b s h (blkX id Q):=by
  unfold RX;rw [RC_block]
  have:inBlock id (fun x (st:St)=>Q x st.slots st.heap)=fun x (st:St)=>blkX id Q x st.slots st.heap:=by
    funext x st;cases x<;>rfl
  rw [this]
def RCX (G:Nat→Option AFunc) (v:V) (a b:ACode) (s:List V) (h:List Obj) (Q:QT):Prop:=RCb G v a b ⟨s,h⟩ fun x st=>Q x st.slots st.heap
@[go_sem ↓] theorem RX_cond {c:Opd} {a b:ACode} {s:List V} {h:List Obj} {Q:QT}:RX G (.cond c a b) s h Q↔RCX G (c.ev s) a b s h Q:=RC_cond
theorem RCX_true {a b:ACode} {s:List V} {h:List Obj} {Q:QT}:RCX G (.c (.bool true)) a b s h Q↔RX G a s h Q:=RCb_true
theorem RCX_false {a b:ACode} {s:List V} {h:List Obj} {Q:QT}:RCX G (.c (.bool false)) a b s h Q↔RX G b s h Q:=RCb_false
attribute [go_sem high] RCX_true RCX_false
@[go_sem low] theorem RCX_split {t:Bool} {a b:ACode} {s:List V} {h:List Obj} {Q:QT}:RCX G (.c (.bool t)) a b s h Q↔(t=true→RX G a s h Q)∧(t=false→RX G b s h Q):=by
  cases t
  · simp [RCX_false]
  · simp [RCX_true]
def nrmX (Q:QT):KT:=fun _ s h=>Q .normal s h
def prsX (pairs:List (Nat × Nat)) (Q:QT):KT:=fun fs s h=>match fs with
  | none=>False
  | some l=>pairsOk l pairs=true∧Q .normal s h
@[go_sem ↓] theorem nrmX_app {Q:QT} {fs s h}:nrmX Q fs s h↔Q .normal s h:=Iff.rfl
@[go_sem ↓] theorem prsX_app {pairs:List (Nat × Nat)} {Q:QT} {l s h}:prsX pairs Q (some l) s h↔(pairsOk l pairs=true∧Q .normal s h):=Iff.rfl
theorem evOs_fs {r:Rec} {rb:Nat}:∀{ops:List AOper} {i j:Nat} {st st':St} {fs gs fs':List (Nat × Foot)},evOs r rb i ops st fs=some (st',fs')→∃gs',evOs r rb j ops st gs=some (st',gs')
  | [],i,j,st,st',fs,gs,fs',e=>by cases e;exact ⟨gs,rfl⟩
  | o::os,i,j,st,st',fs,gs,fs',e=>by
    unfold evOs at e ⊢
    cases ho:evO r rb o st with
    | none=>rw [ho] at e;cases e
    | some w=>rw [ho] at e;simp only at e ⊢;exact evOs_fs e
theorem RO_fs {rb i j:Nat} {ops:List AOper} {st:St} {fs gs:List (Nat × Foot)} {K:St→Prop} (h:RO G rb i ops st fs fun s _=>K s):RO G rb j ops st gs fun s _=>K s:=by
  obtain ⟨n,s,fs',e,k⟩:=h
  obtain ⟨gs',e'⟩:=evOs_fs (j:=j) (gs:=gs) e
  exact ⟨n,s,gs',e',k⟩
@[go_sem ↓] theorem RX_region0 {news:Nat} {ops:List AOper} {s:List V} {h:List Obj} {Q:QT}:RX G (.region news [] ops) s h Q↔RN G h.length none ops s (h++List.replicate news .none) (nrmX Q):=by
  unfold RX;rw [RC_region]
  constructor
  · intro hh
    refine ⟨0,[],?_⟩
    obtain ⟨n,s,fs,e,k⟩:=hh
    exact ⟨n,s,fs,e,(regK_nil.1 k)⟩
  · rintro ⟨i,l,hh⟩
    obtain ⟨n,s,fs,e,k⟩:=RO_fs (j:=0) (gs:=[]) hh
    exact ⟨n,s,fs,e,regK_nil.2 k⟩
@[go_sem ↓] theorem RX_regionP {news:Nat} {p:Nat × Nat} {ps:List (Nat × Nat)} {ops:List AOper} {s:List V} {h:List Obj} {Q:QT}:RX G (.region news (p::ps) ops) s h Q↔RN G h.length (some (0,[])) ops s (h++List.replicate news .none) (prsX (p::ps) Q):=by
  unfold RX;rw [RC_region]
  constructor
  · intro hh
    obtain ⟨n,s,fs,e,k⟩:=hh
    exact ⟨n,s,fs,e,k⟩
  · intro hh
    obtain ⟨n,s,fs,e,k⟩:=hh
    exact ⟨n,s,fs,e,k⟩
@[go_sem ↓] theorem RN_nil0 {rb:Nat} {s:List V} {h:List Obj} {K:KT}:RN G rb none [] s h K↔K none s h:=
  ⟨fun ⟨_,_,hh⟩=>RO_nil.1 hh,fun hh=>⟨0,[],RO_nil.2 hh⟩⟩
@[go_sem ↓] theorem RN_nil1 {rb i:Nat} {l:List (Nat × Foot)} {s:List V} {h:List Obj} {K:KT}:RN G rb (some (i,l)) [] s h K↔K (some l) s h:=RO_nil
def trk (fs:Option (Nat × List (Nat × Foot))) (f:Foot):Option (Nat × List (Nat × Foot)):=match fs with
  | none=>none
  | some (i,l)=>some (i+1,(i,f)::l)
@[go_sem ↓] theorem trk_none {f:Foot}:trk none f=none:=rfl
@[go_sem] theorem trk_some {i:Nat} {l:List (Nat × Foot)} {f:Foot}:trk (some (i,l)) f=some (i+1,(i,f)::l):=rfl
def OK1 (G:Nat→Option AFunc) (rb:Nat) (fs:Option (Nat × List (Nat × Foot))) (x:Option (V × Wr)) (op:AOp) (d:Option Nat) (os:List AOper) (s:List V) (h:List Obj) (K:KT):Prop:=
  ∃v w,x=some (v,w)∧RN G rb (trk fs ⟨readsOf s op,w.map (·.1),none⟩) os (putD s d v) (applyW h w) K
def NX (G:Nat→Option AFunc) (rb:Nat) (fs:Option (Nat × List (Nat × Foot))) (os:List AOper) (s:List V) (h:List Obj) (K:KT):Prop:=RN G rb fs os s h K
@[go_sem] theorem NX_run {rb:Nat} {fs:Option (Nat × List (Nat × Foot))} {os:List AOper} {s:List V} {h:List Obj} {K:KT}:NX G rb fs os s h K↔RN G rb fs os s h K:=Iff.rfl
theorem OK1_some0 {rb:Nat} {v:V} {w:Wr} {op:AOp} {d:Option Nat} {os:List AOper} {s:List V} {h:List Obj} {K:KT} :
    OK1 G rb none (some (v,w)) op d os s h K↔NX G rb none os (putD s d v) (applyW h w) K:=by
  constructor
  · rintro ⟨v',w',e,hh⟩
    injection e with e;injection e with e1 e2;subst e1;subst e2;exact hh
  · intro hh;exact ⟨v,w,rfl,hh⟩
theorem OK1_some1 {rb i:Nat} {l:List (Nat × Foot)} {v:V} {w:Wr} {op:AOp} {d:Option Nat} {os:List AOper} {s:List V} {h:List Obj} {K:KT} :
    OK1 G rb (some (i,l)) (some (v,w)) op d os s h K↔NX G rb (some (i+1,(i,⟨readsOf s op,w.map (·.1),none⟩)::l)) os (putD s d v) (applyW h w) K:=by
  constructor
  · rintro ⟨v',w',e,hh⟩
    injection e with e;injection e with e1 e2;subst e1;subst e2;exact hh
  · intro hh;exact ⟨v,w,rfl,hh⟩
attribute [go_sem] OK1_some0 OK1_some1
theorem evOs_cons {r:Rec} {rb i:Nat} {o:AOper} {os:List AOper} {st:St} {fs:List (Nat × Foot)}:evOs r rb i (o::os) st fs=match evO r rb o st with | some (st',f)=>evOs r rb (i+1) os st' ((i,f)::fs) | none=>none:=by
  rw [evOs];cases evO r rb o st<;>rfl
theorem RN_op {rb:Nat} {fs:Option (Nat × List (Nat × Foot))} {op:AOp} {d:Option Nat} {r:Nat} {os:List AOper} {s:List V} {h:List Obj} {K:KT} (hc:op.isCall=false) :
    RN G rb fs (⟨d,op,none,r⟩::os) s h K↔OK1 G rb fs (opEv (rb+r) s h op) op d os s h K:=by
  have key:∀i l (K':St→List (Nat × Foot)→Prop),RO G rb i (⟨d,op,none,r⟩::os) ⟨s,h⟩ l K'↔∃v w,opEv (rb+r) s h op=some (v,w)∧RO G rb (i+1) os ⟨putD s d v,applyW h w⟩ ((i,⟨readsOf s op,w.map (·.1),none⟩)::l) K':=by
    intro i l K'
    rw [RO_cons (by exact hc)]
    simp only [evO0,wantedA]
    constructor
    · rintro ⟨st,f,e,hh⟩
      cases ho:opEv (rb+r) s h op with
      | none=>rw [ho] at e;cases e
      | some z=>
        obtain ⟨v,w⟩:=z
        rw [ho] at e
        injection e with e;injection e with e1 e2;subst e1;subst e2
        exact ⟨v,w,rfl,hh⟩
    · rintro ⟨v,w,e,hh⟩
      rw [e]
      exact ⟨_,_,rfl,hh⟩
  cases fs with
  | none=>
    constructor
    · rintro ⟨i,l,hh⟩
      obtain ⟨v,w,e,hh⟩:=(key _ _ _).1 hh
      exact ⟨v,w,e,_,_,hh⟩
    · rintro ⟨v,w,e,i,l,hh⟩
      refine ⟨0,[],(key _ _ _).2 ⟨v,w,e,?_⟩⟩
      exact RO_fs (K:=fun st=>K none st.slots st.heap) hh
  | some z=>
    obtain ⟨i,l⟩:=z
    constructor
    · intro hh
      obtain ⟨v,w,e,hh⟩:=(key _ _ _).1 hh
      exact ⟨v,w,e,hh⟩
    · rintro ⟨v,w,e,hh⟩
      exact (key _ _ _).2 ⟨v,w,e,hh⟩
@[go_sem ↓] theorem RN_mov {rb:Nat} {fs:Option (Nat × List (Nat × Foot))} {d:Option Nat} {r:Nat} {os:List AOper} {s:List V} {h:List Obj} {K:KT} {x_}:RN G rb fs (⟨d,.mov x_,none,r⟩::os) s h K↔OK1 G rb fs (opEv (rb+r) s h (.mov x_)) (.mov x_) d os s h K:=RN_op rfl
@[go_sem ↓] theorem RN_alloc {rb:Nat} {fs:Option (Nat × List (Nat × Foot))} {d:Option Nat} {r:Nat} {os:List AOper} {s:List V} {h:List Obj} {K:KT} {z_}:RN G rb fs (⟨d,.alloc z_,none,r⟩::os) s h K↔OK1 G rb fs (opEv (rb+r) s h (.alloc z_)) (.alloc z_) d os s h K:=RN_op rfl
@[go_sem ↓] theorem RN_box {rb:Nat} {fs:Option (Nat × List (Nat × Foot))} {d:Option Nat} {r:Nat} {os:List AOper} {s:List V} {h:List Obj} {K:KT} {x_}:RN G rb fs (⟨d,.box x_,none,r⟩::os) s h K↔OK1 G rb fs (opEv (rb+r) s h (.box x_)) (.box x_) d os s h K:=RN_op rfl
@[go_sem ↓] theorem RN_load {rb:Nat} {fs:Option (Nat × List (Nat × Foot))} {d:Option Nat} {r:Nat} {os:List AOper} {s:List V} {h:List Obj} {K:KT} {n_} {a_}:RN G rb fs (⟨d,.load n_ a_,none,r⟩::os) s h K↔OK1 G rb fs (opEv (rb+r) s h (.load n_ a_)) (.load n_ a_) d os s h K:=RN_op rfl
@[go_sem ↓] theorem RN_store {rb:Nat} {fs:Option (Nat × List (Nat × Foot))} {d:Option Nat} {r:Nat} {os:List AOper} {s:List V} {h:List Obj} {K:KT} {n_} {a_} {x_}:RN G rb fs (⟨d,.store n_ a_ x_,none,r⟩::os) s h K↔OK1 G rb fs (opEv (rb+r) s h (.store n_ a_ x_)) (.store n_ a_ x_) d os s h K:=RN_op rfl
@[go_sem ↓] theorem RN_faddr {rb:Nat} {fs:Option (Nat × List (Nat × Foot))} {d:Option Nat} {r:Nat} {os:List AOper} {s:List V} {h:List Obj} {K:KT} {o_} {x_}:RN G rb fs (⟨d,.faddr o_ x_,none,r⟩::os) s h K↔OK1 G rb fs (opEv (rb+r) s h (.faddr o_ x_)) (.faddr o_ x_) d os s h K:=RN_op rfl
@[go_sem ↓] theorem RN_iaddr {rb:Nat} {fs:Option (Nat × List (Nat × Foot))} {d:Option Nat} {r:Nat} {os:List AOper} {s:List V} {h:List Obj} {K:KT} {s_} {x_} {j_}:RN G rb fs (⟨d,.iaddr s_ x_ j_,none,r⟩::os) s h K↔OK1 G rb fs (opEv (rb+r) s h (.iaddr s_ x_ j_)) (.iaddr s_ x_ j_) d os s h K:=RN_op rfl
@[go_sem ↓] theorem RN_iaddrA {rb:Nat} {fs:Option (Nat × List (Nat × Foot))} {d:Option Nat} {r:Nat} {os:List AOper} {s:List V} {h:List Obj} {K:KT} {l_} {s_} {x_} {j_}:RN G rb fs (⟨d,.iaddrA l_ s_ x_ j_,none,r⟩::os) s h K↔OK1 G rb fs (opEv (rb+r) s h (.iaddrA l_ s_ x_ j_)) (.iaddrA l_ s_ x_ j_) d os s h K:=RN_op rfl
@[go_sem ↓] theorem RN_fld {rb:Nat} {fs:Option (Nat × List (Nat × Foot))} {d:Option Nat} {r:Nat} {os:List AOper} {s:List V} {h:List Obj} {K:KT} {o_} {n_} {x_}:RN G rb fs (⟨d,.fld o_ n_ x_,none,r⟩::os) s h K↔OK1 G rb fs (opEv (rb+r) s h (.fld o_ n_ x_)) (.fld o_ n_ x_) d os s h K:=RN_op rfl
@[go_sem ↓] theorem RN_idx {rb:Nat} {fs:Option (Nat × List (Nat × Foot))} {d:Option Nat} {r:Nat} {os:List AOper} {s:List V} {h:List Obj} {K:KT} {l_} {s_} {n_} {x_} {j_}:RN G rb fs (⟨d,.idx l_ s_ n_ x_ j_,none,r⟩::os) s h K↔OK1 G rb fs (opEv (rb+r) s h (.idx l_ s_ n_ x_ j_)) (.idx l_ s_ n_ x_ j_) d os s h K:=RN_op rfl
@[go_sem ↓] theorem RN_bin {rb:Nat} {fs:Option (Nat × List (Nat × Foot))} {d:Option Nat} {r:Nat} {os:List AOper} {s:List V} {h:List Obj} {K:KT} {p_} {x_} {y_}:RN G rb fs (⟨d,.bin p_ x_ y_,none,r⟩::os) s h K↔OK1 G rb fs (opEv (rb+r) s h (.bin p_ x_ y_)) (.bin p_ x_ y_) d os s h K:=RN_op rfl
@[go_sem ↓] theorem RN_eqA {rb:Nat} {fs:Option (Nat × List (Nat × Foot))} {d:Option Nat} {r:Nat} {os:List AOper} {s:List V} {h:List Obj} {K:KT} {b_} {ks_} {x_} {y_}:RN G rb fs (⟨d,.eqA b_ ks_ x_ y_,none,r⟩::os) s h K↔OK1 G rb fs (opEv (rb+r) s h (.eqA b_ ks_ x_ y_)) (.eqA b_ ks_ x_ y_) d os s h K:=RN_op rfl
@[go_sem ↓] theorem RN_eqB {rb:Nat} {fs:Option (Nat × List (Nat × Foot))} {d:Option Nat} {r:Nat} {os:List AOper} {s:List V} {h:List Obj} {K:KT} {b_} {x_} {y_}:RN G rb fs (⟨d,.eqB b_ x_ y_,none,r⟩::os) s h K↔OK1 G rb fs (opEv (rb+r) s h (.eqB b_ x_ y_)) (.eqB b_ x_ y_) d os s h K:=RN_op rfl
@[go_sem ↓] theorem RN_not {rb:Nat} {fs:Option (Nat × List (Nat × Foot))} {d:Option Nat} {r:Nat} {os:List AOper} {s:List V} {h:List Obj} {K:KT} {x_}:RN G rb fs (⟨d,.not x_,none,r⟩::os) s h K↔OK1 G rb fs (opEv (rb+r) s h (.not x_)) (.not x_) d os s h K:=RN_op rfl
@[go_sem ↓] theorem RN_neg {rb:Nat} {fs:Option (Nat × List (Nat × Foot))} {d:Option Nat} {r:Nat} {os:List AOper} {s:List V} {h:List Obj} {K:KT} {x_}:RN G rb fs (⟨d,.neg x_,none,r⟩::os) s h K↔OK1 G rb fs (opEv (rb+r) s h (.neg x_)) (.neg x_) d os s h K:=RN_op rfl
@[go_sem ↓] theorem RN_conv {rb:Nat} {fs:Option (Nat × List (Nat × Foot))} {d:Option Nat} {r:Nat} {os:List AOper} {s:List V} {h:List Obj} {K:KT} {k_} {x_}:RN G rb fs (⟨d,.conv k_ x_,none,r⟩::os) s h K↔OK1 G rb fs (opEv (rb+r) s h (.conv k_ x_)) (.conv k_ x_) d os s h K:=RN_op rfl
@[go_sem ↓] theorem RN_extract {rb:Nat} {fs:Option (Nat × List (Nat × Foot))} {d:Option Nat} {r:Nat} {os:List AOper} {s:List V} {h:List Obj} {K:KT} {j_} {x_}:RN G rb fs (⟨d,.extract j_ x_,none,r⟩::os) s h K↔OK1 G rb fs (opEv (rb+r) s h (.extract j_ x_)) (.extract j_ x_) d os s h K:=RN_op rfl
@[go_sem ↓] theorem RN_mkfn {rb:Nat} {fs:Option (Nat × List (Nat × Foot))} {d:Option Nat} {r:Nat} {os:List AOper} {s:List V} {h:List Obj} {K:KT} {f_} {a_} {c_}:RN G rb fs (⟨d,.mkfn f_ a_ c_,none,r⟩::os) s h K↔OK1 G rb fs (opEv (rb+r) s h (.mkfn f_ a_ c_)) (.mkfn f_ a_ c_) d os s h K:=RN_op rfl
@[go_sem ↓] theorem RN_build {rb:Nat} {fs:Option (Nat × List (Nat × Foot))} {d:Option Nat} {r:Nat} {os:List AOper} {s:List V} {h:List Obj} {K:KT} {z_} {p_}:RN G rb fs (⟨d,.build z_ p_,none,r⟩::os) s h K↔OK1 G rb fs (opEv (rb+r) s h (.build z_ p_)) (.build z_ p_) d os s h K:=RN_op rfl
@[go_sem ↓] theorem RN_blistc {rb:Nat} {fs:Option (Nat × List (Nat × Foot))} {d:Option Nat} {r:Nat} {os:List AOper} {s:List V} {h:List Obj} {K:KT} {z_} {p_}:RN G rb fs (⟨d,.blistc z_ p_,none,r⟩::os) s h K↔OK1 G rb fs (opEv (rb+r) s h (.blistc z_ p_)) (.blistc z_ p_) d os s h K:=RN_op rfl
@[go_sem ↓] theorem RN_bslice {rb:Nat} {fs:Option (Nat × List (Nat × Foot))} {d:Option Nat} {r:Nat} {os:List AOper} {s:List V} {h:List Obj} {K:KT} {s_} {n_} {z_} {p_}:RN G rb fs (⟨d,.bslice s_ n_ z_ p_,none,r⟩::os) s h K↔OK1 G rb fs (opEv (rb+r) s h (.bslice s_ n_ z_ p_)) (.bslice s_ n_ z_ p_) d os s h K:=RN_op rfl
@[go_sem ↓] theorem RN_blist {rb:Nat} {fs:Option (Nat × List (Nat × Foot))} {d:Option Nat} {r:Nat} {os:List AOper} {s:List V} {h:List Obj} {K:KT} {s_} {n_} {z_} {p_}:RN G rb fs (⟨d,.blist s_ n_ z_ p_,none,r⟩::os) s h K↔OK1 G rb fs (opEv (rb+r) s h (.blist s_ n_ z_ p_)) (.blist s_ n_ z_ p_) d os s h K:=RN_op rfl
@[go_sem ↓] theorem RN_mkslice {rb:Nat} {fs:Option (Nat × List (Nat × Foot))} {d:Option Nat} {r:Nat} {os:List AOper} {s:List V} {h:List Obj} {K:KT} {s_} {b_} {z_} {l_}:RN G rb fs (⟨d,.mkslice s_ b_ z_ l_,none,r⟩::os) s h K↔OK1 G rb fs (opEv (rb+r) s h (.mkslice s_ b_ z_ l_)) (.mkslice s_ b_ z_ l_) d os s h K:=RN_op rfl
@[go_sem ↓] theorem RN_append {rb:Nat} {fs:Option (Nat × List (Nat × Foot))} {d:Option Nat} {r:Nat} {os:List AOper} {s:List V} {h:List Obj} {K:KT} {s_} {b_} {x_} {y_}:RN G rb fs (⟨d,.append s_ b_ x_ y_,none,r⟩::os) s h K↔OK1 G rb fs (opEv (rb+r) s h (.append s_ b_ x_ y_)) (.append s_ b_ x_ y_) d os s h K:=RN_op rfl
@[go_sem ↓] theorem RN_clone {rb:Nat} {fs:Option (Nat × List (Nat × Foot))} {d:Option Nat} {r:Nat} {os:List AOper} {s:List V} {h:List Obj} {K:KT} {f_} {s_} {b_} {x_}:RN G rb fs (⟨d,.clone f_ s_ b_ x_,none,r⟩::os) s h K↔OK1 G rb fs (opEv (rb+r) s h (.clone f_ s_ b_ x_)) (.clone f_ s_ b_ x_) d os s h K:=RN_op rfl
@[go_sem ↓] theorem RN_grow {rb:Nat} {fs:Option (Nat × List (Nat × Foot))} {d:Option Nat} {r:Nat} {os:List AOper} {s:List V} {h:List Obj} {K:KT} {f_} {s_} {b_} {x_}:RN G rb fs (⟨d,.grow f_ s_ b_ x_,none,r⟩::os) s h K↔OK1 G rb fs (opEv (rb+r) s h (.grow f_ s_ b_ x_)) (.grow f_ s_ b_ x_) d os s h K:=RN_op rfl
@[go_sem ↓] theorem RN_slice {rb:Nat} {fs:Option (Nat × List (Nat × Foot))} {d:Option Nat} {r:Nat} {os:List AOper} {s:List V} {h:List Obj} {K:KT} {z_} {x_} {l_} {h_}:RN G rb fs (⟨d,.slice z_ x_ l_ h_,none,r⟩::os) s h K↔OK1 G rb fs (opEv (rb+r) s h (.slice z_ x_ l_ h_)) (.slice z_ x_ l_ h_) d os s h K:=RN_op rfl
@[go_sem ↓] theorem RN_pslice {rb:Nat} {fs:Option (Nat × List (Nat × Foot))} {d:Option Nat} {r:Nat} {os:List AOper} {s:List V} {h:List Obj} {K:KT} {z_} {x_} {l_} {h_}:RN G rb fs (⟨d,.pslice z_ x_ l_ h_,none,r⟩::os) s h K↔OK1 G rb fs (opEv (rb+r) s h (.pslice z_ x_ l_ h_)) (.pslice z_ x_ l_ h_) d os s h K:=RN_op rfl
@[go_sem ↓] theorem RN_copy {rb:Nat} {fs:Option (Nat × List (Nat × Foot))} {d:Option Nat} {r:Nat} {os:List AOper} {s:List V} {h:List Obj} {K:KT} {x_} {y_}:RN G rb fs (⟨d,.copy x_ y_,none,r⟩::os) s h K↔OK1 G rb fs (opEv (rb+r) s h (.copy x_ y_)) (.copy x_ y_) d os s h K:=RN_op rfl
@[go_sem ↓] theorem RN_len {rb:Nat} {fs:Option (Nat × List (Nat × Foot))} {d:Option Nat} {r:Nat} {os:List AOper} {s:List V} {h:List Obj} {K:KT} {x_}:RN G rb fs (⟨d,.len x_,none,r⟩::os) s h K↔OK1 G rb fs (opEv (rb+r) s h (.len x_)) (.len x_) d os s h K:=RN_op rfl
@[go_sem ↓] theorem RN_mm {rb:Nat} {fs:Option (Nat × List (Nat × Foot))} {d:Option Nat} {r:Nat} {os:List AOper} {s:List V} {h:List Obj} {K:KT} {b_} {x_} {y_}:RN G rb fs (⟨d,.mm b_ x_ y_,none,r⟩::os) s h K↔OK1 G rb fs (opEv (rb+r) s h (.mm b_ x_ y_)) (.mm b_ x_ y_) d os s h K:=RN_op rfl
@[go_sem ↓] theorem RN_nilchk {rb:Nat} {fs:Option (Nat × List (Nat × Foot))} {d:Option Nat} {r:Nat} {os:List AOper} {s:List V} {h:List Obj} {K:KT} {x_}:RN G rb fs (⟨d,.nilchk x_,none,r⟩::os) s h K↔OK1 G rb fs (opEv (rb+r) s h (.nilchk x_)) (.nilchk x_) d os s h K:=RN_op rfl
@[go_sem ↓] theorem RN_isnil {rb:Nat} {fs:Option (Nat × List (Nat × Foot))} {d:Option Nat} {r:Nat} {os:List AOper} {s:List V} {h:List Obj} {K:KT} {b_} {x_}:RN G rb fs (⟨d,.isnil b_ x_,none,r⟩::os) s h K↔OK1 G rb fs (opEv (rb+r) s h (.isnil b_ x_)) (.isnil b_ x_) d os s h K:=RN_op rfl
@[go_sem ↓] theorem RN_mkmap {rb:Nat} {fs:Option (Nat × List (Nat × Foot))} {d:Option Nat} {r:Nat} {os:List AOper} {s:List V} {h:List Obj} {K:KT} {a_ b_:Bool} {ks_:List (Option IntKind)}:RN G rb fs (⟨d,.mkmap a_ b_ ks_,none,r⟩::os) s h K↔OK1 G rb fs (opEv (rb+r) s h (.mkmap a_ b_ ks_)) (.mkmap a_ b_ ks_) d os s h K:=RN_op rfl
@[go_sem ↓] theorem RN_lookup {rb:Nat} {fs:Option (Nat × List (Nat × Foot))} {d:Option Nat} {r:Nat} {os:List AOper} {s:List V} {h:List Obj} {K:KT} {ka_} {va_} {ks_} {z_} {o_} {m_} {k_}:RN G rb fs (⟨d,.lookup ka_ va_ ks_ z_ o_ m_ k_,none,r⟩::os) s h K↔OK1 G rb fs (opEv (rb+r) s h (.lookup ka_ va_ ks_ z_ o_ m_ k_)) (.lookup ka_ va_ ks_ z_ o_ m_ k_) d os s h K:=RN_op rfl
@[go_sem ↓] theorem RN_mapupd {rb:Nat} {fs:Option (Nat × List (Nat × Foot))} {d:Option Nat} {r:Nat} {os:List AOper} {s:List V} {h:List Obj} {K:KT} {ka_} {va_} {ks_} {m_} {k_} {v_}:RN G rb fs (⟨d,.mapupd ka_ va_ ks_ m_ k_ v_,none,r⟩::os) s h K↔OK1 G rb fs (opEv (rb+r) s h (.mapupd ka_ va_ ks_ m_ k_ v_)) (.mapupd ka_ va_ ks_ m_ k_ v_) d os s h K:=RN_op rfl
theorem setS_self (s:List V) (t:Nat) (v:V) (hv:getS s t=v):setS s t v=s:=by
  induction s generalizing t with
  | nil=>rfl
  | cons a s ih=>
    cases t with
    | zero=>simp only [getS] at hv;simp [setS,hv]
    | succ t=>simp only [getS] at hv;simp [setS,ih t hv]
def GV (G:Nat→Option AFunc) (rb:Nat) (fs:Option (Nat × List (Nat × Foot))) (v:V) (t:Nat) (p:Bool) (d:Option Nat) (op:AOp) (r:Nat) (os:List AOper) (s:List V) (h:List Obj) (K:KT):Prop:=
  match v with
  | .c (.bool b)=>(b=p→RN G rb fs (⟨d,op,none,r⟩::os) (setS s t (.c (.bool p))) h K)∧(b = !p→NX G rb (trk fs ⟨[],[],none⟩) os (putD (setS s t (.c (.bool (!p)))) d skipV) h K)
  | .tup []=>NX G rb (trk fs ⟨[],[],none⟩) os (putD s d skipV) h K
  | _=>False
theorem evO_guard {r:Rec} {rb:Nat} {d:Option Nat} {op:AOp} {t:Nat} {p:Bool} {rid:Nat} {st:St} :
    evO r rb ⟨d,op,some (t,p),rid⟩ st=match getS st.slots t with
      | .c (.bool b)=>if b=p then evO r rb ⟨d,op,none,rid⟩ st else some (⟨putD st.slots d skipV,st.heap⟩,⟨[],[],none⟩)
      | .tup []=>some (⟨putD st.slots d skipV,st.heap⟩,⟨[],[],none⟩)
      | _=>none:=by
  unfold evO
  simp only [wantedA]
  rcases hv:getS st.slots t with c | cs | vs
  · cases c with
    | bool b=>cases b<;>cases p<;>rfl
    | _=>rfl
  · rfl
  · cases vs<;>rfl
theorem RN_cases {rb:Nat} {fs:Option (Nat × List (Nat × Foot))} {o o':AOper} {os:List AOper} {s:List V} {h:List Obj} {K:KT}
    (e:∀r,evO r rb o ⟨s,h⟩=evO r rb o' ⟨s,h⟩):RN G rb fs (o::os) s h K↔RN G rb fs (o'::os) s h K:=by
  have key:∀i l (K':St→List (Nat × Foot)→Prop),RO G rb i (o::os) ⟨s,h⟩ l K'↔RO G rb i (o'::os) ⟨s,h⟩ l K':=by
    intro i l K'
    simp only [RO,evOs_cons,e]
  cases fs with
  | none=>simp only [RN,key]
  | some z=>obtain ⟨i,l⟩:=z;simp only [RN,key]
theorem RN_skipO {rb:Nat} {fs:Option (Nat × List (Nat × Foot))} {o:AOper} {os:List AOper} {s:List V} {h:List Obj} {K:KT}
    (e:∀r,evO r rb o ⟨s,h⟩=some (⟨putD s o.dst skipV,h⟩,⟨[],[],none⟩)):RN G rb fs (o::os) s h K↔NX G rb (trk fs ⟨[],[],none⟩) os (putD s o.dst skipV) h K:=by
  have key:∀i l (K':St→List (Nat × Foot)→Prop),RO G rb i (o::os) ⟨s,h⟩ l K'↔RO G rb (i+1) os ⟨putD s o.dst skipV,h⟩ ((i,⟨[],[],none⟩)::l) K':=by
    intro i l K'
    simp only [RO,evOs_cons,e]
  cases fs with
  | none=>
    constructor
    · rintro ⟨i,l,hh⟩;exact ⟨_,_,(key _ _ _).1 hh⟩
    · rintro ⟨i,l,hh⟩
      exact ⟨0,[],(key _ _ _).2 (RO_fs (K:=fun st=>K none st.slots st.heap) hh)⟩
  | some z=>obtain ⟨i,l⟩:=z;exact key _ _ _
@[go_sem ↓] theorem RN_guard {rb:Nat} {fs:Option (Nat × List (Nat × Foot))} {d:Option Nat} {op:AOp} {t:Nat} {p:Bool} {r:Nat} {os:List AOper} {s:List V} {h:List Obj} {K:KT} :
    RN G rb fs (⟨d,op,some (t,p),r⟩::os) s h K↔GV G rb fs (getS s t) t p d op r os s h K:=by
  rcases hv:getS s t with c | cs | vs
  · cases c with
    | bool b=>
      by_cases hb:b=p
      · subst hb
        have e1:RN G rb fs (⟨d,op,some (t,b),r⟩::os) s h K↔RN G rb fs (⟨d,op,none,r⟩::os) s h K:=RN_cases fun rr=>by rw [evO_guard];simp [hv]
        rw [e1]
        simp [GV,setS_self s t _ hv]
      · have hb':b = !p:=by cases b<;>cases p<;>simp_all
        subst hb'
        have e1:=RN_skipO (G:=G) (fs:=fs) (os:=os) (K:=K) (rb:=rb) (s:=s) (h:=h) (o:=⟨d,op,some (t,p),r⟩) fun rr=>by rw [evO_guard];simp [hv]
        rw [e1]
        simp [GV,setS_self s t _ hv]
    | _=>
      refine ⟨fun hh=>?_,fun hh=>hh.elim⟩
      have:∀rr,evO rr rb ⟨d,op,some (t,p),r⟩ ⟨s,h⟩=none:=fun rr=>by rw [evO_guard];simp [hv]
      cases fs with
      | none=>obtain ⟨i,l,n,s',f',e,_⟩:=hh;rw [evOs_cons,this] at e;cases e
      | some z=>obtain ⟨n,s',f',e,_⟩:=hh;rw [evOs_cons,this] at e;cases e
  · refine ⟨fun hh=>?_,fun hh=>hh.elim⟩
    have:∀rr,evO rr rb ⟨d,op,some (t,p),r⟩ ⟨s,h⟩=none:=fun rr=>by rw [evO_guard];simp [hv]
    cases fs with
    | none=>obtain ⟨i,l,n,s',f',e,_⟩:=hh;rw [evOs_cons,this] at e;cases e
    | some z=>obtain ⟨n,s',f',e,_⟩:=hh;rw [evOs_cons,this] at e;cases e
  · cases vs with
    | nil=>exact RN_skipO (G:=G) (fs:=fs) (os:=os) (K:=K) (rb:=rb) (s:=s) (h:=h) (o:=⟨d,op,some (t,p),r⟩) fun rr=>by rw [evO_guard];simp [hv]
    | cons a vs=>
      refine ⟨fun hh=>?_,fun hh=>hh.elim⟩
      have:∀rr,evO rr rb ⟨d,op,some (t,p),r⟩ ⟨s,h⟩=none:=fun rr=>by rw [evO_guard];simp [hv]
      cases fs with
      | none=>obtain ⟨i,l,n,s',f',e,_⟩:=hh;rw [evOs_cons,this] at e;cases e
      | some z=>obtain ⟨n,s',f',e,_⟩:=hh;rw [evOs_cons,this] at e;cases e
section
variable {rb:Nat} {fs:Option (Nat × List (Nat × Foot))} {t:Nat} {p:Bool} {d:Option Nat} {op:AOp} {r:Nat} {os:List AOper} {s:List V} {h:List Obj} {K:KT}
theorem GV_tt : GV G rb fs (.c (.bool true)) t true d op r os s h K↔RN G rb fs (⟨d,op,none,r⟩::os) (setS s t (.c (.bool true))) h K:=by simp [GV]
theorem GV_ff : GV G rb fs (.c (.bool false)) t false d op r os s h K↔RN G rb fs (⟨d,op,none,r⟩::os) (setS s t (.c (.bool false))) h K:=by simp [GV]
theorem GV_tf : GV G rb fs (.c (.bool true)) t false d op r os s h K↔NX G rb (trk fs ⟨[],[],none⟩) os (putD (setS s t (.c (.bool true))) d skipV) h K:=by simp [GV]
theorem GV_ft : GV G rb fs (.c (.bool false)) t true d op r os s h K↔NX G rb (trk fs ⟨[],[],none⟩) os (putD (setS s t (.c (.bool false))) d skipV) h K:=by simp [GV]
theorem GV_skip : GV G rb fs (.tup []) t p d op r os s h K↔NX G rb (trk fs ⟨[],[],none⟩) os (putD s d skipV) h K:=Iff.rfl
theorem GV_split {b:Bool}:GV G rb fs (.c (.bool b)) t true d op r os s h K↔(b=true→NX G rb fs (⟨d,op,none,r⟩::os) (setS s t (.c (.bool true))) h K)∧(b=false→NX G rb (trk fs ⟨[],[],none⟩) os (putD (setS s t (.c (.bool false))) d skipV) h K):=Iff.rfl
theorem GV_split' {b:Bool}:GV G rb fs (.c (.bool b)) t false d op r os s h K↔(b=false→NX G rb fs (⟨d,op,none,r⟩::os) (setS s t (.c (.bool false))) h K)∧(b=true→NX G rb (trk fs ⟨[],[],none⟩) os (putD (setS s t (.c (.bool true))) d skipV) h K):=Iff.rfl
def PV (G:Nat→Option AFunc) (rb:Nat) (fs:Option (Nat × List (Nat × Foot))) (v:V) (c a b:Opd) (d:Option Nat) (os:List AOper) (s:List V) (h:List Obj) (K:KT):Prop:=
  match v with
  | .c (.bool x)=>(x=true→NX G rb (trk fs ⟨[],[],none⟩) os (putD s d (a.ev s)) h K)∧(x=false→NX G rb (trk fs ⟨[],[],none⟩) os (putD s d (b.ev s)) h K)
  | _=>False
@[go_sem ↓] theorem RN_pick {r:Nat} {c a b:Opd}:RN G rb fs (⟨d,.pick c a b,none,r⟩::os) s h K↔PV G rb fs (c.ev s) c a b d os s h K:=by
  rw [RN_op rfl]
  simp only [opEv]
  rcases hc:c.ev s with x | cs | vs
  · cases x with
    | bool x=>
      cases x
      · constructor
        · rintro ⟨v,w,e,hh⟩;cases e;exact ⟨fun h=>(by cases h),fun _=>hh⟩
        · rintro ⟨_,hh⟩;exact ⟨_,_,rfl,hh rfl⟩
      · constructor
        · rintro ⟨v,w,e,hh⟩;cases e;exact ⟨fun _=>hh,fun h=>(by cases h)⟩
        · rintro ⟨hh,_⟩;exact ⟨_,_,rfl,hh rfl⟩
    | _=>exact ⟨fun ⟨_,_,e,_⟩=>by simp at e,fun hh=>hh.elim⟩
  · exact ⟨fun ⟨_,_,e,_⟩=>by simp at e,fun hh=>hh.elim⟩
  · exact ⟨fun ⟨_,_,e,_⟩=>by simp at e,fun hh=>hh.elim⟩
theorem PV_true {c a b:Opd}:PV G rb fs (.c (.bool true)) c a b d os s h K↔NX G rb (trk fs ⟨[],[],none⟩) os (putD s d (a.ev s)) h K:=by simp [PV]
theorem PV_false {c a b:Opd}:PV G rb fs (.c (.bool false)) c a b d os s h K↔NX G rb (trk fs ⟨[],[],none⟩) os (putD s d (b.ev s)) h K:=by simp [PV]
theorem PV_split {x:Bool} {c a b:Opd}:PV G rb fs (.c (.bool x)) c a b d os s h K↔(x=true→NX G rb (trk fs ⟨[],[],none⟩) os (putD s d (a.ev s)) h K)∧(x=false→NX G rb (trk fs ⟨[],[],none⟩) os (putD s d (b.ev s)) h K):=Iff.rfl
end
attribute [go_sem high] GV_tt GV_ff GV_tf GV_ft GV_skip PV_true PV_false
attribute [go_sem low] GV_split GV_split' PV_split
end Am
namespace Am
open Go
set_option linter.unusedVariables false
set_option linter.unusedSimpArgs false
variable {G:Nat→Option AFunc}
section
variable {rb:Nat} {fs:Option (Nat × List (Nat × Foot))} {d:Option Nat} {r:Nat} {os:List AOper} {s:List V} {h:List Obj} {K:KT}
def callX (G:Nat→Option AFunc) (rb:Nat) (fs:Option (Nat × List (Nat × Foot))) (args:List Opd) (k:Nat) (d:Option Nat) (os:List AOper) (s:List V) (h:List Obj) (K:KT) (v:V):Prop:=
  RN G rb (trk fs ⟨readsOf s (.call k true args),[],none⟩) os (putD s d v) h K
@[go_sem ↓] theorem callX_app0 {args k v}:callX G rb none args k d os s h K v↔NX G rb none os (putD s d v) h K:=Iff.rfl
@[go_sem ↓] theorem callX_app1 {args k v i l}:callX G rb (some (i,l)) args k d os s h K v↔NX G rb (some (i+1,(i,⟨readsOf s (.call k true args),[],none⟩)::l)) os (putD s d v) h K:=Iff.rfl
theorem CallA_mono {k:Nat} {as:Option (List V)} {Q Q':V→Prop} (hq:∀v,Q v→Q' v) (hh:CallA G k as Q):CallA G k as Q':=by
  cases as with
  | none=>exact hh
  | some as=>obtain ⟨v,a,b⟩:=hh;exact ⟨v,a,hq v b⟩
@[go_sem ↓] theorem RN_call {k:Nat} {args:List Opd}:RN G rb fs (⟨d,.call k true args,none,r⟩::os) s h K↔CallA G k (toArgs h (args.map (·.ev s))) (callX G rb fs args k d os s h K):=by
  have key:∀i l (K':St→List (Nat × Foot)→Prop),RO G rb i (⟨d,.call k true args,none,r⟩::os) ⟨s,h⟩ l K'↔CallA G k (toArgs h (args.map (·.ev s))) (callK G rb i d os ⟨s,h⟩ ⟨readsOf s (.call k true args),[],none⟩ l K'):=by
    intro i l K';rw [RO_call];exact Iff.rfl
  cases fs with
  | none=>
    constructor
    · rintro ⟨i,l,hh⟩
      exact CallA_mono (fun v hv=>⟨_,_,hv⟩) ((key _ _ _).1 hh)
    · intro hh
      refine ⟨0,[],(key _ _ _).2 (CallA_mono (fun v hv=>?_) hh)⟩
      obtain ⟨i,l,hv⟩:=hv
      exact RO_fs (K:=fun st=>K none st.slots st.heap) hv
  | some z=>obtain ⟨i,l⟩:=z;exact key _ _ _
def callFX (G:Nat→Option AFunc) (rb:Nat) (fs:Option (Nat × List (Nat × Foot))) (d:Option Nat) (os:List AOper) (s:List V) (h0:List Obj) (K:KT) (v:V) (h:List Obj):Prop:=
  RN G rb (trk fs ⟨[],[],some (sameO h0 h)⟩) os (putD s d v) h K
@[go_sem ↓] theorem callFX_app0 {v h0}:callFX G rb none d os s h0 K v h↔NX G rb none os (putD s d v) h K:=Iff.rfl
@[go_sem ↓] theorem callFX_app1 {v i l h0}:callFX G rb (some (i,l)) d os s h0 K v h↔NX G rb (some (i+1,(i,⟨[],[],some (sameO h0 h)⟩)::l)) os (putD s d v) h K:=Iff.rfl
@[go_sem ↓] theorem RN_callf {k:Nat} {args:List Opd}:RN G rb fs (⟨d,.call k false args,none,r⟩::os) s h K↔Fn G (.f k (args.map (·.ev s)) h) (callFX G rb fs d os s h K):=by
  have key:∀i l (K':St→List (Nat × Foot)→Prop),RO G rb i (⟨d,.call k false args,none,r⟩::os) ⟨s,h⟩ l K'↔Fn G (.f k (args.map (·.ev s)) h) (callFK G rb i d os ⟨s,h⟩ l K'):=by
    intro i l K';rw [RO_callF];exact Iff.rfl
  cases fs with
  | none=>
    constructor
    · rintro ⟨i,l,hh⟩
      exact ((key _ _ _).1 hh).mono fun v h hv=>⟨_,_,hv⟩
    · intro hh
      refine ⟨0,[],(key _ _ _).2 (hh.mono fun v h hv=>?_)⟩
      obtain ⟨i,l,hv⟩:=hv
      exact RO_fs (K:=fun st=>K none st.slots st.heap) hv
  | some z=>obtain ⟨i,l⟩:=z;exact key _ _ _
@[go_sem ↓] theorem RN_callv {f:Opd} {args:List Opd}:RN G rb fs (⟨d,.callv f args,none,r⟩::os) s h K↔CallV G (f.ev s) (args.map (·.ev s)) h (callFX G rb fs d os s h K):=by
  have key:∀i l (K':St→List (Nat × Foot)→Prop),RO G rb i (⟨d,.callv f args,none,r⟩::os) ⟨s,h⟩ l K'↔CallV G (f.ev s) (args.map (·.ev s)) h (callFK G rb i d os ⟨s,h⟩ l K'):=by
    intro i l K';rw [RO_callV];exact Iff.rfl
  cases fs with
  | none=>
    constructor
    · rintro ⟨i,l,hh⟩
      exact ((key _ _ _).1 hh).mono fun v h hv=>⟨_,_,hv⟩
    · intro hh
      refine ⟨0,[],(key _ _ _).2 (hh.mono fun v h hv=>?_)⟩
      obtain ⟨i,l,hv⟩:=hv
      exact RO_fs (K:=fun st=>K none st.slots st.heap) hv
  | some z=>obtain ⟨i,l⟩:=z;exact key _ _ _
end
theorem ev_det {q:Req} {n m:Nat} {z z':V × List Obj} (h:ev G n q=some z) (h':ev G m q=some z'):z=z':=by
  have h1:=ev_mono G (Nat.le_max_left n m) _ _ h
  have h2:=ev_mono G (Nat.le_max_right n m) _ _ h'
  rw [h1] at h2;injection h2
theorem Fn_iff {q:Req} {v:V} {h:List Obj} (hh:Fn G q fun v' h'=>v'=v∧h'=h) {Q:V→List Obj→Prop}:Fn G q Q↔Q v h:=by
  obtain ⟨n,v1,h1,e,rfl,rfl⟩:=hh
  constructor
  · rintro ⟨m,v2,h2,e2,q⟩
    have:=ev_det e e2
    cases this;exact q
  · intro q;exact ⟨n,_,_,e,q⟩
def resX (res:List RVar) (s:List V) (h:List Obj):Option V:=(resV ⟨s,h⟩ res).bind fun vs=>toRes h (resOf vs)
def valX (res:List RVar) (Q:V→Prop):QT:=fun x s h=>match x with
  | .exit _=>False
  | _=>∃v,resX res s h=some v∧Q v
theorem valX_ret {res:List RVar} {Q:V→Prop} {s h}:valX res Q .ret s h↔∃v,resX res s h=some v∧Q v:=Iff.rfl
theorem valX_normal {res:List RVar} {Q:V→Prop} {s h}:valX res Q .normal s h↔∃v,resX res s h=some v∧Q v:=Iff.rfl
theorem CallP_X {k:Nat} {fn:AFunc} {args:List V} {Q:V→Prop} (hg:G k=some fn) (hc:RX G fn.code (frameOf fn args) [] (valX fn.res Q)):CallP G k args Q:=by
  obtain ⟨n,x,st,e,q⟩:=hc
  have key:∀v,resX fn.res st.slots st.heap=some v→(∀i,x ≠ .exit i)→Val G k args v:=by
    intro v hv hx
    refine Val_of hg ⟨n,x,st,e,?_⟩
    unfold resX at hv
    cases hr:resV st fn.res with
    | none=>rw [hr] at hv;cases hv
    | some vs=>
      rw [hr] at hv
      cases x with
      | exit i=>exact (hx i rfl).elim
      | normal=>exact ⟨vs,hr,hv⟩
      | ret=>exact ⟨vs,hr,hv⟩
  cases x with
  | exit i=>exact q.elim
  | normal=>obtain ⟨v,hv,q⟩:=q;exact ⟨v,key v hv (fun _ h=>by cases h),q⟩
  | ret=>obtain ⟨v,hv,q⟩:=q;exact ⟨v,key v hv (fun _ h=>by cases h),q⟩
theorem Val_X {k:Nat} {fn:AFunc} {args:List V} {v:V} (hg:G k=some fn) (hc:RX G fn.code (frameOf fn args) [] (valX fn.res (Eq v))):Val G k args v:=by
  obtain ⟨v',h,rfl⟩:=CallP_X hg hc;exact h
theorem CallP.mono {k:Nat} {args:List V} {Q Q':V→Prop} (h:CallP G k args Q) (hq:∀v,Q v→Q' v):CallP G k args Q':=by
  obtain ⟨v,a,b⟩:=h;exact ⟨v,a,hq v b⟩
def putsS : List (Nat × V)→List V→List V
  | [],s=>s
  | (i,v)::l,s=>putsS l (setS s i v)
def headX (ann:Ann) (lb:Nat) (s:List V) (h:List Obj):Option (List V × List Obj):=
  if reifyOk ann.reify s h=true then (if ann.trunc=true then (trunc lb (killS ann.kill s) h).map fun h'=>(killS ann.kill s,h') else some (killS ann.kill s,h)) else none
theorem headX_ok {ann lb s h s' h'} (e:headX ann lb s h=some (s',h')):headOf ann lb ⟨s,h⟩=some ⟨s',h'⟩:=by
  unfold headX at e
  unfold headOf
  split at e
  case isFalse=>cases e
  rename_i hok
  rw [if_pos hok]
  simp only
  split at e
  · rename_i ht
    rw [if_pos ht]
    cases hh:trunc lb (killS ann.kill s) h with
    | none=>rw [hh] at e;cases e
    | some z=>rw [hh] at e;cases e;rfl
  · rename_i ht
    rw [if_neg ht]
    cases e;rfl
def loopX {α:Type} (ann:Ann) (lb:Nat) (tgt:α→List V × List Obj) (P:α→Prop) (μ:α→Nat) (m:Nat) (Q:QT):QT:=fun x s h=>match x with
  | .normal=>∃y,μ y<m∧P y∧headX ann lb s h=some (tgt y)
  | x=>Q x s h
theorem RX_while {α:Type} {ann:Ann} {b:ACode} {s:List V} {h:List Obj} {Q:QT} (tgt:α→List V × List Obj) (P:α→Prop) (μ:α→Nat) (x0:α)
    (h0:P x0∧headX ann (reify ann.reify ⟨s,h⟩).heap.length (reify ann.reify ⟨s,h⟩).slots (reify ann.reify ⟨s,h⟩).heap=some (tgt x0))
    (step:∀x,P x→RX G b (tgt x).1 (tgt x).2 (loopX ann (reify ann.reify ⟨s,h⟩).heap.length tgt P μ (μ x) Q)):RX G (.loop ann b) s h Q:=by
  refine RC_loop (fun m st=>∃x,μ x=m∧P x∧headX ann (reify ann.reify ⟨s,h⟩).heap.length st.slots st.heap=some (tgt x)) (μ x0) ⟨x0,rfl,h0⟩ ?_
  rintro m st ⟨x,rfl,hP,hh⟩
  refine ⟨⟨(tgt x).1,(tgt x).2⟩,headX_ok hh,(step x hP).mono ?_⟩
  intro y st' hq
  cases y with
  | normal=>obtain ⟨z,hz,hP',hh'⟩:=hq;exact ⟨_,hz,z,rfl,hP',hh'⟩
  | exit i=>exact hq
  | ret=>exact hq
def forX (ann:Ann) (lb:Nat) (up:List (Nat × V)) (s1:List V) (hp:List Obj) (P:Prop) (Q:QT):QT:=fun x s h=>match x with
  | .normal=>P∧headX ann lb s h=some (putsS up s1,hp)
  | x=>Q x s h
@[go_sem ↓] theorem forX_normal {ann lb up s1 hp P Q s h}:forX ann lb up s1 hp P Q .normal s h↔(P∧headX ann lb s h=some (putsS up s1,hp)):=Iff.rfl
@[go_sem ↓] theorem forX_exit {ann lb up s1 hp P Q i s h}:forX ann lb up s1 hp P Q (.exit i) s h↔Q (.exit i) s h:=Iff.rfl
@[go_sem ↓] theorem forX_ret {ann lb up s1 hp P Q s h}:forX ann lb up s1 hp P Q .ret s h↔Q .ret s h:=Iff.rfl
theorem RX_for {ann:Ann} {b:ACode} {s:List V} {h:List Obj} {Q:QT} (n:Nat) (up:Nat→List (Nat × V)) (hp:Nat→List Obj) (P:Nat→Prop)
    (hP:P 0)
    (h0:headX ann (reify ann.reify ⟨s,h⟩).heap.length (reify ann.reify ⟨s,h⟩).slots (reify ann.reify ⟨s,h⟩).heap=some (putsS (up 0) (killS ann.kill (reify ann.reify ⟨s,h⟩).slots),hp 0))
    (step:∀k,k≤n→P k→RX G b (putsS (up k) (killS ann.kill (reify ann.reify ⟨s,h⟩).slots)) (hp k) (forX ann (reify ann.reify ⟨s,h⟩).heap.length (up (k+1)) (killS ann.kill (reify ann.reify ⟨s,h⟩).slots) (hp (k+1)) (k<n∧P (k+1)) Q)):RX G (.loop ann b) s h Q:=by
  refine RX_while (α:=Nat) (fun k=>(putsS (up k) (killS ann.kill (reify ann.reify ⟨s,h⟩).slots),hp k)) (fun k=>k≤n∧P k) (fun k=>n-k) 0 ⟨⟨Nat.zero_le _,hP⟩,h0⟩ ?_
  rintro k ⟨hk,hPk⟩
  refine (step k hk hPk).mono ?_
  intro y st' hq
  cases y with
  | normal=>obtain ⟨⟨hlt,hP'⟩,hh⟩:=hq;exact ⟨k+1,by show n-(k+1)<n-k;omega,⟨hlt,hP'⟩,hh⟩
  | exit i=>exact hq
  | ret=>exact hq
class Row (α:Type) where
  sz:Nat
  row:α→List D
  len:∀a,(row a).length=sz
instance : Row Int:=⟨1,fun x=>[.int .i64 x],fun _=>rfl⟩
instance : Row Bool:=⟨1,fun x=>[.bool x],fun _=>rfl⟩
instance {α:Type} [Row α]:Row (List α):=⟨1,fun l=>[.lst (l.map Row.row)],fun _=>rfl⟩
@[go_sem] theorem sz_int : Row.sz Int=1:=rfl
@[go_sem] theorem sz_bool : Row.sz Bool=1:=rfl
@[go_sem] theorem sz_list {α:Type} [Row α]:Row.sz (List α)=1:=rfl
@[go_sem] theorem row_int {x:Int}:Row.row x=[.int .i64 x]:=rfl
@[go_sem] theorem row_bool {x:Bool}:Row.row x=[.bool x]:=rfl
@[go_sem] theorem row_list {α:Type} [Row α] {l:List α}:Row.row l=[.lst (l.map Row.row)]:=rfl
class Scal (α:Type) [Row α]:Prop where
  scal:∀a:α,scalRow (Row.row a)=true
instance : Scal Int:=⟨fun _=>rfl⟩
instance : Scal Bool:=⟨fun _=>rfl⟩
def L {α:Type} [Row α] (g:Bool × Bool) (l:List α):C:=match g.1,l with
  | true,[]=>.nils
  | _,l=>.lst g.2 (l.map Row.row)
theorem L_cases {α:Type} [Row α] (g:Bool × Bool) (l:List α):(L g l = .nils∧l=[]∧g.1=true)∨L g l = .lst g.2 (l.map Row.row):=by
  obtain ⟨a,b⟩:=g
  cases a
  · exact .inr rfl
  · cases l
    · exact .inl ⟨rfl,rfl,rfl⟩
    · exact .inr rfl
@[go_sem] theorem L_nils {α:Type} [Row α] {b:Bool}:L (α:=α) (true,b) [] = .nils:=rfl
@[go_sem] theorem lst_L {α:Type} [Row α] {t:Bool} {l:List α}:C.lst t (l.map Row.row)=L (false,t) l:=rfl
def atI {α:Type} [Inhabited α] (l:List α) (i:Int):α:=l.getD i.toNat default
section
variable {α:Type} [Row α] {g:Bool × Bool} {l:List α} {h:List Obj}
@[go_sem] theorem lenC_L : lenC (L g l)=some l.length:=by
  rcases L_cases g l with ⟨e,rfl,_⟩ | e<;>rw [e]<;>simp [lenC]
@[go_sem] theorem known_L {cs:List C}:known (L g l::cs)=known cs:=by
  rcases L_cases g l with ⟨e,_⟩ | e<;>rw [e]<;>rfl
@[go_sem] theorem obj_L : C.obj (L g l)=[]:=by
  rcases L_cases g l with ⟨e,_⟩ | e<;>rw [e]<;>rfl
@[go_sem] theorem under_L {b:Nat}:C.under b (L g l)=true:=by
  rcases L_cases g l with ⟨e,_⟩ | e<;>rw [e]<;>rfl
@[go_sem] theorem toArgC_L : toArgC h (L g l)=some (L g l):=by
  rcases L_cases g l with ⟨e,_⟩ | e<;>rw [e]<;>rfl
@[go_sem] theorem toResC_L {b:Bool}:toResC h (L (b,false) l)=some (L (b,false) l):=by
  rcases L_cases (b,false) l with ⟨e,_⟩ | e<;>rw [e]<;>rfl
@[go_sem] theorem toD_L {b:Bool}:toD h (L (b,false) l)=some (.lst (l.map Row.row),[]):=by
  rcases L_cases (b,false) l with ⟨e,rfl,_⟩ | e<;>rw [e]<;>rfl
@[go_sem] theorem sliceRows_L {b:Bool}:sliceRows h (L (b,false) l)=some (l.map Row.row):=by
  rcases L_cases (b,false) l with ⟨e,rfl,_⟩ | e<;>rw [e]<;>rfl
theorem scalRows_map [Scal α] {l:List α}:scalRows (l.map Row.row)=true:=by
  induction l with
  | nil=>rfl
  | cons a l ih=>simp [scalRows,Scal.scal,ih]
@[go_sem] theorem sliceRows_Ls [Scal α]:sliceRows h (L g l)=some (l.map Row.row):=by
  rcases L_cases g l with ⟨e,rfl,_⟩ | e<;>rw [e]
  · rfl
  · simp [sliceRows,scalRows_map]
attribute [go_sem] scalRows_map
@[go_sem] theorem headLen_map {sz:Nat} (hs:Row.sz α=sz) {l:List α}:headLen sz (l.map Row.row)=true:=by
  cases l with
  | nil=>rfl
  | cons a l=>simp [headLen,Row.len,hs]
@[go_sem] theorem elemC_L [Inhabited α] {sz:Nat} {i:Int} (h0:0≤i) (h1:i<l.length) (hs:Row.sz α=sz):elemC h sz (L g l) i=some (.ept g.2 (Row.row (atI l i)) 0):=by
  have hl:i.toNat<l.length:=by omega
  have hn:nth (l.map Row.row) i.toNat=some (Row.row (atI l i)):=by
    rw [nth_get]
    simp [hl,atI]
  rcases L_cases g l with ⟨e,rfl,_⟩ | e
  · simp at hl
  · rw [e];simp only [elemC,h0,if_true,hn,Row.len,hs]
theorem takeN_whole {β:Type}:∀(l:List β),takeN l.length l=some l
  | []=>rfl
  | x::l=>by simp only [List.length_cons,takeN,takeN_whole l,Option.map_some]
@[go_sem] theorem part_map {n:Nat} (hn:l.length=n):part 0 n (l.map (Row.row (α:=α)))=some (l.map Row.row):=by
  subst hn
  have:=takeN_whole (l.map (Row.row (α:=α)))
  rw [List.length_map] at this
  exact this
end
theorem atI_nat {α:Type} [Inhabited α] (l:List α) (k:Nat):atI l (k:Int)=l.getD k default:=rfl
end Am
namespace Am
open Go
set_option linter.unusedVariables false
@[go_sem] theorem toResC_ls {h:List Obj} {cs:List C}:toResC h (.ls cs)=(resDs h cs).map (.lst false):=rfl
@[go_sem] theorem resD_sl {h:List Obj} {o ver off len:Nat}:resD h (.sl o ver off len)=(match getH h o with | .arr _ ver' _ rows=>if ver'=ver then (part off len rows).map .lst else none | _=>none):=rfl
attribute [go_sem] resDs
@[go_sem] theorem known_ls {cs l:List C}:known (.ls cs::l)=known l:=rfl
@[go_sem] theorem known_psl {o off len:Nat} {l:List C}:known (.psl o off len::l)=known l:=rfl
@[go_sem] theorem num_none : num none=1:=rfl
@[go_sem] theorem num_some {n:Nat}:num (some n)=n:=rfl
@[go_sem] theorem ofCells_none {x:C}:V.ofCells none [x]=some (.c x):=rfl
@[go_sem] theorem ofCells_some {n:Nat} {cs:List C}:V.ofCells (some n) cs=if cs.length=n then some (.agg cs) else none:=rfl
@[go_sem] theorem cells_c {x:C}:V.cells (.c x)=[x]:=rfl
@[go_sem] theorem cells_agg {x:List C}:V.cells (.agg x)=x:=rfl
attribute [go_sem] wantedA opEv Opd.ev getS setS putD applyW getH setH loadC storeC lenC_lst lenC_nils lenC_sl lenC_psl lenC_ls elemC_ls elemC_lst elemC_sl elemC_psl part takeN dropN splice Option.getD_none Option.getD_some pureV newV isHole known_nil known_int known_bool known_lst known_nils known_sl known_ptr known_map known_fn known_any V.isAgg V.laid oneCs kindsD scalRow eqCs binV Bin.isShift Bool.or_true Bool.true_or Bool.or_false Bool.false_or binI undefV skipV CallV_fn CallA_some beq_ft beq_tf Bool.false_and Bool.and_false dropK_ret dropK_normal getH_at setH_at isHole_at getH_at0 setH_at0 isHole_at0 List.append_assoc Nat.add_assoc eq_self Nat.beq_eq_true_eq beq_self_eq_true Option.map_some Option.map_none Option.bind_some Option.bind_none if_true if_false Bool.false_eq_true List.length_append List.length_cons List.length_nil List.length_replicate List.replicate_succ List.replicate_zero List.append_nil List.nil_append List.cons_append List.map_cons List.map_nil frameOf C.ofD nth_map List.flatMap_cons List.flatMap_nil nth V.c.injEq C.bool.injEq C.int.injEq decide_eq_true_eq decide_true decide_false decide_eq_false_iff_not and_true true_and List.length_map pairsOk footAt Foot.apart disj memN readsOf obj_int obj_bool obj_lst obj_nils obj_any obj_ept obj_fn obj_ptr obj_aptr obj_sl obj_map obj_yld killS reify resV resOf toRes toRess toResC_int toResC_bool toResC_lst toResC_nils toResC_sl toResCs toArgs toArgC_int toArgC_bool toArgC_lst toArgC_nils toArgC_sl toArgCs Nat.add_zero Nat.zero_add Nat.beq_eq firstV ne_eq not_false_eq_true implies_true Option.some.injEq Prod.mk.injEq exists_eq_left' buildC toDs Bool.and_true Bool.true_and Bool.not_true Bool.not_false Nat.sub_self Nat.sub_zero
attribute [go_sem] resX valX_ret valX_normal headX reifyOk putsS trunc V.underL C.underL underH underE V.under Obj.under C.under V.tup.injEq V.agg.injEq List.cons.injEq
attribute [go_sem] exists_eq_left exists_eq_right and_self Int.toNat_natCast Int.ofNat_lt Int.ofNat_le
end Am
namespace Am
attribute [go_sem] bne_iff_ne bne_eq_false_iff_eq beq_iff_eq beq_eq_false_iff_ne Int.natCast_inj ne_eq not_true_eq_false Int.natCast_nonneg
end Am
namespace Am
attribute [go_sem] allN List.isEmpty_nil List.isEmpty_cons Bool.not_true Bool.not_false Bool.and_self
end Am
namespace Am
attribute [go_sem] exists_eq' exists_eq
end Am
namespace Am
attribute [go_sem] List.take_left List.take_zero List.take_succ_cons
end Am
namespace Am
@[go_sem] theorem beq_dec {a b:Int}:(a==b)=decide (a=b):=by rw [Bool.eq_iff_iff];simp
@[go_sem] theorem bne_dec {a b:Int}:(a != b) = !decide (a=b):=by rw [Bool.eq_iff_iff];simp
attribute [go_sem] Bool.not_eq_true' Bool.not_eq_false' true_implies false_implies forall_const Bool.not_not
end Am
namespace Am
@[go_sem] theorem ite_min {a b:Int}:(if b<a then b else a)=min a b:=by rw [Int.min_def];split<;>split<;>omega
@[go_sem] theorem ite_max {a b:Int}:(if b>a then b else a)=max a b:=by rw [Int.max_def];split<;>split<;>omega
end Am
namespace Am
@[go_sem] theorem blt_dec {a b:Nat}:Nat.blt a b=decide (a<b):=by rw [Bool.eq_iff_iff];simp
end Am
namespace Am
attribute [go_sem] Int.cast_ofNat_Int Int.le_refl
end Am
namespace Am
attribute [go_sem] decide_eq_decide iff_self setRows rowsOf freeze setNth bne_self_eq_false Bool.bne_false Bool.bne_true Bool.not_eq_true Bool.not_eq_false
end Am
namespace Am
@[go_sem] theorem beqn_dec {a b:Nat}:Nat.beq a b=decide (a=b):=by rw [Bool.eq_iff_iff];simp
end Am
namespace Am
@[go_sem] theorem wrapn0 : Go.IntKind.i64.wrap 0=0:=rfl
@[go_sem] theorem wrapn1 : Go.IntKind.i64.wrap 1=1:=rfl
@[go_sem] theorem wrapn2 : Go.IntKind.i64.wrap 2=2:=rfl
@[go_sem] theorem wrapn3 : Go.IntKind.i64.wrap 3=3:=rfl
@[go_sem] theorem wrapn4 : Go.IntKind.i64.wrap 4=4:=rfl
@[go_sem] theorem wrapn5 : Go.IntKind.i64.wrap 5=5:=rfl
@[go_sem] theorem wrapn6 : Go.IntKind.i64.wrap 6=6:=rfl
@[go_sem] theorem wrapn7 : Go.IntKind.i64.wrap 7=7:=rfl
@[go_sem] theorem wrapn8 : Go.IntKind.i64.wrap 8=8:=rfl
@[go_sem] theorem wrapn9 : Go.IntKind.i64.wrap 9=9:=rfl
@[go_sem] theorem wrapn10 : Go.IntKind.i64.wrap 10=10:=rfl
@[go_sem] theorem wrapn11 : Go.IntKind.i64.wrap 11=11:=rfl
@[go_sem] theorem wrapn12 : Go.IntKind.i64.wrap 12=12:=rfl
@[go_sem] theorem wrapneg1 : Go.IntKind.i64.wrap (-1) = -1:=rfl
end Am
namespace Am
@[go_sem] theorem sliceRows_sl {h:List Obj} {o ver off len:Nat}:sliceRows h (.sl o ver off len)=(match getH h o with | .arr _ ver' _ rows=>if ver'=ver then part off len rows else none | _=>none):=rfl
@[go_sem] theorem takeN_map {α:Type} [Row α] {l:List α} {n:Nat} (hn:l.length=n):takeN n (l.map (Row.row (α:=α)))=some (l.map Row.row):=by
  have:=part_map (l:=l) (n:=n) hn
  simpa [part,dropN] using this
attribute [go_sem] List.length_range
end Am
namespace Am
@[go_sem] theorem headLen_nil {sz:Nat}:headLen sz []=true:=rfl
@[go_sem] theorem headLen_cons {sz:Nat} {r:List D} {l:List (List D)}:headLen sz (r::l)=(r.length==sz):=rfl
@[go_sem] theorem scalRows_nil : scalRows []=true:=rfl
@[go_sem] theorem scalRows_cons {r:List D} {l:List (List D)}:scalRows (r::l)=(scalRow r&&scalRows l):=rfl
theorem take_getD {α:Type} {l:List α} {k:Nat} (h:k<l.length) (d:α):l.take (k+1)=l.take k++[l.getD k d]:=by
  rw [List.take_add_one,List.getElem?_eq_getElem h,List.getD_eq_getElem?_getD,List.getElem?_eq_getElem h];rfl
end Am
namespace Am
@[go_sem] theorem toD_int {h:List Obj} {k:Go.IntKind} {n:Int}:toD h (.int k n)=some (.int k n,[]):=rfl
@[go_sem] theorem toD_bool {h:List Obj} {b:Bool}:toD h (.bool b)=some (.bool b,[]):=rfl
@[go_sem] theorem toD_lst {h:List Obj} {rows:List (List D)}:toD h (.lst false rows)=some (.lst rows,[]):=rfl
@[go_sem] theorem toD_nils {h:List Obj}:toD h .nils=some (.lst [],[]):=rfl
@[go_sem] theorem toD_sl {h:List Obj} {o ver off len:Nat}:toD h (.sl o ver off len)=(match getH h o with | .arr _ ver' _ rows=>if ver'=ver then (part off len rows).map fun r=>(.lst r,[o]) else none | _=>none):=rfl
end Am
namespace Am
@[go_sem] theorem sliceRows_psl {h:List Obj} {o off len:Nat}:sliceRows h (.psl o off len)=(match getH h o with | .cells cs=>(part off len cs).bind scalCells | _=>none):=rfl
@[go_sem] theorem sliceRows_nils {h:List Obj}:sliceRows h .nils=some []:=rfl
end Am
namespace Am
attribute [go_sem] Nat.zero_le
@[go_sem] theorem lit40_8 : (8≤2^40)=True:=by simp
@[go_sem] theorem lit40_16 : (16≤2^40)=True:=by simp
@[go_sem] theorem lit40_24 : (24≤2^40)=True:=by simp
@[go_sem] theorem lit40_32 : (32≤2^40)=True:=by simp
@[go_sem] theorem lit40_40 : (40≤2^40)=True:=by simp
@[go_sem] theorem lit40_48 : (48≤2^40)=True:=by simp
@[go_sem] theorem lit40_56 : (56≤2^40)=True:=by simp
@[go_sem] theorem lit40_64 : (64≤2^40)=True:=by simp
@[go_sem] theorem lit40_72 : (72≤2^40)=True:=by simp
@[go_sem] theorem lit40_80 : (80≤2^40)=True:=by simp
@[go_sem] theorem lit40_88 : (88≤2^40)=True:=by simp
@[go_sem] theorem lit40_96 : (96≤2^40)=True:=by simp
@[go_sem] theorem lit40_104 : (104≤2^40)=True:=by simp
@[go_sem] theorem lit40_112 : (112≤2^40)=True:=by simp
@[go_sem] theorem lit40_120 : (120≤2^40)=True:=by simp
@[go_sem] theorem lit40_128 : (128≤2^40)=True:=by simp
end Am
namespace Am
@[go_sem] theorem toArg_c {h:List Obj} {x:C}:toArg h (.c x)=(toArgC h x).map .c:=rfl
@[go_sem] theorem toArg_agg {h:List Obj} {cs:List C}:toArg h (.agg cs)=(toArgCs h cs).map .agg:=rfl
@[go_sem] theorem objsV_c {x:C}:objsV (.c x)=x.obj:=rfl
@[go_sem] theorem objsV_agg {cs:List C}:objsV (.agg cs)=cs.flatMap C.obj:=rfl
@[go_sem] theorem objsV_tup {vs:List V}:objsV (.tup vs)=[]:=rfl
end Am
namespace Am
@[go_sem] theorem sameO_dec {h h':List Obj} {o:Nat}:(sameO h h' o=true)=(getH h' o=getH h o):=by simp [sameO]
@[go_sem] theorem toArgC_ptr {h:List Obj} {o f:Nat}:toArgC h (.ptr o f)=some .any:=rfl
@[go_sem] theorem toArgC_any {h:List Obj}:toArgC h .any=some .any:=rfl
@[go_sem] theorem toResC_ptr {h:List Obj} {o f:Nat}:toResC h (.ptr o f)=some .any:=rfl
attribute [go_sem] Bool.and_eq_true
end Am
namespace Am
open Go
set_option linter.unusedVariables false
set_option linter.unusedSimpArgs false
set_option maxRecDepth 100000
set_option maxHeartbeats 1000000
variable {G:Nat→Option AFunc}
def optQ (x:Option (V × List Obj)) (Q:V→List Obj→Prop):Prop:=match x with
  | some (v,h)=>Q v h
  | none=>False
@[go_sem] theorem optQ_some {v:V} {h:List Obj} {Q:V→List Obj→Prop}:optQ (some (v,h)) Q↔Q v h:=Iff.rfl
def fnX (res:List RVar) (Q:V→List Obj→Prop):QT:=fun x s h=>match x with
  | .exit _=>False
  | _=>optQ ((resV ⟨s,h⟩ res).map fun vs=>(resOf vs,h)) Q
@[go_sem ↓] theorem fnX_ret {res:List RVar} {Q:V→List Obj→Prop} {s h}:fnX res Q .ret s h↔optQ ((resV ⟨s,h⟩ res).map fun vs=>(resOf vs,h)) Q:=Iff.rfl
@[go_sem ↓] theorem fnX_normal {res:List RVar} {Q:V→List Obj→Prop} {s h}:fnX res Q .normal s h↔optQ ((resV ⟨s,h⟩ res).map fun vs=>(resOf vs,h)) Q:=Iff.rfl
theorem optQ_res {s:List V} {h:List Obj} {res:List RVar} {Q:V→List Obj→Prop} (q:optQ ((resV ⟨s,h⟩ res).map fun vs=>(resOf vs,h)) Q):∃vs,resV ⟨s,h⟩ res=some vs∧Q (resOf vs) h:=by
  cases hr:resV ⟨s,h⟩ res with
  | none=>rw [hr] at q;exact q.elim
  | some vs=>rw [hr] at q;exact ⟨vs,rfl,q⟩
theorem Fn_X {k:Nat} {fn:AFunc} {args:List V} {h:List Obj} {Q:V→List Obj→Prop} (hg:G k=some fn) (hd:fn.drop=false)
    (hc:RX G fn.code (frameOf fn args) h (fnX fn.res Q)):Fn G (.f k args h) Q:=by
  refine Fn_f hg hd (RC.mono hc ?_)
  intro x s hq
  cases x with
  | exit i=>exact hq.elim
  | normal=>exact optQ_res hq
  | ret=>exact optQ_res hq
def dropX (n:Nat) (res:List RVar) (Q:V→List Obj→Prop):QT:=fun x s h=>match x with
  | .exit _=>False
  | _=>optQ ((resV ⟨s,h⟩ res).bind fun vs=>(trunc n vs h).map fun h'=>(resOf vs,h')) Q
@[go_sem ↓] theorem dropX_ret {n:Nat} {res:List RVar} {Q:V→List Obj→Prop} {s h}:dropX n res Q .ret s h↔optQ ((resV ⟨s,h⟩ res).bind fun vs=>(trunc n vs h).map fun h'=>(resOf vs,h')) Q:=Iff.rfl
@[go_sem ↓] theorem dropX_normal {n:Nat} {res:List RVar} {Q:V→List Obj→Prop} {s h}:dropX n res Q .normal s h↔optQ ((resV ⟨s,h⟩ res).bind fun vs=>(trunc n vs h).map fun h'=>(resOf vs,h')) Q:=Iff.rfl
theorem optQ_drop {n:Nat} {s:List V} {h:List Obj} {res:List RVar} {Q:V→List Obj→Prop} (q:optQ ((resV ⟨s,h⟩ res).bind fun vs=>(trunc n vs h).map fun h'=>(resOf vs,h')) Q):∃vs h',resV ⟨s,h⟩ res=some vs∧trunc n vs h=some h'∧Q (resOf vs) h':=by
  cases hr:resV ⟨s,h⟩ res with
  | none=>rw [hr] at q;exact q.elim
  | some vs=>
    rw [hr] at q
    simp only [Option.bind_some] at q
    cases ht:trunc n vs h with
    | none=>rw [ht] at q;exact q.elim
    | some h'=>rw [ht] at q;exact ⟨vs,h',rfl,ht,q⟩
theorem Fn_XD {k:Nat} {fn:AFunc} {args:List V} {h:List Obj} {Q:V→List Obj→Prop} (hg:G k=some fn) (hd:fn.drop=true)
    (hc:RX G fn.code (frameOf fn args) h (dropX h.length fn.res Q)):Fn G (.f k args h) Q:=by
  refine Fn_drop hg hd (RC.mono hc ?_)
  intro x s hq
  cases x with
  | exit i=>exact hq.elim
  | normal=>exact optQ_drop hq
  | ret=>exact optQ_drop hq
theorem CallV_iff {f:V} {args:List V} {h:List Obj} {v:V} {h':List Obj} (hh:CallV G f args h fun v' h1=>v'=v∧h1=h') {Q:V→List Obj→Prop}:CallV G f args h Q↔Q v h':=by
  obtain ⟨n,v1,h1,e,rfl,rfl⟩:=hh
  constructor
  · rintro ⟨m,v2,h2,e2,q⟩
    have a1:=callV_mono (ev_mono G (Nat.le_max_left n m)) e
    have a2:=callV_mono (ev_mono G (Nat.le_max_right n m)) e2
    rw [a1] at a2;cases a2;exact q
  · intro q;exact ⟨n,_,_,e,q⟩
def tIndex : AFunc:=⟨19,[.tmp 4],false,
  (.seq (.region 0 [] [
    ⟨(some 4),.mov (.cst (.c (.int .i64 0))),none,0⟩])
  (.seq (.seq (.region 0 [] [
    ⟨(some 6),.mov (.tmp 0),none,0⟩,
    ⟨(some 7),.len (.tmp 6),none,0⟩,
    ⟨(some 8),.mov (.cst (.c (.int .i64 0))),none,0⟩])
  (.block 0 (.loop ⟨[4,5,9,10,11,12,13,14,15,16,17,18],false,[]⟩
      (.seq (.region 0 [] [
        ⟨(some 9),.bin .lss (.tmp 8) (.tmp 7),none,0⟩])
      (.seq (.cond (.tmp 9)
        .skip
        (.exit 0))
      (.seq (.block 1 (.seq (.region 0 [] [
          ⟨(some 10),.mov (.tmp 8),none,0⟩,
          ⟨(some 5),.mov (.tmp 10),none,0⟩])
        (.seq (.region 0 [] [
          ⟨(some 11),.mov (.tmp 1),none,0⟩,
          ⟨(some 12),.mov (.tmp 0),none,0⟩,
          ⟨(some 13),.mov (.tmp 5),none,0⟩,
          ⟨(some 14),.iaddr 1 (.tmp 12) (.tmp 13),none,0⟩,
          ⟨(some 15),.load none (.tmp 14),none,0⟩,
          ⟨(some 16),.bin .eql (.tmp 11) (.tmp 15),none,0⟩])
        (.cond (.tmp 16)
          (.seq (.region 0 [] [
            ⟨(some 17),.mov (.tmp 5),none,0⟩,
            ⟨(some 4),.mov (.tmp 17),none,0⟩])
          .ret)
          .skip))))
      (.region 0 [] [
        ⟨(some 18),.bin .add (.tmp 8) (.cst (.c (.int .i64 1))),none,0⟩,
        ⟨(some 8),.mov (.tmp 18),none,0⟩])))))))
  (.seq (.region 0 [] [
    ⟨(some 4),.mov (.cst (.c (.int .i64 (-1)))),none,0⟩])
  .ret)))⟩
def indexI (l:List Int) (v:Int):Int:=if v∈l then (l.idxOf v:Int) else -1
abbrev Big : Nat:=4611686018427387904
theorem wrap_succ {k n:Nat} (h:k<n) (hn:n<Big):IntKind.i64.wrap ((k:Int)+1)=((k+1:Nat):Int):=by
  have hn':n<4611686018427387904:=hn
  exact wrap_id _ (by omega) (by omega)
theorem getD_lt {α:Type} (l:List α) (k:Nat) (d:α) (h:k<l.length):l.getD k d=l[k]:=by simp [h]
theorem Index_ok {k:Nat} (hG:G k=some tIndex) {g:Bool × Bool} {l:List Int} {v:Int} (hl:l.length<Big):Val G k [.c (L g l),.c (.int .i64 v)] (.c (.int .i64 (indexI l v))):=by
  refine Val_X (fn:=tIndex) hG ?_
  simp only [go_sem,tIndex,reduceCtorEq,Nat.reduceAdd,Nat.reduceSub,Nat.reduceBEq,Nat.reduceEqDiff]
  refine RX_for l.length (fun k=>[(8,.c (.int .i64 k))]) (fun _=>[]) (fun k=>∀i,i<k→l.getD i 0≠v) (fun i h=>by omega) (by simp only [go_sem]<;>rfl) ?_
  intro k hk hP
  by_cases h1:k<l.length
  · simp only [go_sem,h1,wrap_succ h1 hl,reduceCtorEq,Nat.reduceAdd,Nat.reduceSub,Nat.reduceBEq,Nat.reduceEqDiff,↓reduceIte,atI_nat]
    refine ⟨fun e=>?_,fun e=>?_⟩
    · have hm:v∈l:=by rw [e,getD_lt _ _ _ h1];exact List.getElem_mem h1
      rw [indexI,if_pos hm]
      congr 1
      have hi:l.idxOf v<l.length:=List.idxOf_lt_length_iff.2 hm
      have he:l[l.idxOf v]=v:=List.getElem_idxOf hi
      have a1:¬l.idxOf v<k:=fun h=>hP _ h (by rw [getD_lt _ _ _ hi];exact he)
      have a2:¬k<l.idxOf v:=fun h=>by
        have:=List.not_of_lt_findIdx (p:=(·==v)) (xs:=l) (i:=k) h
        rw [getD_lt _ _ _ h1] at e
        exact absurd e.symm (by simpa using this)
      omega
    · intro i hi
      by_cases hik:i=k
      · subst hik;exact fun h=>e h.symm
      · exact hP i (by omega)
  · simp only [go_sem,h1,reduceCtorEq,Nat.reduceAdd,Nat.reduceSub,Nat.reduceBEq,Nat.reduceEqDiff,↓reduceIte]
    rw [indexI,if_neg]
    intro hm
    obtain ⟨i,hi,e⟩:=List.getElem_of_mem hm
    exact hP i (by omega) (by rw [getD_lt _ _ _ hi];exact e)
theorem indexI_nonneg {l:List Int} {v:Int}:(0≤indexI l v)=(v∈l):=by
  unfold indexI
  split<;>rename_i h<;>simp [h]
def tContains (kI:Nat):AFunc:=⟨9,[.tmp 4],false,
  (.seq (.region 0 [] [
    ⟨(some 4),.mov (.cst (.c (.bool false))),none,0⟩])
  (.seq (.region 0 [] [
    ⟨(some 5),.mov (.tmp 0),none,0⟩,
    ⟨(some 6),.mov (.tmp 1),none,0⟩,
    ⟨(some 7),.call kI true [(.tmp 5),(.tmp 6)],none,0⟩,
    ⟨(some 8),.bin .geq (.tmp 7) (.cst (.c (.int .i64 0))),none,0⟩,
    ⟨(some 4),.mov (.tmp 8),none,0⟩])
  .ret))⟩
theorem Contains_ok {k kI:Nat} (hG:G k=some (tContains kI)) (hI:G kI=some tIndex) {g:Bool × Bool} {l:List Int} {v:Int} (hl:l.length<Big):Val G k [.c (L g l),.c (.int .i64 v)] (.c (.bool (decide (v∈l)))):=by
  refine Val_X (fn:=tContains kI) hG ?_
  simp only [go_sem,tContains,reduceCtorEq,Nat.reduceAdd,Nat.reduceSub,Nat.reduceBEq,Nat.reduceEqDiff,CallP_of (Index_ok hI (g:=g) (l:=l) (v:=v) hl),ge_iff_le,indexI_nonneg]
def tMin : AFunc:=⟨25,[.tmp 2],false,
  (.seq (.region 0 [] [
    ⟨(some 2),.mov (.cst (.c (.int .i64 0))),none,0⟩])
  (.seq (.seq (.region 0 [] [
    ⟨(some 5),.mov (.tmp 0),none,0⟩,
    ⟨(some 6),.len (.tmp 5),none,0⟩,
    ⟨(some 7),.bin .lss (.tmp 6) (.cst (.c (.int .i64 1))),none,0⟩])
  (.cond (.tmp 7)
    (.region 0 [] [
      ⟨(some 8),.pick (.cst (.c .any)) (.cst (.c .any)) (.cst (.c .any)),none,0⟩,
      ⟨none,.pick (.cst (.c .any)) (.cst (.c .any)) (.cst (.c .any)),none,0⟩])
    .skip))
  (.seq (.region 0 [] [
    ⟨(some 9),.mov (.tmp 0),none,0⟩,
    ⟨(some 10),.iaddr 1 (.tmp 9) (.cst (.c (.int .i64 0))),none,0⟩,
    ⟨(some 11),.load none (.tmp 10),none,0⟩,
    ⟨(some 3),.mov (.tmp 11),none,0⟩])
  (.seq (.seq (.region 0 [] [
    ⟨(some 4),.mov (.cst (.c (.int .i64 1))),none,0⟩])
  (.block 0 (.loop ⟨[12,13,14,15,16,17,18,19,20,21,22,23],false,[]⟩
      (.seq (.seq (.region 0 [] [
        ⟨(some 12),.mov (.tmp 4),none,0⟩,
        ⟨(some 13),.mov (.tmp 0),none,0⟩,
        ⟨(some 14),.len (.tmp 13),none,0⟩,
        ⟨(some 15),.bin .lss (.tmp 12) (.tmp 14),none,0⟩])
      (.cond (.tmp 15)
        .skip
        (.exit 0)))
      (.seq (.block 1 (.region 0 [] [
          ⟨(some 18),.mov (.tmp 3),none,0⟩,
          ⟨(some 19),.mov (.tmp 0),none,0⟩,
          ⟨(some 20),.mov (.tmp 4),none,0⟩,
          ⟨(some 21),.iaddr 1 (.tmp 19) (.tmp 20),none,0⟩,
          ⟨(some 22),.load none (.tmp 21),none,0⟩,
          ⟨(some 23),.mm false (.tmp 18) (.tmp 22),none,0⟩,
          ⟨(some 3),.mov (.tmp 23),none,0⟩]))
      (.region 0 [] [
        ⟨(some 16),.mov (.tmp 4),none,0⟩,
        ⟨(some 17),.bin .add (.tmp 16) (.cst (.c (.int .i64 1))),none,0⟩,
        ⟨(some 4),.mov (.tmp 17),none,0⟩]))))))
  (.seq (.region 0 [] [
    ⟨(some 24),.mov (.tmp 3),none,0⟩,
    ⟨(some 2),.mov (.tmp 24),none,0⟩])
  .ret)))))⟩
def minL (l:List Int):Int:=l.tail.foldl min (l.getD 0 0)
theorem Min_ok {k:Nat} (hG:G k=some tMin) {g:Bool × Bool} {l:List Int} (h0:0<l.length) (hl:l.length<Big):Val G k [.c (L g l)] (.c (.int .i64 (minL l))):=by
  refine Val_X (fn:=tMin) hG ?_
  have h1:¬(l.length:Int)<1:=by omega
  have h2:(0:Int)<l.length:=by omega
  simp only [go_sem,tMin,h1,h2,Int.le_refl,reduceCtorEq,Nat.reduceAdd,Nat.reduceSub,Nat.reduceBEq,Nat.reduceEqDiff]
  refine RX_for (l.length-1) (fun k=>[(3,.c (.int .i64 ((l.tail.take k).foldl min (l.getD 0 0)))),(4,.c (.int .i64 ((k+1:Nat):Int)))]) (fun _=>[]) (fun _=>True) trivial (by simp only [go_sem]<;>first | rfl | exact ⟨rfl,rfl⟩) ?_
  intro k hk _
  have hl':l.length<4611686018427387904:=hl
  by_cases h3:k+1<l.length
  · have hw:IntKind.i64.wrap (((k+1:Nat):Int)+1)=((k+1+1:Nat):Int):=wrap_id _ (by omega) (by omega)
    simp only [go_sem,h3,hw,reduceCtorEq,Nat.reduceAdd,Nat.reduceSub,Nat.reduceBEq,Nat.reduceEqDiff,↓reduceIte,atI_nat]
    have hk1:k<l.length-1:=by omega
    simp only [hk1,true_and]
    have e:l.tail.take (k+1)=l.tail.take k++[l.getD (k+1) 0]:=by
      rw [List.take_add_one];congr 1
      rw [List.getElem?_tail,List.getD_eq_getElem?_getD,List.getElem?_eq_getElem h3];rfl
    rw [e,List.foldl_append]
    simp
  · simp only [go_sem,h3,reduceCtorEq,Nat.reduceAdd,Nat.reduceSub,Nat.reduceBEq,Nat.reduceEqDiff,↓reduceIte]
    rw [minL,List.take_of_length_le (by simp;omega)]
def tIndexFunc (sz:Nat) (sh:Option Nat):AFunc:=⟨19,[.tmp 4],false,
  (.seq (.region 0 [] [
    ⟨(some 4),.mov (.cst (.c (.int .i64 0))),none,0⟩])
  (.seq (.seq (.region 0 [] [
    ⟨(some 6),.mov (.tmp 0),none,0⟩,
    ⟨(some 7),.len (.tmp 6),none,0⟩,
    ⟨(some 8),.mov (.cst (.c (.int .i64 0))),none,0⟩])
  (.block 0 (.loop ⟨[4,5,9,10,11,12,13,14,15,16,17,18],false,[]⟩
      (.seq (.region 0 [] [
        ⟨(some 9),.bin .lss (.tmp 8) (.tmp 7),none,0⟩])
      (.seq (.cond (.tmp 9)
        .skip
        (.exit 0))
      (.seq (.block 1 (.seq (.region 0 [] [
          ⟨(some 10),.mov (.tmp 8),none,0⟩,
          ⟨(some 5),.mov (.tmp 10),none,0⟩])
        (.seq (.region 0 [] [
          ⟨(some 11),.mov (.tmp 1),none,0⟩,
          ⟨(some 12),.mov (.tmp 0),none,0⟩,
          ⟨(some 13),.mov (.tmp 5),none,0⟩,
          ⟨(some 14),.iaddr sz (.tmp 12) (.tmp 13),none,0⟩,
          ⟨(some 15),.load sh (.tmp 14),none,0⟩,
          ⟨(some 16),.callv (.tmp 11) [(.tmp 15)],none,0⟩])
        (.cond (.tmp 16)
          (.seq (.region 0 [] [
            ⟨(some 17),.mov (.tmp 5),none,0⟩,
            ⟨(some 4),.mov (.tmp 17),none,0⟩])
          .ret)
          .skip))))
      (.region 0 [] [
        ⟨(some 18),.bin .add (.tmp 8) (.cst (.c (.int .i64 1))),none,0⟩,
        ⟨(some 8),.mov (.tmp 18),none,0⟩])))))))
  (.seq (.region 0 [] [
    ⟨(some 4),.mov (.cst (.c (.int .i64 (-1)))),none,0⟩])
  .ret)))⟩
structure Elem (α:Type) [Row α] (sz:Nat) (sh:Option Nat) where
  val:Bool→α→V
  hs:Row.sz α=sz
  load:∀h x t,loadC h (num sh) (.ept t (Row.row x) 0)=some (val t x).cells
  shape:∀x t,V.ofCells sh (val t x).cells=some (val t x)
def elemInt : Elem Int 1 none:=⟨fun _ x=>.c (.int .i64 x),rfl,fun _ _ _=>rfl,fun _ _=>rfl⟩
theorem IndexFunc_ok {α:Type} [Row α] [Inhabited α] {sz:Nat} {sh:Option Nat} (E:Elem α sz sh) {k:Nat} (hG:G k=some (tIndexFunc sz sh)) {g:Bool × Bool} {l:List α} (hl:l.length<Big) {F:V} (H:Nat→List Obj) (p:Nat→Bool)
    (hF:∀i,i<l.length→(∀j,j<i→p j=false)→CallV G F [E.val g.2 (l.getD i default)] (H i) fun v h'=>v = .c (.bool (p i))∧h'=H (i+1)) :
    Fn G (.f k [.c (L g l),F] (H 0)) fun v h'=>(∃i,i<l.length∧p i=true∧(∀j,j<i→p j=false)∧v = .c (.int .i64 (i:Nat))∧h'=H (i+1))∨((∀j,j<l.length→p j=false)∧v = .c (.int .i64 (-1))∧h'=H l.length):=by
  refine Fn_X (fn:=tIndexFunc sz sh) hG rfl ?_
  simp only [go_sem,tIndexFunc,reduceCtorEq,Nat.reduceAdd,Nat.reduceSub,Nat.reduceBEq,Nat.reduceEqDiff]
  refine RX_for l.length (fun k=>[(8,.c (.int .i64 k))]) H (fun k=>∀i,i<k→p i=false) (fun i h=>by omega) (by simp only [go_sem]<;>rfl) ?_
  intro k hk hP
  by_cases h1:k<l.length
  · simp only [go_sem,h1,E.hs,wrap_succ h1 hl,reduceCtorEq,Nat.reduceAdd,Nat.reduceSub,Nat.reduceBEq,Nat.reduceEqDiff,↓reduceIte,atI_nat]
    have hld:=E.load (H k) (l.getD k default) g.2
    simp only [loadC] at hld
    simp only [go_sem] at hld
    simp only [go_sem,hld,E.shape,CallV_iff (hF k h1 hP),wrap_succ h1 hl,reduceCtorEq,Nat.reduceAdd,Nat.reduceSub,Nat.reduceBEq,Nat.reduceEqDiff,↓reduceIte]
    refine ⟨fun e=>.inl ⟨k,h1,e,hP,rfl,rfl⟩,fun e=>?_⟩
    intro i hi
    by_cases hik:i=k
    · subst hik;exact e
    · exact hP i (by omega)
  · have:k=l.length:=by omega
    subst this
    simp only [go_sem,h1,reduceCtorEq,Nat.reduceAdd,Nat.reduceSub,Nat.reduceBEq,Nat.reduceEqDiff,↓reduceIte]
    exact .inr hP
def tContainsFunc (kI:Nat):AFunc:=⟨9,[.tmp 4],false,
  (.seq (.region 0 [] [
    ⟨(some 4),.mov (.cst (.c (.bool false))),none,0⟩])
  (.seq (.region 0 [] [
    ⟨(some 5),.mov (.tmp 0),none,0⟩,
    ⟨(some 6),.mov (.tmp 1),none,0⟩,
    ⟨(some 7),.call kI false [(.tmp 5),(.tmp 6)],none,0⟩,
    ⟨(some 8),.bin .geq (.tmp 7) (.cst (.c (.int .i64 0))),none,0⟩,
    ⟨(some 4),.mov (.tmp 8),none,0⟩])
  .ret))⟩
theorem ContainsFunc_ok {α:Type} [Row α] [Inhabited α] {sz:Nat} {sh:Option Nat} (E:Elem α sz sh) {k kI:Nat} (hG:G k=some (tContainsFunc kI)) (hI:G kI=some (tIndexFunc sz sh)) {g:Bool × Bool} {l:List α} (hl:l.length<Big) {F:V} (H:Nat→List Obj) (p:Nat→Bool)
    (hF:∀i,i<l.length→(∀j,j<i→p j=false)→CallV G F [E.val g.2 (l.getD i default)] (H i) fun v h'=>v = .c (.bool (p i))∧h'=H (i+1)) :
    Fn G (.f k [.c (L g l),F] (H 0)) fun v h'=>(∃i,i<l.length∧p i=true∧(∀j,j<i→p j=false)∧v = .c (.bool true)∧h'=H (i+1))∨((∀j,j<l.length→p j=false)∧v = .c (.bool false)∧h'=H l.length):=by
  refine Fn_X (fn:=tContainsFunc kI) hG rfl ?_
  simp only [go_sem,tContainsFunc,reduceCtorEq,Nat.reduceAdd,Nat.reduceSub,Nat.reduceBEq,Nat.reduceEqDiff]
  refine (IndexFunc_ok E hI hl H p hF).mono ?_
  rintro v h' (⟨i,hi,hp,hb,rfl,rfl⟩ | ⟨hb,rfl,rfl⟩)
  · simp only [go_sem,ge_iff_le,reduceCtorEq,Nat.reduceAdd,Nat.reduceSub,Nat.reduceBEq,Nat.reduceEqDiff]
    exact .inl ⟨i,hi,hp,hb,rfl⟩
  · simp only [go_sem,ge_iff_le,reduceCtorEq,Nat.reduceAdd,Nat.reduceSub,Nat.reduceBEq,Nat.reduceEqDiff]
    exact .inr ⟨hb,by decide⟩
def tNot : AFunc:=⟨8,[.tmp 3],false,
  (.seq (.region 0 [] [
    ⟨(some 3),.mov (.cst (.c (.bool false))),none,0⟩])
  (.seq (.region 0 [] [
    ⟨(some 4),.load none (.tmp 1),none,0⟩,
    ⟨(some 5),.mov (.tmp 0),none,0⟩,
    ⟨(some 6),.callv (.tmp 4) [(.tmp 5)],none,0⟩,
    ⟨(some 7),.not (.tmp 6),none,0⟩,
    ⟨(some 3),.mov (.tmp 7),none,0⟩])
  .ret))⟩
def tAll (kN kC:Nat):AFunc:=⟨9,[.tmp 4],false,
  (.seq (.region 1 [] [
    ⟨(some 3),.box (.tmp 1),none,0⟩,
    ⟨(some 4),.mov (.cst (.c (.bool false))),none,1⟩])
  (.seq (.region 0 [] [
    ⟨(some 5),.mov (.tmp 0),none,0⟩,
    ⟨(some 6),.mkfn kN none [(.tmp 3)],none,0⟩,
    ⟨(some 7),.call kC false [(.tmp 5),(.tmp 6)],none,0⟩,
    ⟨(some 8),.not (.tmp 7),none,0⟩,
    ⟨(some 4),.mov (.tmp 8),none,0⟩])
  .ret))⟩
theorem All_ok {α:Type} [Row α] [Inhabited α] {sz:Nat} {sh:Option Nat} (E:Elem α sz sh) {k kN kC kI:Nat} (hG:G k=some (tAll kN kC)) (hN:G kN=some tNot) (hC:G kC=some (tContainsFunc kI)) (hI:G kI=some (tIndexFunc sz sh))
    {g:Bool × Bool} {l:List α} (hl:l.length<Big) {f:Nat} {a:Bool} {x y:List C} (H:Nat→List Obj) (n:Nat) (hn:∀i,(H i).length=n) (p:Nat→Bool)
    (hF:∀i,i<l.length→(∀j,j<i→p j=true)→CallV G (.c (.fn f a x y)) [E.val g.2 (l.getD i default)] (H i++[.cells [.fn f a x y]]) fun v h'=>v = .c (.bool (p i))∧h'=H (i+1)++[.cells [.fn f a x y]]) :
    Fn G (.f k [.c (L g l),.c (.fn f a x y)] (H 0)) fun v h'=>((∀j,j<l.length→p j=true)∧v = .c (.bool true)∧h'=H l.length++[.cells [.fn f a x y]])∨(∃i,i<l.length∧p i=false∧(∀j,j<i→p j=true)∧v = .c (.bool false)∧h'=H (i+1)++[.cells [.fn f a x y]]):=by
  refine Fn_X (fn:=tAll kN kC) hG rfl ?_
  simp only [go_sem,tAll,reduceCtorEq,Nat.reduceAdd,Nat.reduceSub,Nat.reduceBEq,Nat.reduceEqDiff]
  refine (ContainsFunc_ok E hC hI hl (fun i=>H i++[.cells [.fn f a x y]]) (fun i=>!p i) (F:=.c (.fn kN false [] [.ptr (H 0).length 0])) ?_).mono ?_
  · intro i hi hb
    rw [CallV_fn]
    refine Fn_X (fn:=tNot) hN rfl ?_
    have e:(H 0).length=(H i).length:=by rw [hn,hn]
    have:=hF i hi (fun j hj=>by simpa using hb j hj)
    simp only [go_sem,tNot,e,CallV_iff this,reduceCtorEq,Nat.reduceAdd,Nat.reduceSub,Nat.reduceBEq,Nat.reduceEqDiff,List.cons_append,List.nil_append]
  · rintro v h' (⟨i,hi,hp,hb,rfl,rfl⟩ | ⟨hb,rfl,rfl⟩)
    · simp only [go_sem,reduceCtorEq,Nat.reduceAdd,Nat.reduceSub,Nat.reduceBEq,Nat.reduceEqDiff]
      exact .inr ⟨i,hi,by simpa using hp,fun j hj=>by simpa using hb j hj,rfl⟩
    · simp only [go_sem,reduceCtorEq,Nat.reduceAdd,Nat.reduceSub,Nat.reduceBEq,Nat.reduceEqDiff]
      exact .inl fun j hj=>by simpa using hb j hj
mutual
theorem under_mono {b b':Nat} (hb:b≤b'):∀{c:C},C.under b c=true→C.under b' c=true
  | .fn _ _ x y,h=>by
    simp only [C.under,Bool.and_eq_true] at h ⊢
    exact ⟨underL_mono hb h.1,underL_mono hb h.2⟩
  | .any,_=>rfl
  | .int _ _,_=>rfl
  | .bool _,_=>rfl
  | .lst _ _,_=>rfl
  | .nils,_=>rfl
  | .nilfn,_=>rfl
  | .nilp,_=>rfl
  | .ept _ _ _,_=>rfl
  | .ptr _ _,h=>by simp only [C.under,Nat.blt_eq] at h ⊢;omega
  | .aptr _ _ _ _,h=>by simp only [C.under,Nat.blt_eq] at h ⊢;omega
  | .sl _ _ _ _,h=>by simp only [C.under,Nat.blt_eq] at h ⊢;omega
  | .map _,h=>by simp only [C.under,Nat.blt_eq] at h ⊢;omega
  | .yld _,h=>by simp only [C.under,Nat.blt_eq] at h ⊢;omega
  | .psl _ _ _,h=>by simp only [C.under,Nat.blt_eq] at h ⊢;omega
  | .ls x,h=>by
    simp only [C.under] at h ⊢
    exact underL_mono hb (l:=x) h
  | .lpt c,h=>by
    simp only [C.under] at h ⊢
    exact under_mono hb (c:=c) h
theorem underL_mono {b b':Nat} (hb:b≤b'):∀{l:List C},C.underL b l=true→C.underL b' l=true
  | [],_=>rfl
  | c::l,h=>by
    simp only [C.underL,Bool.and_eq_true] at h ⊢
    exact ⟨under_mono hb h.1,underL_mono hb h.2⟩
end
mutual
theorem underV_mono {b b':Nat} (hb:b≤b'):∀{v:V},V.under b v=true→V.under b' v=true
  | .c x,h=>under_mono hb h
  | .agg cs,h=>underL_mono hb h
  | .tup vs,h=>underVL_mono hb h
theorem underVL_mono {b b':Nat} (hb:b≤b'):∀{l:List V},V.underL b l=true→V.underL b' l=true
  | [],_=>rfl
  | c::l,h=>by
    simp only [V.underL,Bool.and_eq_true] at h ⊢
    exact ⟨underV_mono hb h.1,underVL_mono hb h.2⟩
end
theorem underE_mono {b b':Nat} (hb:b≤b'):∀{l:List (List D × List C)},underE b l=true→underE b' l=true
  | [],_=>rfl
  | e::l,h=>by
    simp only [underE,Bool.and_eq_true] at h ⊢
    exact ⟨underL_mono hb h.1,underE_mono hb h.2⟩
theorem underO_mono {b b':Nat} (hb:b≤b') {o:Obj} (h:o.under b=true):o.under b'=true:=by
  cases o with
  | cells cs=>exact underL_mono hb h
  | map a c k es=>exact underE_mono hb h
  | loop l=>exact underVL_mono hb h
  | none=>rfl
  | arr _ _ _ _=>rfl
theorem underH_mono {b b':Nat} (hb:b≤b'):∀{l:List Obj},underH b l=true→underH b' l=true
  | [],_=>rfl
  | o::l,h=>by
    simp only [underH,Bool.and_eq_true] at h ⊢
    exact ⟨underO_mono hb h.1,underH_mono hb h.2⟩
theorem underH_append {b:Nat} {l m:List Obj}:underH b (l++m)=(underH b l&&underH b m):=by
  induction l with
  | nil=>simp [underH]
  | cons o l ih=>simp [underH,ih,Bool.and_assoc]
abbrev closedH (h:List Obj):Prop:=underH h.length h=true
theorem closedH_snoc {h:List Obj} (hu:closedH h) {o:Obj} (ho:o.under (h.length+1)=true):closedH (h++[o]):=by
  unfold closedH
  rw [underH_append,List.length_append]
  simp only [List.length_cons,List.length_nil,Nat.zero_add,underH,ho,Bool.and_true]
  exact underH_mono (by omega) hu
def tNotS (n:Nat):AFunc:=⟨8,[.tmp 3],true,
  (.seq (.region 1 [] [
    ⟨(some 2),.box (.tmp 0),none,0⟩,
    ⟨(some 3),.mov (.cst (.c (.bool false))),none,1⟩])
  (.seq (.region 0 [] [
    ⟨(some 4),.load none (.tmp 1),none,0⟩,
    ⟨(some 5),.load (some n) (.tmp 2),none,0⟩,
    ⟨(some 6),.callv (.tmp 4) [(.tmp 5)],none,0⟩,
    ⟨(some 7),.not (.tmp 6),none,0⟩,
    ⟨(some 3),.mov (.tmp 7),none,0⟩])
  .ret))⟩
section
variable {α:Type} [Row α] [Inhabited α] {sz:Nat} {sh:Option Nat}
theorem All_of (E:Elem α sz sh) {k kN kC kI:Nat} (hG:G k=some (tAll kN kC)) (hC:G kC=some (tContainsFunc kI)) (hI:G kI=some (tIndexFunc sz sh))
    {g:Bool × Bool} {l:List α} (hl:l.length<Big) {f:Nat} {a:Bool} {x y:List C} {h:List Obj} (p:α→Bool)
    (hF:∀z,z∈l→CallV G (.c (.fn kN false [] [.ptr h.length 0])) [E.val g.2 z] (h++[.cells [.fn f a x y]]) fun v h1=>v = .c (.bool (!p z))∧h1=h++[.cells [.fn f a x y]]) {Q:V→List Obj→Prop} :
    Fn G (.f k [.c (L g l),.c (.fn f a x y)] h) Q↔Q (.c (.bool (l.all p))) (h++[.cells [.fn f a x y]]):=by
  refine Fn_iff ?_
  refine Fn_X (fn:=tAll kN kC) hG rfl ?_
  simp only [go_sem,tAll,reduceCtorEq,Nat.reduceAdd,Nat.reduceSub,Nat.reduceBEq,Nat.reduceEqDiff]
  refine (ContainsFunc_ok E hC hI hl (fun i=>h++[.cells [.fn f a x y]]) (fun i=>!p (l.getD i default)) (F:=.c (.fn kN false [] [.ptr h.length 0])) ?_).mono ?_
  · intro i hi _
    exact hF _ (by rw [getD_lt _ _ _ hi];exact List.getElem_mem hi)
  · rintro v h' (⟨i,hi,hp,hb,rfl,rfl⟩ | ⟨hb,rfl,rfl⟩)
    · simp only [go_sem,reduceCtorEq,Nat.reduceAdd,Nat.reduceSub,Nat.reduceBEq,Nat.reduceEqDiff]
      symm
      rw [List.all_eq_false]
      exact ⟨l.getD i default,by rw [getD_lt _ _ _ hi];exact List.getElem_mem hi,by simpa using hp⟩
    · simp only [go_sem,reduceCtorEq,Nat.reduceAdd,Nat.reduceSub,Nat.reduceBEq,Nat.reduceEqDiff]
      symm
      rw [List.all_eq_true]
      intro z hz
      obtain ⟨i,hi,rfl⟩:=List.getElem_of_mem hz
      have:=hb i hi
      rw [getD_lt _ _ _ hi] at this
      simpa using this
theorem All_pure (E:Elem α sz sh) {k kN kC kI:Nat} (hG:G k=some (tAll kN kC)) (hN:G kN=some tNot) (hC:G kC=some (tContainsFunc kI)) (hI:G kI=some (tIndexFunc sz sh))
    {g:Bool × Bool} {l:List α} (hl:l.length<Big) {f:Nat} {a:Bool} {x y:List C} {h:List Obj} (hu:closedH h) (hf:C.under (h.length+1) (.fn f a x y)=true) (p:α→Bool)
    (hF:∀z,z∈l→∀h',closedH h'→CallV G (.c (.fn f a x y)) [E.val g.2 z] h' fun v h1=>v = .c (.bool (p z))∧h1=h') {Q:V→List Obj→Prop} :
    Fn G (.f k [.c (L g l),.c (.fn f a x y)] h) Q↔Q (.c (.bool (l.all p))) (h++[.cells [.fn f a x y]]):=by
  refine All_of E hG hC hI hl p ?_
  intro z hz
  rw [CallV_fn]
  refine Fn_X (fn:=tNot) hN rfl ?_
  have:=hF z hz (h++[.cells [.fn f a x y]]) (closedH_snoc hu (by simp [Obj.under,C.underL,hf]))
  simp only [go_sem,tNot,CallV_iff this,reduceCtorEq,Nat.reduceAdd,Nat.reduceSub,Nat.reduceBEq,Nat.reduceEqDiff,List.cons_append,List.nil_append]
theorem All_pureS {n:Nat} (E:Elem α sz (some n)) (hv:∀t z,∃cs,E.val t z = .agg cs∧cs.length=n∧known cs=true∧∀b,C.underL b cs=true) {k kN kC kI:Nat} (hG:G k=some (tAll kN kC)) (hN:G kN=some (tNotS n)) (hC:G kC=some (tContainsFunc kI)) (hI:G kI=some (tIndexFunc sz (some n)))
    {g:Bool × Bool} {l:List α} (hl:l.length<Big) {f:Nat} {a:Bool} {x y:List C} {h:List Obj} (hu:closedH h) (hf:C.under (h.length+1) (.fn f a x y)=true) (p:α→Bool)
    (hF:∀z,z∈l→∀h',closedH h'→CallV G (.c (.fn f a x y)) [E.val g.2 z] h' fun v h1=>v = .c (.bool (p z))∧h1=h') {Q:V→List Obj→Prop} :
    Fn G (.f k [.c (L g l),.c (.fn f a x y)] h) Q↔Q (.c (.bool (l.all p))) (h++[.cells [.fn f a x y]]):=by
  refine All_of E hG hC hI hl p ?_
  intro z hz
  rw [CallV_fn]
  refine Fn_XD (fn:=tNotS n) hN rfl ?_
  obtain ⟨cs,e,hn,hk,hb⟩:=hv g.2 z
  have h1:closedH (h++[.cells [.fn f a x y]]):=closedH_snoc hu (by simp [Obj.under,C.underL,hf])
  have h2:closedH ((h++[.cells [.fn f a x y]])++[.cells cs]):=closedH_snoc h1 (hb _)
  have:=hF z hz ((h++[.cells [.fn f a x y]])++[.cells cs]) h2
  rw [e] at this ⊢
  have hp:takeN n cs=some cs:=by subst hn;exact takeN_whole cs
  have h3:underH (h.length+1) h=true:=underH_mono (by omega) hu
  have hf':C.underL (h.length+1) x=true∧C.underL (h.length+1) y=true:=by simpa [C.under] using hf
  simp only [List.append_assoc,List.cons_append,List.nil_append] at this
  simp only [go_sem,tNotS,hk,hn,hp,CallV_iff this,reduceCtorEq,Nat.reduceAdd,Nat.reduceSub,Nat.reduceBEq,Nat.reduceEqDiff,List.cons_append,List.nil_append]
  have ht:List.take (h.length+1) (h++[Obj.cells [C.fn f a x y],Obj.cells cs])=h++[.cells [.fn f a x y]]:=by
    rw [show h++[Obj.cells [C.fn f a x y],Obj.cells cs]=(h++[.cells [.fn f a x y]])++[.cells cs] by simp,show h.length+1=(h++[Obj.cells [C.fn f a x y]]).length by simp,List.take_left]
  simp only [ht,underH_append,go_sem,h3,hf'.1,hf'.2]
end
end Am
namespace Am
open Go
set_option linter.unusedVariables false
set_option linter.unusedSimpArgs false
variable {G:Nat→Option AFunc}
theorem getH_left {h l:List Obj} {o:Nat} (ho:o<h.length):getH (h++l) o=getH h o:=by
  induction h generalizing o with
  | nil=>simp at ho
  | cons a h ih=>
    cases o with
    | zero=>rfl
    | succ o=>simp only [List.cons_append,getH];exact ih (by simpa using ho)
theorem setH_left {h l:List Obj} {o:Nat} {x:Obj} (ho:o<h.length):setH (h++l) o x=setH h o x++l:=by
  induction h generalizing o with
  | nil=>simp at ho
  | cons a h ih=>
    cases o with
    | zero=>rfl
    | succ o=>simp only [List.cons_append,setH];rw [ih (by simpa using ho)]
theorem length_setH {h:List Obj} {o:Nat} {x:Obj}:(setH h o x).length=h.length:=by
  induction h generalizing o with
  | nil=>rfl
  | cons a h ih=>cases o<;>simp [setH,ih]
theorem lt_of_getH {h:List Obj} {o:Nat} (hne:getH h o ≠ .none):o<h.length:=by
  induction h generalizing o with
  | nil=>exact (hne rfl).elim
  | cons a h ih=>
    cases o with
    | zero=>simp
    | succ o=>simp only [List.length_cons];have:=ih (o:=o) hne;omega
def rangeX (o:Nat) (s:List V) (Q:QT) (H:List Obj):Prop:=
  ∃l,getH H o = .loop l∧l.state ≠ .busy∧Q l.pending s (setH H o (.loop { l with state:=.exhausted }))
theorem RX_range {f:Opd} {ps:List Nat} {a b:ACode} {s:List V} {h:List Obj} {Q:QT}
    (hc:CallV G (f.ev s) [.c (.yld h.length)] (h++[.loop ⟨.ready,.normal,s,ps,a,b⟩]) fun _ H=>rangeX h.length s Q H):RX G (.range f ps a b) s h Q:=by
  obtain ⟨n,v,H,e,l,hl,hb,q⟩:=hc
  refine ⟨n,l.pending,⟨s,setH H h.length (.loop { l with state:=.exhausted })⟩,?_,q⟩
  unfold evC
  simp only [e,hl]
def bodyX (o:Nat) (Q:V→List Obj→Prop):QT:=fun x _ H=>∃l,getH H o = .loop l∧match x with
  | .normal=>Q (.c (.bool true)) (setH H o (.loop { l with state:=.ready,pending:=.normal }))
  | x=>Q (.c (.bool false)) (setH H o (.loop { l with state:=.done,pending:=x }))
def assignX (G:Nat→Option AFunc) (o:Nat) (body:ACode) (Q:V→List Obj→Prop):QT:=fun x s H=>x = .normal∧∃l,getH H o = .loop l∧l.state = .ready∧l.body=body∧RX G body s (setH H o (.loop { l with state:=.busy })) (bodyX o Q)
theorem Fn_y {o:Nat} {args:List V} {H:List Obj} {Q:V→List Obj→Prop} {l:ALoop} (hl:getH H o = .loop l) (ha:args.length=l.params.length)
    (hc:RX G l.assign (setParams l.params args l.slots) H (assignX G o l.body Q)):Fn G (.y o args H) Q:=by
  obtain ⟨n,x,st,e,rfl,l1,h1,hr,hb,m,x2,st2,e2,l2,h2,q⟩:=hc
  refine ⟨max n m+1,?_⟩
  have e':=evC_up (Nat.le_max_left n m) e
  have e2':=evC_up (Nat.le_max_right n m) e2
  have ha':Nat.beq args.length l.params.length=true:=by rw [ha];simp
  show ∃v h,evBody G (ev G (max n m)) (max n m) _=_∧_
  unfold evBody
  simp only [hl,ha',if_true,e',h1,hr]
  have e3:evC (ev G (max n m)) (max n m) l.body ⟨st.slots,setH st.heap o (.loop ⟨.busy,l1.pending,l1.slots,l1.params,l1.assign,l1.body⟩)⟩=some (x2,st2):=e2'
  rw [e3]
  simp only [h2]
  cases x2 with
  | normal=>exact ⟨_,_,rfl,q⟩
  | exit i=>exact ⟨_,_,rfl,q⟩
  | ret=>exact ⟨_,_,rfl,q⟩
theorem CallV_y {o:Nat} {args:List V} {H:List Obj} {Q:V→List Obj→Prop}:CallV G (.c (.yld o)) args H Q↔Fn G (.y o args H) Q:=Iff.rfl
def Keep (own:Nat→Prop) (H H':List Obj):Prop:=H.length≤H'.length∧∀o,¬own o→o<H.length→getH H' o=getH H o
theorem Keep.refl {own:Nat→Prop} {H:List Obj}:Keep own H H:=⟨Nat.le_refl _,fun _ _ _=>rfl⟩
theorem Keep.trans {own:Nat→Prop} {H H' H'':List Obj} (h:Keep own H H') (h':Keep own H' H''):Keep own H H'':=
  ⟨Nat.le_trans h.1 h'.1,fun o ho hl=>by rw [h'.2 o ho (Nat.lt_of_lt_of_le hl h.1),h.2 o ho hl]⟩
theorem Keep.append {own:Nat→Prop} {H X:List Obj}:Keep own H (H++X):=⟨by simp,fun o _ hl=>getH_left hl⟩
theorem Keep.get {own:Nat→Prop} {H H':List Obj} (h:Keep own H H') {o:Nat} {x:Obj} (ho:¬own o) (hx:getH H o=x) (hne:x ≠ .none):getH H' o=x:=by
  rw [h.2 o ho (lt_of_getH (by rw [hx];exact hne)),hx]
inductive LstIn {α:Type} [Row α] (sz:Nat) (own:Nat→Prop) (H:List Obj):C→List α→Prop where
  | nils:LstIn sz own H .nils []
  | sl (o ver:Nat) (fr:Bool) (w:List α) (ho:¬own o) (hg:getH H o = .arr fr ver sz (w.map Row.row)):LstIn sz own H (.sl o ver 0 w.length) w
theorem LstIn.keep {α:Type} [Row α] {sz:Nat} {own:Nat→Prop} {H H':List Obj} {c:C} {w:List α} (h:LstIn sz own H c w) (hk:Keep own H H'):LstIn sz own H' c w:=by
  cases h with
  | nils=>exact .nils
  | sl o ver fr w ho hg=>exact .sl o ver fr w ho (hk.get ho hg (by simp))
def foldY {σ β:Type} (step:σ→β→σ × Bool):σ→List β→σ × Bool
  | s,[]=>(s,true)
  | s,w::ws=>if (step s w).2=true then foldY step (step s w).1 ws else ((step s w).1,false)
theorem foldY_append {σ β:Type} (step:σ→β→σ × Bool) (s:σ) (a b:List β):foldY step s (a++b)=if (foldY step s a).2=true then foldY step (foldY step s a).1 b else ((foldY step s a).1,false):=by
  induction a generalizing s with
  | nil=>simp [foldY]
  | cons w a ih=>
    by_cases h:(step s w).2=true
    · simp only [List.cons_append,foldY,h,if_true,ih]
    · simp [foldY,h]
end Am
namespace Am
theorem LstIn.rows {α:Type} [Row α] {sz:Nat} {own:Nat→Prop} {H:List Obj} {c:C} {w:List α} (h:LstIn sz own H c w) (X:List Obj):sliceRows (H++X) c=some (w.map Row.row):=by
  cases h with
  | nils=>rfl
  | sl o ver fr w ho hg=>
    rw [sliceRows_sl,getH_left (lt_of_getH (by rw [hg];simp)),hg]
    simp only [if_true]
    exact part_map rfl
theorem getH_keep {H X:List Obj} {o:Nat} {x:Obj} (h:getH H o=x) (hne:x ≠ .none):getH (H++X) o=x:=by
  rw [getH_left (lt_of_getH (by rw [h];exact hne)),h]
end Am
namespace Am
variable {G:Nat→Option AFunc}
def whX {α:Type} (ann:Ann) (lb:Nat) (up:α→List (Nat × V)) (s1:List V) (hp:α→List Obj) (P:α→Prop) (μ:α→Nat) (m:Nat) (Q:QT):QT:=fun x s h=>match x with
  | .normal=>∃y,(μ y<m∧P y)∧headX ann lb s h=some (putsS (up y) s1,hp y)
  | x=>Q x s h
@[go_sem ↓] theorem whX_normal {α:Type} {ann lb} {up:α→List (Nat × V)} {s1 hp P μ m Q s h}:whX ann lb up s1 hp P μ m Q .normal s h↔∃y,(μ y<m∧P y)∧headX ann lb s h=some (putsS (up y) s1,hp y):=Iff.rfl
@[go_sem ↓] theorem whX_exit {α:Type} {ann lb} {up:α→List (Nat × V)} {s1 hp P μ m Q i s h}:whX ann lb up s1 hp P μ m Q (.exit i) s h↔Q (.exit i) s h:=Iff.rfl
@[go_sem ↓] theorem whX_ret {α:Type} {ann lb} {up:α→List (Nat × V)} {s1 hp P μ m Q s h}:whX ann lb up s1 hp P μ m Q .ret s h↔Q .ret s h:=Iff.rfl
theorem RX_whileU {α:Type} {ann:Ann} {b:ACode} {s:List V} {h:List Obj} {Q:QT} (up:α→List (Nat × V)) (hp:α→List Obj) (P:α→Prop) (μ:α→Nat) (x0:α)
    (hP:P x0)
    (h0:headX ann (reify ann.reify ⟨s,h⟩).heap.length (reify ann.reify ⟨s,h⟩).slots (reify ann.reify ⟨s,h⟩).heap=some (putsS (up x0) (killS ann.kill (reify ann.reify ⟨s,h⟩).slots),hp x0))
    (step:∀x,P x→RX G b (putsS (up x) (killS ann.kill (reify ann.reify ⟨s,h⟩).slots)) (hp x) (whX ann (reify ann.reify ⟨s,h⟩).heap.length up (killS ann.kill (reify ann.reify ⟨s,h⟩).slots) hp P μ (μ x) Q)):RX G (.loop ann b) s h Q:=by
  refine RX_while (fun x=>(putsS (up x) (killS ann.kill (reify ann.reify ⟨s,h⟩).slots),hp x)) P μ x0 ⟨hP,h0⟩ fun x hx=>?_
  refine (step x hx).mono ?_
  intro y st hq
  cases y with
  | normal=>obtain ⟨z,⟨hz,hP'⟩,hh⟩:=hq;exact ⟨z,hz,hP',hh⟩
  | exit i=>exact hq
  | ret=>exact hq
end Am
namespace Am
theorem LstIn.known {α:Type} [Row α] {sz:Nat} {own:Nat→Prop} {H:List Obj} {c:C} {w:List α} (h:LstIn sz own H c w):known [c]=true:=by cases h<;>rfl
end Am
namespace Am
theorem LstIn.res {α:Type} [Row α] {sz:Nat} {own:Nat→Prop} {H:List Obj} {c:C} {w:List α} (h:LstIn sz own H c w):∃b:Bool,∀H',(∀o,¬own o→getH H' o=getH H o)→toResC H' c=some (L (b,false) w):=by
  cases h with
  | nils=>exact ⟨true,fun H' _=>rfl⟩
  | sl o ver fr w ho hg=>
    refine ⟨false,fun H' hh=>?_⟩
    rw [toResC_sl,hh o ho,hg]
    simp only [if_true,part_map (l:=w) rfl,Option.map_some]
    rfl
end Am
namespace Am
theorem rangeX_of {o:Nat} {s:List V} {Q:QT} {H:List Obj} {l:ALoop} (h:getH H o = .loop l) (hb:l.state ≠ .busy) (hq:∀W,Q l.pending s (setH H o W)):rangeX o s Q H:=⟨l,h,hb,hq _⟩
end Am
namespace Am
theorem isHole_of {h:List Obj} {o:Nat} (hl:o<h.length) (hg:getH h o = .none):isHole h o=true:=by
  induction h generalizing o with
  | nil=>simp at hl
  | cons a h ih=>
    cases o with
    | zero=>simp only [getH] at hg;subst hg;rfl
    | succ o=>
      have:=ih (o:=o) (by simpa using hl) hg
      cases a<;>exact this
theorem Keep.hole {own:Nat→Prop} {H H':List Obj} (h:Keep own H H') {o:Nat} (ho:¬own o) (hl:o<H.length) (hx:getH H o = .none):isHole H' o=true:=
  isHole_of (Nat.lt_of_lt_of_le hl h.1) (by rw [h.2 o ho hl,hx])
theorem findE_mem {k:List D} {es:List (List D × List C)} {cs:List C} (h:findE k es=some cs):∃e,e∈es∧keyEq k e.1=true∧e.2=cs:=by
  induction es with
  | nil=>cases h
  | cons e es ih=>
    unfold findE at h
    by_cases hk:keyEq k e.1=true
    · rw [if_pos hk] at h;cases h;exact ⟨e,by simp,hk,rfl⟩
    · rw [if_neg hk] at h
      obtain ⟨e',a,b,c⟩:=ih h
      exact ⟨e',by simp [a],b,c⟩
theorem putE_mem {k:List D} {v:List C} {es:List (List D × List C)} {e:List D × List C} (h:e∈putE k v es):e∈es∨e=(k,v):=by
  induction es with
  | nil=>simp [putE] at h;exact .inr h
  | cons x es ih=>
    unfold putE at h
    by_cases hk:keyEq k x.1=true
    · rw [if_pos hk] at h
      rcases List.mem_cons.1 h with h | h
      · exact .inr h
      · exact .inl (by simp [h])
    · rw [if_neg hk] at h
      rcases List.mem_cons.1 h with h | h
      · exact .inl (by simp [h])
      · rcases ih h with h | h
        · exact .inl (by simp [h])
        · exact .inr h
end Am
namespace Am
theorem setH_twice {h:List Obj} {o:Nat} {x y:Obj}:setH (setH h o x) o y=setH h o y:=by
  induction h generalizing o with
  | nil=>rfl
  | cons a h ih=>cases o<;>simp [setH,ih]
end Am
namespace Am
theorem getH_ge {h l:List Obj} {o:Nat} (ho:h.length≤o):getH (h++l) o=getH l (o-h.length):=by
  have:=getH_at h l (o-h.length)
  rwa [show h.length+(o-h.length)=o by omega] at this
theorem setH_ge {h l:List Obj} {o:Nat} {x:Obj} (ho:h.length≤o):setH (h++l) o x=h++setH l (o-h.length) x:=by
  have:=setH_at h l (o-h.length) x
  rwa [show h.length+(o-h.length)=o by omega] at this
theorem isHole_ge {h l:List Obj} {o:Nat} (ho:h.length≤o):isHole (h++l) o=isHole l (o-h.length):=by
  have:=isHole_at h l (o-h.length)
  rwa [show h.length+(o-h.length)=o by omega] at this
end Am
attribute [go_sem_proc] reduceCtorEq Nat.reduceAdd Nat.reduceSub Nat.reduceMul Nat.reduceBEq Nat.reduceEqDiff Nat.reduceLT Int.reduceAdd Int.reduceSub Int.reduceNeg Int.reduceToNat Int.reduceLT Int.reduceLE Int.reduceGT Int.reduceGE Int.reduceEq
attribute [go_sem_proc ↓] reduceIte
