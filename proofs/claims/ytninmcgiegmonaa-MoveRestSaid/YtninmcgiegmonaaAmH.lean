/-
  A part of the proof: the texts Am30, Am31, Am32, Am33 of this seat, joined.
-/
import Derived.Test.YtninmcgiegmonaaAmA
import Derived.Test.YtninmcgiegmonaaAmB
namespace Am
open Go
set_option linter.unusedVariables false
variable {G:Nat→Option AFunc}
def CallP (G:Nat→Option AFunc) (k:Nat) (as:List V) (Q:V→Prop):Prop:=∃v,Val G k as v∧Q v
theorem Val.unique {k:Nat} {as:List V} {v v':V} (h:Val G k as v) (h':Val G k as v'):v=v':=by
  obtain ⟨n,h⟩:=h
  obtain ⟨m,h'⟩:=h'
  have h1:=ev_mono G (Nat.le_max_left n m) _ _ h
  have h2:=ev_mono G (Nat.le_max_right n m) _ _ h'
  rw [h1] at h2;injection h2 with h2;injection h2
theorem CallP_of {k:Nat} {as:List V} {v:V} (h:Val G k as v) {Q:V→Prop}:CallP G k as Q↔Q v:=
  ⟨fun ⟨_,h',q⟩=>by rw [h.unique h'];exact q,fun q=>⟨v,h,q⟩⟩
def CallA (G:Nat→Option AFunc) (k:Nat) (as:Option (List V)) (Q:V→Prop):Prop:=match as with
  | some as=>CallP G k as Q
  | none=>False
theorem CallA_some {k:Nat} {as:List V} {Q:V→Prop}:CallA G k (some as) Q↔CallP G k as Q:=Iff.rfl
def callK (G:Nat→Option AFunc) (rb i:Nat) (d:Option Nat) (os:List AOper) (st:St) (f:Foot) (fs:List (Nat × Foot)) (K:St→List (Nat × Foot)→Prop) (v:V):Prop:=RO G rb (i+1) os ⟨putD st.slots d v,st.heap⟩ ((i,f)::fs) K
def CallW (w:Option Bool) (x y:Prop):Prop:=match w with
  | some true=>x
  | some false=>y
  | none=>False
theorem RO_call {rb i:Nat} {d:Option Nat} {k rid:Nat} {g:Option (Nat × Bool)} {args:List Opd} {os:List AOper} {st:St} {fs:List (Nat × Foot)} {K:St→List (Nat × Foot)→Prop} :
    RO G rb i (⟨d,.call k true args,g,rid⟩::os) st fs K ↔
      CallW (wantedA st.slots g) (CallA G k (toArgs st.heap (args.map (·.ev st.slots))) (callK G rb i d os st ⟨readsOf st.slots (.call k true args),[],none⟩ fs K))
        (callK G rb i d os st ⟨[],[],none⟩ fs K skipV):=by
  constructor
  · rintro ⟨n,st',fs',e,hk⟩
    unfold evOs evO at e
    simp only at e
    cases hw:wantedA st.slots g with
    | none=>rw [hw] at e;cases e
    | some b=>
      rw [hw] at e
      cases b with
      | false=>exact ⟨n,st',fs',e,hk⟩
      | true=>
        simp only at e
        show CallA G k _ _
        cases ha:toArgs st.heap (args.map (·.ev st.slots)) with
        | none=>rw [ha] at e;cases e
        | some as=>
          rw [ha] at e
          simp only at e
          cases hr:ev G n (.p k as) with
          | none=>rw [hr] at e;cases e
          | some z=>
            obtain ⟨v,h⟩:=z
            rw [hr] at e
            have hh:h=[]:=by
              cases n with
              | zero=>cases hr
              | succ n=>
                simp only [ev,evBody] at hr
                repeat' (split at hr)
                all_goals first
                  | (cases hr;done)
                  | (cases hr;rfl)
            subst hh
            exact ⟨v,⟨n,hr⟩,n,st',fs',e,hk⟩
  · cases hw:wantedA st.slots g with
    | none=>exact fun h=>h.elim
    | some b=>
      cases b with
      | false=>
        rintro ⟨n,st',fs',e,hk⟩
        refine ⟨n,st',fs',?_,hk⟩
        unfold evOs evO
        simp only [hw]
        exact e
      | true=>
        show CallA G k _ _→_
        cases ha:toArgs st.heap (args.map (·.ev st.slots)) with
        | none=>exact fun h=>h.elim
        | some as=>
          rintro ⟨v,⟨n,hv⟩,m,st',fs',e,hk⟩
          refine ⟨max n m,st',fs',?_,hk⟩
          unfold evOs evO
          simp only [hw,ha,ev_mono G (Nat.le_max_left n m) _ _ hv]
          exact evOs_up (Nat.le_max_right n m) e
end Am
namespace Am
open Go
set_option linter.unusedVariables false
theorem beq_ft : (false==true)=false:=rfl
theorem beq_tf : (true==false)=false:=rfl
theorem toArgC_int {h:List Obj} {k:IntKind} {n:Int}:toArgC h (.int k n)=some (.int k n):=rfl
theorem toArgC_bool {h:List Obj} {b:Bool}:toArgC h (.bool b)=some (.bool b):=rfl
theorem toArgC_lst {h:List Obj} {t:Bool} {rows:List (List D)}:toArgC h (.lst t rows)=some (.lst t rows):=rfl
theorem toArgC_nils {h:List Obj}:toArgC h .nils=some .nils:=rfl
theorem toArgC_sl {h:List Obj} {o ver off len:Nat}:toArgC h (.sl o ver off len)=(match getH h o with | .arr _ ver' _ rows=>if ver'=ver then (part off len rows).map fun r=>.lst true r else none | _=>none):=rfl
theorem toResC_int {h:List Obj} {k:IntKind} {n:Int}:toResC h (.int k n)=some (.int k n):=rfl
theorem toResC_bool {h:List Obj} {b:Bool}:toResC h (.bool b)=some (.bool b):=rfl
theorem toResC_lst {h:List Obj} {rows:List (List D)}:toResC h (.lst false rows)=some (.lst false rows):=rfl
theorem toResC_nils {h:List Obj}:toResC h .nils=some .nils:=rfl
theorem toResC_sl {h:List Obj} {o ver off len:Nat}:toResC h (.sl o ver off len)=(match getH h o with | .arr _ ver' _ rows=>if ver'=ver then (part off len rows).map fun r=>.lst false r else none | _=>none):=rfl
theorem obj_int {k:IntKind} {n:Int}:C.obj (.int k n)=[]:=rfl
theorem obj_bool {b:Bool}:C.obj (.bool b)=[]:=rfl
theorem obj_lst {t:Bool} {rows:List (List D)}:C.obj (.lst t rows)=[]:=rfl
theorem obj_nils : C.obj .nils=[]:=rfl
theorem obj_any : C.obj .any=[]:=rfl
theorem obj_ept {t:Bool} {row:List D} {i:Nat}:C.obj (.ept t row i)=[]:=rfl
theorem obj_fn {f:Nat} {g:Bool} {a b:List C}:C.obj (.fn f g a b)=[]:=rfl
theorem obj_ptr {o off:Nat}:C.obj (.ptr o off)=[o]:=rfl
theorem obj_aptr {o v i off:Nat}:C.obj (.aptr o v i off)=[o]:=rfl
theorem obj_sl {o v i n:Nat}:C.obj (.sl o v i n)=[o]:=rfl
theorem obj_map {o:Nat}:C.obj (.map o)=[o]:=rfl
theorem obj_yld {o:Nat}:C.obj (.yld o)=[o]:=rfl
theorem known_nil : known []=true:=rfl
theorem known_int {k:IntKind} {n:Int} {l:List C}:known (.int k n::l)=known l:=rfl
theorem known_bool {b:Bool} {l:List C}:known (.bool b::l)=known l:=rfl
theorem known_lst {t:Bool} {rows:List (List D)} {l:List C}:known (.lst t rows::l)=known l:=rfl
theorem known_nils {l:List C}:known (.nils::l)=known l:=rfl
theorem known_sl {o v i n:Nat} {l:List C}:known (.sl o v i n::l)=known l:=rfl
theorem known_ptr {o i:Nat} {l:List C}:known (.ptr o i::l)=known l:=rfl
theorem known_map {o:Nat} {l:List C}:known (.map o::l)=known l:=rfl
theorem known_fn {f:Nat} {g:Bool} {a b:List C} {l:List C}:known (.fn f g a b::l)=known l:=rfl
theorem known_any {l:List C}:known (.any::l)=false:=rfl
inductive LstOf {α:Type} (f:α→List D):C→List α→Prop where
  | nils:LstOf f .nils []
  | lst (t:Bool) (l:List α):LstOf f (.lst t (l.map f)) l
theorem LstOf.len {α:Type} {f:α→List D} {c:C} {l:List α} (h:LstOf f c l):lenC c=some l.length:=by
  cases h<;>simp [lenC]
theorem LstOf.known {α:Type} {f:α→List D} {c:C} {l:List α} (h:LstOf f c l) (cs:List C):known (c::cs)=known cs:=by
  cases h<;>rfl
theorem LstOf.obj {α:Type} {f:α→List D} {c:C} {l:List α} (h:LstOf f c l):C.obj c=[]:=by cases h<;>rfl
theorem LstOf.arg {α:Type} {f:α→List D} {c:C} {l:List α} (h:LstOf f c l) (hp:List Obj):toArgC hp c=some c:=by
  cases h<;>rfl
theorem wrap_id (n:Int) (h1 : -9223372036854775808≤n) (h2:n≤9223372036854775807):IntKind.i64.wrap n=n:=by
  simp [IntKind.wrap,IntKind.bits,IntKind.signed]
  omega
end Am
namespace Am
open Go
set_option linter.unusedVariables false
theorem getH_at (h l:List Obj) (i:Nat):getH (h++l) (h.length+i)=getH l i:=by
  induction h with
  | nil=>simp
  | cons x h ih=>rw [List.cons_append,List.length_cons,show h.length+1+i=(h.length+i)+1 by omega];exact ih
theorem setH_at (h l:List Obj) (i:Nat) (x:Obj):setH (h++l) (h.length+i) x=h++setH l i x:=by
  induction h with
  | nil=>simp
  | cons y h ih=>rw [List.cons_append,List.length_cons,show h.length+1+i=(h.length+i)+1 by omega];simp only [setH,ih,List.cons_append]
theorem isHole_at (h l:List Obj) (i:Nat):isHole (h++l) (h.length+i)=isHole l i:=by
  induction h with
  | nil=>simp
  | cons y h ih=>rw [List.cons_append,List.length_cons,show h.length+1+i=(h.length+i)+1 by omega];cases y<;>exact ih
theorem getH_at0 (h l:List Obj):getH (h++l) h.length=getH l 0:=getH_at h l 0
theorem setH_at0 (h l:List Obj) (x:Obj):setH (h++l) h.length x=h++setH l 0 x:=setH_at h l 0 x
theorem isHole_at0 (h l:List Obj):isHole (h++l) h.length=isHole l 0:=isHole_at h l 0
variable {G:Nat→Option AFunc}
def dropK (n:Nat) (res:List RVar) (Q:V→List Obj→Prop):X→St→Prop
  | .exit _,_=>False
  | _,st=>∃vs h',resV st res=some vs∧trunc n vs st.heap=some h'∧Q (resOf vs) h'
theorem dropK_ret {n:Nat} {res:List RVar} {Q:V→List Obj→Prop} {st:St}:dropK n res Q .ret st↔∃vs h',resV st res=some vs∧trunc n vs st.heap=some h'∧Q (resOf vs) h':=Iff.rfl
theorem dropK_normal {n:Nat} {res:List RVar} {Q:V→List Obj→Prop} {st:St}:dropK n res Q .normal st↔∃vs h',resV st res=some vs∧trunc n vs st.heap=some h'∧Q (resOf vs) h':=Iff.rfl
theorem Fn_drop {k:Nat} {fn:AFunc} {args:List V} {h:List Obj} {Q:V→List Obj→Prop} (hg:G k=some fn) (hd:fn.drop=true)
    (hc:RC G fn.code ⟨frameOf fn args,h⟩ (dropK h.length fn.res Q)):Fn G (.f k args h) Q:=by
  obtain ⟨n,x,st,e,q⟩:=hc
  have key:(∃vs h',resV st fn.res=some vs∧trunc h.length vs st.heap=some h'∧Q (resOf vs) h')→(∀i,x ≠ .exit i)→Fn G (.f k args h) Q:=by
    rintro ⟨vs,h',hr,ht,q⟩ hx
    refine ⟨n+1,resOf vs,h',?_,q⟩
    show evBody G (ev G n) n _=_
    simp only [evBody,hg,e]
    cases x with
    | exit i=>exact (hx i rfl).elim
    | normal=>simp only [hr,hd,ht]
    | ret=>simp only [hr,hd,ht]
  cases x with
  | exit i=>exact q.elim
  | normal=>exact key q (fun _ h=>by cases h)
  | ret=>exact key q (fun _ h=>by cases h)
end Am
namespace Am
open Go
set_option linter.unusedVariables false
variable {G:Nat→Option AFunc}
def callFK (G:Nat→Option AFunc) (rb i:Nat) (d:Option Nat) (os:List AOper) (st:St) (fs:List (Nat × Foot)) (K:St→List (Nat × Foot)→Prop) (v:V) (h:List Obj):Prop:=RO G rb (i+1) os ⟨putD st.slots d v,h⟩ ((i,⟨[],[],some (sameO st.heap h)⟩)::fs) K
theorem RO_callV {rb i:Nat} {d:Option Nat} {rid:Nat} {g:Option (Nat × Bool)} {f:Opd} {args:List Opd} {os:List AOper} {st:St} {fs:List (Nat × Foot)} {K:St→List (Nat × Foot)→Prop} :
    RO G rb i (⟨d,.callv f args,g,rid⟩::os) st fs K ↔
      CallW (wantedA st.slots g) (CallV G (f.ev st.slots) (args.map (·.ev st.slots)) st.heap (callFK G rb i d os st fs K)) (callK G rb i d os st ⟨[],[],none⟩ fs K skipV):=by
  constructor
  · rintro ⟨n,st',fs',e,hk⟩
    unfold evOs evO at e
    simp only at e
    cases hw:wantedA st.slots g with
    | none=>rw [hw] at e;cases e
    | some b=>
      rw [hw] at e
      cases b with
      | false=>exact ⟨n,st',fs',e,hk⟩
      | true=>
        simp only at e
        cases hr:callV (ev G n) (f.ev st.slots) (args.map (·.ev st.slots)) st.heap with
        | none=>rw [hr] at e;cases e
        | some z=>rw [hr] at e;exact ⟨n,z.1,z.2,hr,n,st',fs',e,hk⟩
  · cases hw:wantedA st.slots g with
    | none=>exact fun h=>h.elim
    | some b=>
      cases b with
      | false=>
        rintro ⟨n,st',fs',e,hk⟩
        refine ⟨n,st',fs',?_,hk⟩
        unfold evOs evO
        simp only [hw]
        exact e
      | true=>
        rintro ⟨n,v,h',hv,m,st',fs',e,hk⟩
        refine ⟨max n m,st',fs',?_,hk⟩
        unfold evOs evO
        simp only [hw,callV_mono (ev_mono G (Nat.le_max_left n m)) hv]
        exact evOs_up (Nat.le_max_right n m) e
theorem RO_callF {rb i:Nat} {d:Option Nat} {rid k:Nat} {g:Option (Nat × Bool)} {args:List Opd} {os:List AOper} {st:St} {fs:List (Nat × Foot)} {K:St→List (Nat × Foot)→Prop} :
    RO G rb i (⟨d,.call k false args,g,rid⟩::os) st fs K ↔
      CallW (wantedA st.slots g) (Fn G (.f k (args.map (·.ev st.slots)) st.heap) (callFK G rb i d os st fs K)) (callK G rb i d os st ⟨[],[],none⟩ fs K skipV):=by
  constructor
  · rintro ⟨n,st',fs',e,hk⟩
    unfold evOs evO at e
    simp only at e
    cases hw:wantedA st.slots g with
    | none=>rw [hw] at e;cases e
    | some b=>
      rw [hw] at e
      cases b with
      | false=>exact ⟨n,st',fs',e,hk⟩
      | true=>
        simp only at e
        cases hr:ev G n (.f k (args.map (·.ev st.slots)) st.heap) with
        | none=>rw [hr] at e;cases e
        | some z=>rw [hr] at e;exact ⟨n,z.1,z.2,hr,n,st',fs',e,hk⟩
  · cases hw:wantedA st.slots g with
    | none=>exact fun h=>h.elim
    | some b=>
      cases b with
      | false=>
        rintro ⟨n,st',fs',e,hk⟩
        refine ⟨n,st',fs',?_,hk⟩
        unfold evOs evO
        simp only [hw]
        exact e
      | true=>
        rintro ⟨n,v,h',hv,m,st',fs',e,hk⟩
        refine ⟨max n m,st',fs',?_,hk⟩
        unfold evOs evO
        simp only [hw,ev_mono G (Nat.le_max_left n m) _ _ hv]
        exact evOs_up (Nat.le_max_right n m) e
end Am
