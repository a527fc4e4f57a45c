/-
  A part of the proof: the texts V15, V16, V17, V18, V19, V20, V21 of this seat, joined.
-/
import Derived.Test.YtblekjhhceknaaaGreatWalkB
namespace Am.Vt
open Go Am
set_option maxRecDepth 100000
set_option maxHeartbeats 4000000
set_option linter.unusedSimpArgs false
set_option linter.unusedVariables false
variable {g1 g2 g3 g4 gt:Bool × Bool} {v:Vat} {t:Truth}
def bareS (t:Truth):Nat→Int
  | 0=>t.start
  | k+1=>bareS t k+t.drift.getD k 0
def bareK (t:Truth):Nat→List Int
  | 0=>List.replicate 8 0
  | k+1=>(bareK t k).set k (bareS t (k+1))
def bareL (v:Vat) (t:Truth):List Int:=bareK t v.drift.length
theorem bareK_len : ∀{k:Nat},(bareK t k).length=8
  | 0=>rfl
  | k+1=>by rw [bareK,List.length_set,bareK_len]
theorem bareK_get : ∀{k d:Nat},d<8→(bareK t k).getD d 0=if d<k then bareS t (d+1) else 0
  | 0,d,h=>by
    rw [bareK,List.getD_eq_getElem?_getD,List.getElem?_replicate,if_neg (by omega:¬d<0)]
    split<;>rfl
  | k+1,d,h=>by
    have ih:=bareK_get (k:=k) (d:=d) h
    rw [bareK,List.getD_eq_getElem?_getD,List.getElem?_set]
    by_cases hd:k=d
    · subst hd
      rw [if_pos rfl,if_pos (by rw [bareK_len];exact h),if_pos (by omega)];rfl
    · rw [if_neg hd,←List.getD_eq_getElem?_getD,ih]
      by_cases h1:d<k
      · rw [if_pos h1,if_pos (by omega)]
      · rw [if_neg h1,if_neg (by omega)]
theorem bareL_get (hv:v.Valid) {d:Nat} (h:d<v.drift.length):(bareL v t).getD d 0=bareS t (d+1):=by
  have:=hv.drift
  have:=hv.last7
  rw [bareL,bareK_get (by omega),if_pos h]
theorem bareS_bd (hv:v.Valid) (h:IsT v t):∀{k:Nat},k≤v.drift.length → -50-9*(k:Int)≤bareS t k∧bareS t k≤50+9*(k:Int)
  | 0,_=>by
    have:=hv.start
    have:=h.st
    simp only [bareS];omega
  | k+1,hk=>by
    have ih:=bareS_bd hv h (k:=k) (by omega)
    have:=h.drift hv (d:=k) (by omega)
    simp only [bareS];omega
theorem splice_all8 {xs l:List C} (h1:xs.length=8) (h2:l.length=8):splice 0 xs l=some xs:=by
  have:∀{xs l:List C},xs.length=l.length→splice 0 xs l=some xs:=by
    intro xs
    induction xs with
    | nil=>intro l h;cases l with
      | nil=>rfl
      | cons a l=>simp at h
    | cons x xs ih=>intro l h;cases l with
      | nil=>simp at h
      | cons a l=>simp only [splice,ih (l:=l) (by simpa using h),Option.map_some]
  exact this (by omega)
theorem cbare (hv:v.Valid) (hIs:IsT v t) {Q:V→Prop}:CallP tab 141 [vatV g1 g2 g3 g4 v,truthG gt t] Q↔Q (.agg ((bareL v t).map intC)):=CallP_of (by
  refine Val_X (fn:=f141) rfl ?_
  have v1:=hv.drift
  have v4:=hv.last7
  have v5:=hv.last0
  simp only [go_sem,f141,cdays' hv]
  refine RX_for v.drift.length (fun k=>[(5,.c (.int .i64 (bareS t k))),(11,.c (.int .i64 k))]) (fun k=>[.cells (vatC g1 g2 g3 g4 v),.cells [.int .i64 t.start,.int .i64 t.blue,L gt t.drift],.cells ((bareK t k).map intC)]) (fun _=>True) trivial (by simp only [go_sem]<;>exact ⟨rfl,rfl⟩) ?_
  intro k hk _
  by_cases hlt:k<v.drift.length
  · have hlt':(k:Int)<(v.drift.length:Nat):=by omega
    have k8:(k:Int)<8:=by omega
    have k0:(0:Int)≤k:=by omega
    have q4:k<t.drift.length:=by rw [hIs.dl];exact hlt
    have e4:IntKind.i64.wrap ((k:Int)+1)=((k+1:Nat):Int):=wrap_succ (n:=3000) (by omega) (by decide)
    have b1:=bareS_bd hv hIs (k:=k) (by omega)
    have b2:=hIs.drift hv hlt
    have hd:t.drift.getD k default=t.drift.getD k 0:=rfl
    have e5:IntKind.i64.wrap (bareS t k+t.drift.getD k 0)=bareS t (k+1):=by rw [wrapB (by omega) (by omega)];rfl
    have bl:=bareK_len (t:=t) (k:=k)
    have hs:=splice_ints (l:=bareK t k) (i:=k) (x:=bareS t (k+1)) (by omega)
    simp only [go_sem,hlt',hlt,k8,k0,q4,atI_nat,hd,e4,e5,hs,bareK]
  · have:k=v.drift.length:=by omega
    subst this
    have hlt':¬(v.drift.length:Int)<(v.drift.length:Nat):=by omega
    have bl:=bareK_len (t:=t) (k:=v.drift.length)
    have hp:takeN 8 ((bareK t v.drift.length).map intC)=some ((bareK t v.drift.length).map intC):=part_ints bl
    have hsp:=splice_all8 (xs:=(bareK t v.drift.length).map intC) (l:=(bareK t v.drift.length).map intC) (by simp [bl]) (by simp [bl])
    simp only [go_sem,hlt',hp,bl,hsp,bareL])
end Am.Vt
namespace Am.Vt
open Go Am
set_option maxRecDepth 100000
set_option maxHeartbeats 4000000
set_option linter.unusedSimpArgs false
set_option linter.unusedVariables false
variable {g1 g2 g3 g4 gt:Bool × Bool} {v:Vat} {t:Truth}
theorem part_app {α:Type}:∀{a b:List α} {i n:Nat},takeN n (dropN (a.length+i) (a++b))=takeN n (dropN i b)
  | [],b,i,n=>by simp
  | x::a,b,i,n=>by
    rw [List.length_cons,Nat.add_right_comm,List.cons_append]
    show takeN n (dropN (a.length+i) (a++b))=_
    exact part_app
theorem part_left {α:Type} {a b:List α} {i n:Nat} (h:i+n≤a.length):takeN n (dropN i (a++b))=takeN n (dropN i a):=by
  rw [dropN_eq,dropN_eq,takeN_take (by simp;omega),takeN_take (by simp;omega),List.drop_append_of_le_length (by omega),List.take_append_of_le_length (by simp;omega)]
theorem splice_app {α:Type}:∀{a b x:List α} {i:Nat},splice (a.length+i) x (a++b)=(splice i x b).map (a++·)
  | [],b,x,i=>by simp
  | y::a,b,x,i=>by
    rw [List.length_cons,Nat.add_right_comm,List.cons_append]
    show (splice (a.length+i) x (a++b)).map (y::·)=_
    rw [splice_app,Option.map_map];rfl
theorem splice_left0 {α:Type}:∀{a b x:List α},x.length≤a.length→splice 0 x (a++b)=(splice 0 x a).map (·++b)
  | [],b,[],_=>by cases b<;>rfl
  | [],b,_::_,h=>by simp at h
  | y::a,b,[],_=>rfl
  | y::a,b,z::x,h=>by
    rw [List.cons_append]
    show (splice 0 x (a++b)).map (z::·)=((splice 0 x a).map (z::·)).map (·++b)
    rw [splice_left0 (by simpa using h),Option.map_map,Option.map_map];rfl
theorem splice_left {α:Type}:∀{a b x:List α} {i:Nat},i+x.length≤a.length→splice i x (a++b)=(splice i x a).map (·++b)
  | a,b,x,0,h=>splice_left0 (by omega)
  | [],b,x,i+1,h=>by simp at h
  | y::a,b,x,i+1,h=>by
    rw [List.cons_append]
    show (splice i x (a++b)).map (y::·)=((splice i x a).map (y::·)).map (·++b)
    rw [splice_left (by simp at h;omega),Option.map_map,Option.map_map];rfl
abbrev TC := Truth × C
def tc (p:TC):List C:=[.int .i64 p.1.start,.int .i64 p.1.blue,p.2]
theorem tc_len {A:List TC}:(A.flatMap tc).length=A.length*3:=by
  induction A with
  | nil=>rfl
  | cons a A ih=>rw [List.flatMap_cons,List.length_append,ih,List.length_cons,Nat.succ_mul,Nat.add_comm];rfl
theorem tc_part : ∀{A:List TC} {d:Nat} {x:TC},d<A.length→takeN 3 (dropN (d*3) (A.flatMap tc))=some (tc (A.getD d x))
  | [],d,_,h=>by simp at h
  | a::A,0,x,_=>by simp [tc,dropN,takeN]
  | a::A,d+1,x,h=>by
    have:takeN 3 (dropN ((tc a).length+d*3) (tc a++A.flatMap tc))=takeN 3 (dropN (d*3) (A.flatMap tc)):=part_app
    rw [Nat.succ_mul,Nat.add_comm (d*3) 3,List.flatMap_cons]
    exact this.trans (tc_part (by simpa using h))
theorem tc_splice : ∀{A:List TC} {d:Nat} {q:TC},d<A.length→splice (d*3) (tc q) (A.flatMap tc)=some ((A.set d q).flatMap tc)
  | [],d,_,h=>by simp at h
  | a::A,0,q,_=>by
    rw [List.flatMap_cons,Nat.zero_mul,splice_left0 (by simp [tc])]
    rfl
  | a::A,d+1,q,h=>by
    have:splice ((tc a).length+d*3) (tc q) (tc a++A.flatMap tc)=(splice (d*3) (tc q) (A.flatMap tc)).map (tc a++·):=splice_app
    rw [Nat.succ_mul,Nat.add_comm (d*3) 3,List.flatMap_cons]
    refine this.trans ?_
    rw [tc_splice (by simpa using h)];rfl
structure XC where
  most:List Int
  least:List Int
  A:List TC
  B:List TC
structure XC.Ok (x:XC):Prop where
  m:x.most.length=8
  l:x.least.length=8
  a:x.A.length=8
  b:x.B.length=8
def XC.cells (x:XC):List C:=x.most.map intC++(x.least.map intC++(x.A.flatMap tc++x.B.flatMap tc))
section
variable {x:XC}
theorem XC.Ok.len (h:x.Ok):x.cells.length=64:=by
  unfold XC.cells;rw [List.length_append,List.length_append,List.length_append,List.length_map,List.length_map,tc_len,tc_len,h.m,h.l,h.a,h.b]
theorem XC.Ok.all (h:x.Ok):takeN 64 x.cells=some x.cells:=by
  have:=takeN_whole x.cells
  rwa [h.len] at this
theorem XC.Ok.pM (h:x.Ok) {d:Nat} (hd:d<8):takeN 1 (dropN d x.cells)=some [.int .i64 (x.most.getD d default)]:=by
  rw [XC.cells,part_left (by simp [h.m];omega)]
  exact part_int (by rw [h.m];exact hd)
theorem XC.Ok.pL (h:x.Ok) {d:Nat} (hd:d<8):takeN 1 (dropN (8+d) x.cells)=some [.int .i64 (x.least.getD d default)]:=by
  have e:=part_app (a:=x.most.map intC) (b:=x.least.map intC++(x.A.flatMap tc++x.B.flatMap tc)) (i:=d) (n:=1)
  rw [List.length_map,h.m] at e
  rw [XC.cells,e,part_left (by simp [h.l];omega)]
  exact part_int (by rw [h.l];exact hd)
theorem XC.Ok.pA (h:x.Ok) {d:Nat} (hd:d<8) {y:TC}:takeN 3 (dropN (16+d*3) x.cells)=some (tc (x.A.getD d y)):=by
  have e:=part_app (a:=x.most.map intC++x.least.map intC) (b:=x.A.flatMap tc++x.B.flatMap tc) (i:=d*3) (n:=3)
  rw [List.length_append,List.length_map,List.length_map,h.m,h.l] at e
  rw [XC.cells,←List.append_assoc]
  refine e.trans ?_
  rw [part_left (by rw [tc_len,h.a];omega)]
  exact tc_part (by rw [h.a];exact hd)
theorem XC.Ok.pB (h:x.Ok) {d:Nat} (hd:d<8) {y:TC}:takeN 3 (dropN (40+d*3) x.cells)=some (tc (x.B.getD d y)):=by
  have e:=part_app (a:=x.most.map intC++(x.least.map intC++x.A.flatMap tc)) (b:=x.B.flatMap tc) (i:=d*3) (n:=3)
  rw [List.length_append,List.length_append,List.length_map,List.length_map,tc_len,h.m,h.l,h.a] at e
  rw [XC.cells,show x.most.map intC++(x.least.map intC++(x.A.flatMap tc++x.B.flatMap tc))=(x.most.map intC++(x.least.map intC++x.A.flatMap tc))++x.B.flatMap tc by simp]
  refine e.trans ?_
  exact tc_part (by rw [h.b];exact hd)
theorem XC.Ok.sM (h:x.Ok) {d:Nat} (hd:d<8) {n:Int}:splice d [.int .i64 n] x.cells=some (XC.cells { x with most:=x.most.set d n }):=by
  rw [XC.cells,splice_left (by simp [h.m];omega),splice_ints (by rw [h.m];exact hd)];rfl
theorem XC.Ok.sL (h:x.Ok) {d:Nat} (hd:d<8) {n:Int}:splice (8+d) [.int .i64 n] x.cells=some (XC.cells { x with least:=x.least.set d n }):=by
  have e:=splice_app (a:=x.most.map intC) (b:=x.least.map intC++(x.A.flatMap tc++x.B.flatMap tc)) (i:=d) (x:=[.int .i64 n])
  rw [List.length_map,h.m] at e
  rw [XC.cells,e,splice_left (by simp [h.l];omega),splice_ints (by rw [h.l];exact hd)];rfl
theorem XC.Ok.sA (h:x.Ok) {d:Nat} (hd:d<8) {a b:Int} {c:C} {q:Truth} (ha:a=q.start) (hb:b=q.blue):splice (16+d*3) [.int .i64 a,.int .i64 b,c] x.cells=some (XC.cells { x with A:=x.A.set d (q,c) }):=by
  subst ha;subst hb
  have e:=splice_app (a:=x.most.map intC++x.least.map intC) (b:=x.A.flatMap tc++x.B.flatMap tc) (i:=d*3) (x:=tc (q,c))
  rw [List.length_append,List.length_map,List.length_map,h.m,h.l] at e
  rw [XC.cells,←List.append_assoc]
  refine e.trans ?_
  rw [splice_left (by rw [tc_len,h.a];simp [tc];omega),tc_splice (by rw [h.a];exact hd)]
  simp [XC.cells]
theorem XC.Ok.sB (h:x.Ok) {d:Nat} (hd:d<8) {a b:Int} {c:C} {q:Truth} (ha:a=q.start) (hb:b=q.blue):splice (40+d*3) [.int .i64 a,.int .i64 b,c] x.cells=some (XC.cells { x with B:=x.B.set d (q,c) }):=by
  subst ha;subst hb
  have e:=splice_app (a:=x.most.map intC++(x.least.map intC++x.A.flatMap tc)) (b:=x.B.flatMap tc) (i:=d*3) (x:=tc (q,c))
  rw [List.length_append,List.length_append,List.length_map,List.length_map,tc_len,h.m,h.l,h.a] at e
  rw [XC.cells,show x.most.map intC++(x.least.map intC++(x.A.flatMap tc++x.B.flatMap tc))=(x.most.map intC++(x.least.map intC++x.A.flatMap tc))++x.B.flatMap tc by simp]
  refine e.trans ?_
  rw [tc_splice (by rw [h.b];exact hd)]
  simp [XC.cells]
end
def updX (f:Bool) (b:List Int) (q:TC) (x:XC) (d:Nat):XC:=
  let y:=if (f||decide (b.getD d 0>x.most.getD d 0))=true then { x with most:=x.most.set d (b.getD d 0),A:=x.A.set d q } else x
  if (f||decide (b.getD d 0<y.least.getD d 0))=true then { y with least:=y.least.set d (b.getD d 0),B:=y.B.set d q } else y
def updK (f:Bool) (b:List Int) (q:TC) (x:XC) (k:Nat):XC:=(List.range k).foldl (updX f b q) x
theorem updK_succ {f:Bool} {b:List Int} {q:TC} {x:XC} {k:Nat}:updK f b q x (k+1)=updX f b q (updK f b q x k) k:=by
  unfold updK;rw [List.range_succ,List.foldl_append];rfl
theorem updX_ok {f:Bool} {b:List Int} {q:TC} {x:XC} {d:Nat} (h:x.Ok):(updX f b q x d).Ok:=by
  unfold updX
  simp only
  split<;>split<;>exact ⟨by simp [h.m],by simp [h.l],by simp [h.a],by simp [h.b]⟩
theorem updK_ok {f:Bool} {b:List Int} {q:TC} {x:XC} (h:x.Ok):∀{k:Nat},(updK f b q x k).Ok
  | 0=>h
  | k+1=>by rw [updK_succ];exact updX_ok (updK_ok h)
def XC0 : XC:=⟨List.replicate 8 0,List.replicate 8 0,List.replicate 8 (⟨0,0,[]⟩,.nils),List.replicate 8 (⟨0,0,[]⟩,.nils)⟩
theorem XC0_ok : XC0.Ok:=⟨rfl,rfl,rfl,rfl⟩
end Am.Vt
namespace Am.Vt
open Go Am
set_option maxRecDepth 100000
set_option maxHeartbeats 4000000
set_option linter.unusedSimpArgs false
set_option linter.unusedVariables false
variable {g1 g2 g3 g4 gt:Bool × Bool} {v:Vat} {t:Truth}
theorem rdi_rows {H:List Obj} {c:C} {l:List Int} (h:RdI H c l) (X:List Obj):sliceRows (H++X) c=some (l.map Row.row):=by
  cases h with
  | lst g=>exact sliceRows_Ls
  | sl o ver fr off len w hg hb=>
    rw [sliceRows_sl,getH_keep hg (by simp)]
    simp only [if_true]
    exact part_rows hb
structure XS where
  first:Bool
  last:List Int
  most:List Int
  least:List Int
  ab:List Truth
  be:List Truth
def updS (f:Bool) (b:List Int) (t:Truth) (x:XS) (d:Nat):XS:=
  let y:=if (f||decide (b.getD d 0>x.most.getD d 0))=true then { x with most:=x.most.set d (b.getD d 0),ab:=x.ab.set d t } else x
  if (f||decide (b.getD d 0<y.least.getD d 0))=true then { y with least:=y.least.set d (b.getD d 0),be:=y.be.set d t } else y
def exStep (v:Vat) (x:XS) (t:Truth):XS × Bool:=if x.first=false∧bareL v t=x.last then (x,true) else ({ (List.range v.drift.length).foldl (updS x.first (bareL v t) t) x with first:=false,last:=bareL v t },true)
def XS0 : XS:=⟨true,List.replicate 8 0,List.replicate 8 0,List.replicate 8 0,List.replicate 8 ⟨0,0,[]⟩,List.replicate 8 ⟨0,0,[]⟩⟩
def extS (v:Vat):XS:=(foldY (exStep v) XS0 (truthsL v [])).1
def XC.rel (c:XC) (s:XS):Prop:=c.most=s.most∧c.least=s.least∧c.A.map (·.1)=s.ab∧c.B.map (·.1)=s.be
theorem upd_rel {f:Bool} {b:List Int} {q:TC} {x:XC} {s:XS} {d:Nat} (h:x.rel s):(updX f b q x d).rel (updS f b q.1 s d):=by
  obtain ⟨h1,h2,h3,h4⟩:=h
  obtain ⟨m,l,A,B⟩:=x
  obtain ⟨fi,la,m',l',ab,be⟩:=s
  simp only at h1 h2 h3 h4
  subst h1;subst h2;subst h3;subst h4
  unfold updX updS
  simp only
  by_cases c1:(f||decide (b.getD d 0>m.getD d 0))=true
  · simp only [if_pos c1]
    by_cases c2:(f||decide (b.getD d 0<l.getD d 0))=true
    · simp only [if_pos c2]
      exact ⟨rfl,rfl,by simp [List.map_set],by simp [List.map_set]⟩
    · simp only [if_neg c2]
      exact ⟨rfl,rfl,by simp [List.map_set],rfl⟩
  · simp only [if_neg c1]
    by_cases c2:(f||decide (b.getD d 0<l.getD d 0))=true
    · simp only [if_pos c2]
      exact ⟨rfl,rfl,rfl,by simp [List.map_set]⟩
    · simp only [if_neg c2]
      exact ⟨rfl,rfl,rfl,rfl⟩
theorem updK_rel {f:Bool} {b:List Int} {q:TC} {x:XC} {s:XS} (h:x.rel s):∀{k:Nat},(updK f b q x k).rel ((List.range k).foldl (updS f b q.1) s)
  | 0=>h
  | k+1=>by
    rw [updK_succ,List.range_succ,List.foldl_append]
    exact upd_rel (updK_rel h)
def XC.In (own:Nat→Prop) (H:List Obj) (x:XC):Prop:=∀p∈x.A++x.B,LstIn 1 own H p.2 p.1.drift
theorem XC.In.keep {own:Nat→Prop} {H H':List Obj} {x:XC} (h:x.In own H) (hk:Keep own H H'):x.In own H':=fun p hp=>(h p hp).keep hk
theorem updX_in {own:Nat→Prop} {H:List Obj} {f:Bool} {b:List Int} {q:TC} {x:XC} {d:Nat} (h:x.In own H) (hq:LstIn 1 own H q.2 q.1.drift):(updX f b q x d).In own H:=by
  have hs:∀{l:List TC},(∀p∈l,LstIn 1 own H p.2 p.1.drift)→∀p∈l.set d q,LstIn 1 own H p.2 p.1.drift:=fun {l} hl p hp=>by
    rcases List.mem_or_eq_of_mem_set hp with hp | rfl
    · exact hl p hp
    · exact hq
  have hA:∀p∈x.A,LstIn 1 own H p.2 p.1.drift:=fun p hp=>h p (by simp [hp])
  have hB:∀p∈x.B,LstIn 1 own H p.2 p.1.drift:=fun p hp=>h p (by simp [hp])
  unfold updX
  simp only
  intro p hp
  split at hp<;>split at hp<;>simp only [List.mem_append] at hp<;>rcases hp with hp | hp<;>first | exact hs hA p hp | exact hs hB p hp | exact hA p hp | exact hB p hp
theorem updK_in {own:Nat→Prop} {H:List Obj} {f:Bool} {b:List Int} {q:TC} {x:XC} (h:x.In own H) (hq:LstIn 1 own H q.2 q.1.drift):∀{k:Nat},(updK f b q x k).In own H
  | 0=>h
  | k+1=>by rw [updK_succ];exact updX_in (updK_in h hq) hq
theorem rdi_obj {H:List Obj} {c:C} {l:List Int} (h:RdI H c l) {x:Nat} (hx:H.length≤x):memN x c.obj=false∧disj c.obj [x]=true:=by
  cases h with
  | lst g=>rw [obj_L];exact ⟨rfl,rfl⟩
  | sl o ver fr off len w hg hb=>
    have:=lt_of_getH (h:=H) (o:=o) (by rw [hg];simp)
    have n1:¬x=o:=by omega
    have n2:¬o=x:=by omega
    simp only [memN,disj,C.obj,beqn_dec,n1,n2,decide_false,Bool.false_or,Bool.not_false,Bool.and_self,and_self]
def exAssign : ACode:=(.region 1 [] [
        ⟨(some 5),.alloc [(.int .i64 0),(.int .i64 0),.nils],none,0⟩,
        ⟨none,.store (some 3) (.tmp 5) (.tmp 11),none,1⟩])
def exBody : ACode:=(.block 1 (.seq (.region 1 [(0,4),(1,4),(2,4),(3,4),(0,6),(1,6),(2,6),(3,6),(4,6),(5,6)] [
          ⟨(some 13),.load none (.tmp 1),none,0⟩,
          ⟨(some 14),.nilchk (.tmp 13),none,0⟩,
          ⟨(some 15),.faddr 0 (.tmp 14),none,0⟩,
          ⟨(some 16),.load (some 12) (.tmp 15),none,0⟩,
          ⟨(some 17),.load (some 3) (.tmp 5),none,0⟩,
          ⟨(some 18),.call 141 true [(.tmp 16),(.tmp 17)],none,0⟩,
          ⟨(some 6),.alloc [(.int .i64 0),(.int .i64 0),(.int .i64 0),(.int .i64 0),(.int .i64 0),(.int .i64 0),(.int .i64 0),(.int .i64 0)],none,0⟩,
          ⟨none,.store (some 8) (.tmp 6) (.tmp 18),none,1⟩])
        (.seq (.seq (.region 0 [] [
          ⟨(some 19),.load none (.tmp 3),none,0⟩,
          ⟨(some 20),.not (.tmp 19),none,0⟩,
          ⟨(some 21),.mov (.tmp 20),none,0⟩,
          ⟨(some 22),.load (some 8) (.tmp 6),some (21,true),0⟩,
          ⟨(some 23),.load (some 8) (.tmp 4),some (21,true),0⟩,
          ⟨(some 24),.eqA false [(some .i64),(some .i64),(some .i64),(some .i64),(some .i64),(some .i64),(some .i64),(some .i64)] (.tmp 22) (.tmp 23),some (21,true),0⟩,
          ⟨(some 25),.pick (.tmp 21) (.tmp 24) (.cst (.c (.bool false))),none,0⟩])
        (.cond (.tmp 25)
          (.exit 1)
          .skip))
        (.seq (.region 2 [(0,2),(1,2),(0,3),(1,3),(0,4),(1,4),(2,4),(3,4),(0,5),(1,5),(2,5),(3,5),(0,6),(1,6),(2,6),(3,6),(0,8),(1,8),(2,8),(3,8),(4,8),(5,8),(6,8),(7,8)] [
          ⟨(some 26),.faddr 0 (.tmp 5),none,0⟩,
          ⟨(some 27),.load none (.tmp 26),none,0⟩,
          ⟨(some 28),.faddr 1 (.tmp 5),none,0⟩,
          ⟨(some 29),.load none (.tmp 28),none,0⟩,
          ⟨(some 30),.faddr 2 (.tmp 5),none,0⟩,
          ⟨(some 31),.load none (.tmp 30),none,0⟩,
          ⟨(some 32),.clone 115 1 8 (.tmp 31),none,0⟩,
          ⟨(some 33),.build [(.int .i64 0),(.int .i64 0),.nils] [(0,1,(.tmp 27)),(1,1,(.tmp 29)),(2,1,(.tmp 32))],none,1⟩,
          ⟨(some 7),.alloc [(.int .i64 0),(.int .i64 0),.nils],none,1⟩,
          ⟨none,.store (some 3) (.tmp 7) (.tmp 33),none,2⟩])
        (.seq (.seq (.region 0 [] [
          ⟨(some 34),.load none (.tmp 1),none,0⟩,
          ⟨(some 35),.nilchk (.tmp 34),none,0⟩,
          ⟨(some 36),.faddr 0 (.tmp 35),none,0⟩,
          ⟨(some 37),.load (some 12) (.tmp 36),none,0⟩,
          ⟨(some 38),.call 79 true [(.tmp 37)],none,0⟩,
          ⟨(some 39),.mov (.cst (.c (.int .i64 0))),none,0⟩])
        (.block 2 (.loop ⟨[8,40,41,42,43,44,45,46,47,48,49,50,51,52,53,54,55,56,57,58,59,60,61,62,63,64,65,66,67,68,69,70,71,72,73,74,75,76,77,78,79,80,81,82,83,84],false,[]⟩
            (.seq (.region 0 [] [
              ⟨(some 40),.bin .lss (.tmp 39) (.tmp 38),none,0⟩])
            (.seq (.cond (.tmp 40)
              .skip
              (.exit 2))
            (.seq (.block 3 (.seq (.region 0 [] [
                ⟨(some 41),.mov (.tmp 39),none,0⟩,
                ⟨(some 8),.mov (.tmp 41),none,0⟩])
              (.seq (.seq (.region 0 [(2,5),(3,5),(4,5),(2,6),(3,6),(4,6),(5,6),(2,7),(3,7),(4,7),(2,8),(3,8),(4,8)] [
                ⟨(some 42),.load none (.tmp 3),none,0⟩,
                ⟨(some 43),.mov (.tmp 42),none,0⟩,
                ⟨(some 44),.mov (.tmp 8),some (43,false),0⟩,
                ⟨(some 45),.iaddrA 8 1 (.tmp 6) (.tmp 44),some (43,false),0⟩,
                ⟨(some 46),.load none (.tmp 45),some (43,false),0⟩,
                ⟨(some 47),.mov (.tmp 8),some (43,false),0⟩,
                ⟨(some 48),.faddr 0 (.tmp 2),some (43,false),0⟩,
                ⟨(some 49),.iaddrA 8 1 (.tmp 48) (.tmp 47),some (43,false),0⟩,
                ⟨(some 50),.load none (.tmp 49),some (43,false),0⟩,
                ⟨(some 51),.bin .gtr (.tmp 46) (.tmp 50),some (43,false),0⟩,
                ⟨(some 52),.pick (.tmp 43) (.cst (.c (.bool true))) (.tmp 51),none,0⟩])
              (.cond (.tmp 52)
                (.region 0 [(0,1),(0,2),(1,2),(0,3),(1,3),(0,4),(1,4),(0,5),(1,5),(2,5),(3,5),(4,5),(0,6),(1,6),(2,6),(3,6),(4,6),(5,6),(1,7),(5,7),(1,8),(5,8),(0,9),(1,9),(2,9),(3,9),(4,9),(5,9),(6,9),(7,9),(8,9)] [
                  ⟨(some 53),.mov (.tmp 8),none,0⟩,
                  ⟨(some 54),.mov (.tmp 8),none,0⟩,
                  ⟨(some 55),.mov (.tmp 8),none,0⟩,
                  ⟨(some 56),.iaddrA 8 1 (.tmp 6) (.tmp 55),none,0⟩,
                  ⟨(some 57),.load none (.tmp 56),none,0⟩,
                  ⟨(some 58),.load (some 3) (.tmp 7),none,0⟩,
                  ⟨(some 59),.faddr 0 (.tmp 2),none,0⟩,
                  ⟨(some 60),.iaddrA 8 1 (.tmp 59) (.tmp 53),none,0⟩,
                  ⟨none,.store none (.tmp 60) (.tmp 57),none,0⟩,
                  ⟨(some 61),.faddr 16 (.tmp 2),none,0⟩,
                  ⟨(some 62),.iaddrA 8 3 (.tmp 61) (.tmp 54),none,0⟩,
                  ⟨none,.store (some 3) (.tmp 62) (.tmp 58),none,0⟩])
                .skip))
              (.seq (.region 0 [(2,5),(3,5),(4,5),(2,6),(3,6),(4,6),(5,6),(2,7),(3,7),(4,7),(2,8),(3,8),(4,8)] [
                ⟨(some 63),.load none (.tmp 3),none,0⟩,
                ⟨(some 64),.mov (.tmp 63),none,0⟩,
                ⟨(some 65),.mov (.tmp 8),some (64,false),0⟩,
                ⟨(some 66),.iaddrA 8 1 (.tmp 6) (.tmp 65),some (64,false),0⟩,
                ⟨(some 67),.load none (.tmp 66),some (64,false),0⟩,
                ⟨(some 68),.mov (.tmp 8),some (64,false),0⟩,
                ⟨(some 69),.faddr 8 (.tmp 2),some (64,false),0⟩,
                ⟨(some 70),.iaddrA 8 1 (.tmp 69) (.tmp 68),some (64,false),0⟩,
                ⟨(some 71),.load none (.tmp 70),some (64,false),0⟩,
                ⟨(some 72),.bin .lss (.tmp 67) (.tmp 71),some (64,false),0⟩,
                ⟨(some 73),.pick (.tmp 64) (.cst (.c (.bool true))) (.tmp 72),none,0⟩])
              (.cond (.tmp 73)
                (.region 0 [(0,1),(0,2),(1,2),(0,3),(1,3),(0,4),(1,4),(0,5),(1,5),(2,5),(3,5),(4,5),(0,6),(1,6),(2,6),(3,6),(4,6),(5,6),(1,7),(5,7),(1,8),(5,8),(0,9),(1,9),(2,9),(3,9),(4,9),(5,9),(6,9),(7,9),(8,9)] [
                  ⟨(some 74),.mov (.tmp 8),none,0⟩,
                  ⟨(some 75),.mov (.tmp 8),none,0⟩,
                  ⟨(some 76),.mov (.tmp 8),none,0⟩,
                  ⟨(some 77),.iaddrA 8 1 (.tmp 6) (.tmp 76),none,0⟩,
                  ⟨(some 78),.load none (.tmp 77),none,0⟩,
                  ⟨(some 79),.load (some 3) (.tmp 7),none,0⟩,
                  ⟨(some 80),.faddr 8 (.tmp 2),none,0⟩,
                  ⟨(some 81),.iaddrA 8 1 (.tmp 80) (.tmp 74),none,0⟩,
                  ⟨none,.store none (.tmp 81) (.tmp 78),none,0⟩,
                  ⟨(some 82),.faddr 40 (.tmp 2),none,0⟩,
                  ⟨(some 83),.iaddrA 8 3 (.tmp 82) (.tmp 75),none,0⟩,
                  ⟨none,.store (some 3) (.tmp 83) (.tmp 79),none,0⟩])
                .skip)))))
            (.region 0 [] [
              ⟨(some 84),.bin .add (.tmp 39) (.cst (.c (.int .i64 1))),none,0⟩,
              ⟨(some 39),.mov (.tmp 84),none,0⟩])))))))
        (.region 0 [(0,1)] [
          ⟨(some 85),.load (some 8) (.tmp 6),none,0⟩,
          ⟨none,.store none (.tmp 3) (.cst (.c (.bool false))),none,0⟩,
          ⟨none,.store (some 8) (.tmp 4) (.tmp 85),none,0⟩]))))))
abbrev exOwn (n:Nat) (o:Nat):Prop:=o=n+1∨o=n+2∨o=n+3∨o=n+6
structure exR (g1 g2 g3 g4:Bool × Bool) (v:Vat) (wo mo n:Nat) (lp:ALoop) (s:XS) (H:List Obj):Prop where
  wi:WInv g1 g2 g3 g4 v wo mo H
  wb:getH H n = .cells [.ptr wo 0]
  x:∃c:XC,c.Ok∧c.rel s∧c.In (fun o=>exOwn n o∨o=mo∨(n+7≤o∧o<n+14)) H∧getH H (n+1) = .cells c.cells
  fi:getH H (n+2) = .cells [.bool s.first]
  la:getH H (n+3) = .cells (s.last.map intC)
  ll:s.last.length=8
  lp:getH H (n+6) = .loop lp
theorem bareL_len : (bareL v t).length=8:=bareK_len
theorem ex_yield (hv:v.Valid) {wo mo n:Nat} (hwo:wo<n) (hmo:mo<n) (nwm:wo≠mo) {RS:XS→List Obj→Prop} {v0 v5 v6 v7 v8 v9 v10 v11 v12:V} {lp:ALoop}
    (hlp:lp=⟨.ready,.normal,[v0,.c (.ptr n 0),.c (.ptr (n+1) 0),.c (.ptr (n+2) 0),.c (.ptr (n+3) 0),v5,v6,v7,v8,v9,v10,v11,v12]++List.replicate 74 (.c .any),[11,12],exAssign,exBody⟩) :
    TYield v (n+14) (fun _ _=>True) (exOwn n) (.yld (n+6)) (exR g1 g2 g3 g4 v wo mo n lp) RS (exStep v):=by
  intro s H t c1 so ver hlen _ hIs r1 hso hge hR
  rw [CallV_y]
  have l6:=lt_of_getH (h:=H) (o:=n+6) (by rw [hR.lp];simp)
  refine Fn_y hR.lp (by rw [hlp];rfl) ?_
  rw [show lp.assign=exAssign by rw [hlp],show lp.params=[11,12] by rw [hlp],show lp.slots=_ by rw [hlp]]
  have kn:=r1.kn []
  have kn3:known [.int .i64 t.start,.int .i64 t.blue,c1]=true:=kn
  have k0:n<H.length:=by omega
  have k1:n+1<H.length:=by omega
  have k2:n+2<H.length:=by omega
  have k3:n+3<H.length:=by omega
  have k4:n+6<H.length:=by omega
  have k5:wo<H.length:=by omega
  have k6:mo<H.length:=by omega
  simp only [go_sem,exAssign,setParams,assignX,hR.lp,kn,getH_left,setH_left,k0,k1,k2,k3,k4,k5,k6]
  refine ⟨lp,rfl,by rw [hlp],rfl,?_⟩
  generalize hlb:ALoop.mk .busy _ _ _ _ _=lb
  rw [show lp.body=exBody by rw [hlp]]
  have hlb1:∀l:ALoop,Obj.loop lb = .loop l→({ l with state:=.ready,pending:=.normal }:ALoop)=lp:=fun l h=>by cases h;rw [←hlb,hlp]
  clear hlb
  have hq:=hlb1 lb rfl
  obtain ⟨H1,hH1⟩:∃H1,H1=setH H (n+6) (.loop lb):=⟨_,rfl⟩
  rw [←hH1]
  have len:H1.length=H.length:=by rw [hH1,length_setH]
  have g:∀o,o≠n+6→getH H1 o=getH H o:=fun o ho=>by rw [hH1,getH_setH,if_neg (fun h=>ho h.1)]
  have ew:=(g wo (by omega)).trans hR.wi.w
  have e0:=(g n (by omega)).trans hR.wb
  obtain ⟨x,hxo,hxr,hxi,ex⟩:=hR.x
  have e1:=(g (n+1) (by omega)).trans ex
  have e2:=(g (n+2) (by omega)).trans hR.fi
  have e3:=(g (n+3) (by omega)).trans hR.la
  have e6:getH H1 (n+6) = .loop lb:=by rw [hH1,getH_setH,if_pos ⟨rfl,l6⟩]
  have harr:∀fr ver rows,getH H (n+6) ≠ .arr fr ver 1 rows:=fun _ _ _ h=>by rw [hR.lp] at h;cases h
  have r2:RdI H1 c1 t.drift:=by rw [hH1];exact r1.set harr
  obtain ⟨ga,hga⟩:=r2.arg
  have bl:=bareL_len (v:=v) (t:=t)
  have x1:=splice_all8 (xs:=(bareL v t).map intC) (l:=(List.replicate 8 (0:Int)).map intC) (by simp [bl]) (by simp)
  rw [List.map_replicate] at x1
  simp only [List.replicate_succ,List.replicate_zero] at x1
  have x2:takeN 8 ((bareL v t).map intC)=some ((bareL v t).map intC):=part_ints bl
  have hB:=fun {g1 g2 g3 g4 gt:Bool × Bool} {Q:V→Prop}=>cbare (g1:=g1) (g2:=g2) (g3:=g3) (g4:=g4) (gt:=gt) hv hIs (Q:=Q)
  simp only [vatV,truthG] at hB
  rw [←len]
  have m0:n<H1.length:=by omega
  have m1:n+1<H1.length:=by omega
  have m2:n+2<H1.length:=by omega
  have m3:n+3<H1.length:=by omega
  have m4:n+6<H1.length:=by omega
  have m5:wo<H1.length:=by omega
  have m6:mo<H1.length:=by omega
  have z0:¬n=H1.length:=by omega
  have z1:¬H1.length=n:=by omega
  have z2:¬n=H1.length+1:=by omega
  have z3:¬H1.length+1=n:=by omega
  have z4:¬n=H1.length+2:=by omega
  have z5:¬H1.length+2=n:=by omega
  have z6:¬n=H1.length+3:=by omega
  have z7:¬H1.length+3=n:=by omega
  have z8:¬n+1=H1.length:=by omega
  have z9:¬H1.length=n+1:=by omega
  have z10:¬n+1=H1.length+1:=by omega
  have z11:¬H1.length+1=n+1:=by omega
  have z12:¬n+1=H1.length+2:=by omega
  have z13:¬H1.length+2=n+1:=by omega
  have z14:¬n+1=H1.length+3:=by omega
  have z15:¬H1.length+3=n+1:=by omega
  have z16:¬n+2=H1.length:=by omega
  have z17:¬H1.length=n+2:=by omega
  have z18:¬n+2=H1.length+1:=by omega
  have z19:¬H1.length+1=n+2:=by omega
  have z20:¬n+2=H1.length+2:=by omega
  have z21:¬H1.length+2=n+2:=by omega
  have z22:¬n+2=H1.length+3:=by omega
  have z23:¬H1.length+3=n+2:=by omega
  have z24:¬n+3=H1.length:=by omega
  have z25:¬H1.length=n+3:=by omega
  have z26:¬n+3=H1.length+1:=by omega
  have z27:¬H1.length+1=n+3:=by omega
  have z28:¬n+3=H1.length+2:=by omega
  have z29:¬H1.length+2=n+3:=by omega
  have z30:¬n+3=H1.length+3:=by omega
  have z31:¬H1.length+3=n+3:=by omega
  have z32:¬n+6=H1.length:=by omega
  have z33:¬H1.length=n+6:=by omega
  have z34:¬n+6=H1.length+1:=by omega
  have z35:¬H1.length+1=n+6:=by omega
  have z36:¬n+6=H1.length+2:=by omega
  have z37:¬H1.length+2=n+6:=by omega
  have z38:¬n+6=H1.length+3:=by omega
  have z39:¬H1.length+3=n+6:=by omega
  have z40:¬wo=H1.length:=by omega
  have z41:¬H1.length=wo:=by omega
  have z42:¬wo=H1.length+1:=by omega
  have z43:¬H1.length+1=wo:=by omega
  have z44:¬wo=H1.length+2:=by omega
  have z45:¬H1.length+2=wo:=by omega
  have z46:¬wo=H1.length+3:=by omega
  have z47:¬H1.length+3=wo:=by omega
  have dj0:=(rdi_obj r2 (x:=H1.length) (by omega)).2
  have dj1:=(rdi_obj r2 (x:=H1.length+1) (by omega)).2
  have dj2:=(rdi_obj r2 (x:=H1.length+2) (by omega)).2
  have dj3:=(rdi_obj r2 (x:=H1.length+3) (by omega)).2
  have x3:takeN 8 (s.last.map intC)=some (s.last.map intC):=part_ints hR.ll
  have x4:=splice_all8 (xs:=(bareL v t).map intC) (l:=s.last.map intC) (by simp [bl]) (by simp [hR.ll])
  have x5:=eqCs_ints bl hR.ll
  have hll:=hR.ll
  simp only [List.replicate_succ,List.replicate_zero] at x5
  have v1:=hv.drift
  have v4:=hv.last7
  have v5:=hv.last0
  have y1:t.drift.length*8≤2^40:=by have:=hIs.dl;omega
  have rr:=rdi_rows r2
  obtain ⟨b,hb⟩:∃b,b=bareL v t:=⟨_,rfl⟩
  rw [←hb] at hB bl x1 x2 x4 x5
  -- behind a truth that is looked at
  obtain ⟨q,hq0⟩:∃q:TC,q=(t,.sl (H1.length+2) 0 0 t.drift.length):=⟨_,rfl⟩
  obtain ⟨Hs,hHs⟩:∃Hs,Hs=H1++[.cells [.int .i64 t.start,.int .i64 t.blue,c1],.cells (b.map intC),.arr false 0 1 (t.drift.map Row.row),.cells [.int .i64 t.start,.int .i64 t.blue,.sl (H1.length+2) 0 0 t.drift.length]]:=⟨_,rfl⟩
  have lHs:Hs.length=H1.length+4:=by rw [hHs];simp
  have s1:getH Hs (n+1) = .cells x.cells:=by rw [hHs];exact getH_keep e1 (by simp)
  have fin:∀(Hx:List Obj) (s':XS),exStep v s t=(s',true)→H1.length≤Hx.length→(∀o,o<H1.length→¬exOwn n o→getH Hx o=getH H1 o)→(∃c:XC,c.Ok∧c.rel s'∧c.In (fun o=>exOwn n o∨o=mo∨(n+7≤o∧o<n+14)) Hx∧getH Hx (n+1) = .cells c.cells)→getH Hx (n+2) = .cells [.bool s'.first]→getH Hx (n+3) = .cells (s'.last.map intC)→s'.last.length=8→yQ (exOwn n) H (exR g1 g2 g3 g4 v wo mo n lp) RS (exStep v s t) (.c (.bool true)) (setH Hx (n+6) (.loop lp)):=by
    intro Hx s' hs' hl hg hx hf hla hl8
    have hK:Keep (exOwn n) H Hx:=⟨by omega,fun o ho hlo=>by rw [hg o (by omega) ho];simp only [exOwn,not_or] at ho;exact g o ho.2.2.2⟩
    have hK2:Keep (exOwn n) H (setH Hx (n+6) (.loop lp)):=hK.trans (setK (.inr (.inr (.inr rfl))))
    rw [hs']
    obtain ⟨c,c1,c2,c3,c4⟩:=hx
    refine yQ_true rfl hK2 ⟨hR.wi.keep hK2 (by simp only [exOwn];omega) (hR.wi.m.keep hK2 (by simp only [exOwn];omega)),hK2.get (by simp only [exOwn];omega) hR.wb (by simp),⟨c,c1,c2,c3.keep (setK (.inl (.inr (.inr (.inr rfl))))),by rw [getH_setH,if_neg (by omega)];exact c4⟩,by rw [getH_setH,if_neg (by omega)];exact hf,by rw [getH_setH,if_neg (by omega)];exact hla,hl8,by rw [getH_setH,if_pos ⟨rfl,by omega⟩]⟩
  have hfr:∀f,s.first=f→¬(f=false∧b=s.last)→exStep v s t=({ (List.range v.drift.length).foldl (updS f b t) s with first:=false,last:=b },true):=fun f h1 h2=>by
    subst h1
    rw [exStep,←hb,if_neg h2]
  cases hfi:s.first with
  | true=>
    rw [hfi] at e2
    simp only [go_sem,exBody,getH_left,setH_left,getH_setH,length_setH,getH_atL,getH_atL0,setH_atL,setH_atL0,isHole_atL,isHole_atL0,disj_nil,m0,m1,m2,m3,m4,m5,m6,z0,z1,z2,z3,z4,z5,z6,z7,z8,z9,z10,z11,z12,z13,z14,z15,z16,z17,z18,z19,z20,z21,z22,z23,z24,z25,z26,z27,z28,z29,z30,z31,z32,z33,z34,z35,z36,z37,z38,z39,z40,z41,z42,z43,z44,z45,z46,z47,ew,e0,e1,e2,e3,kn,hga,hB,bl,x1,x2,hfi,dj0,dj1,dj2,dj3,rr,y1,cdays' hv]
    rw [←hHs]
    have l0:Hs=setH Hs (n+1) (.cells (updK true b q x 0).cells):=(setH_same s1 (by simp)).symm
    refine RX_for v.drift.length (fun k=>[(39,.c (.int .i64 k))]) (fun k=>setH Hs (n+1) (.cells (updK true b q x k).cells)) (fun _=>True) trivial (by simp only [go_sem,←l0]<;>rfl) ?_
    intro k hk _
    have yo0:=updK_ok (f:=true) (b:=b) (q:=q) hxo (k:=k)
    have hnx:=updK_succ (f:=true) (b:=b) (q:=q) (x:=x) (k:=k)
    by_cases hlt:k<v.drift.length
    · have k8:k<8:=by omega
      have k8':(k:Int)<8:=by omega
      have k0:(0:Int)≤k:=by omega
      have hlt':(k:Int)<(v.drift.length:Nat):=by omega
      have e4:IntKind.i64.wrap ((k:Int)+1)=((k+1:Nat):Int):=wrap_succ (n:=3000) (by omega) (by decide)
      have pb:=takeN_ints1 (l:=b) (i:=k) (by omega)
      have hbd:b.getD k default=b.getD k 0:=rfl
      rw [hbd] at pb
      generalize updK true b q x k=y at yo0 hnx
      have hmd:y.most.getD k default=y.most.getD k 0:=rfl
      have hld:y.least.getD k default=y.least.getD k 0:=rfl
      obtain ⟨Hk,hHk⟩:∃Hk,Hk=setH Hs (n+1) (.cells y.cells):=⟨_,rfl⟩
      have lHk:Hk.length=Hs.length:=by rw [hHk,length_setH]
      have f1:getH Hk (n+1) = .cells y.cells:=by rw [hHk,getH_setH,if_pos ⟨rfl,by omega⟩]
      have gk:∀o,o≠n+1→getH Hk o=getH Hs o:=fun o ho=>by rw [hHk,getH_setH,if_neg (fun e=>ho e.1)]
      have f2:getH Hk (n+2) = .cells [.bool true]:=by rw [gk _ (by omega),hHs,getH_keep e2 (by simp)]
      have f3:getH Hk (H1.length+1) = .cells (b.map intC):=by rw [gk _ (by omega),hHs];simp only [go_sem]
      have f4:getH Hk (H1.length+3) = .cells [.int .i64 t.start,.int .i64 t.blue,.sl (H1.length+2) 0 0 t.drift.length]:=by rw [gk _ (by omega),hHs];simp only [go_sem]
      have hset:∀X,setH Hk (n+1) X=setH Hs (n+1) X:=fun X=>by rw [hHk,setH_twice]
      have j1:n+1<Hk.length:=by omega
      have u1:¬n+2=n+1:=by omega
      have u2:¬H1.length+1=n+1:=by omega
      have u3:¬H1.length+3=n+1:=by omega
      rw [←hHk]
      obtain ⟨ya,hya⟩:∃ya:XC,ya={ y with most:=y.most.set k (b.getD k 0) }:=⟨_,rfl⟩
      have sM:=yo0.sM k8 (n:=b.getD k 0)
      rw [←hya] at sM
      have yao:ya.Ok:=by rw [hya];exact ⟨by simp [yo0.m],yo0.l,yo0.a,yo0.b⟩
      obtain ⟨yb,hyb⟩:∃yb:XC,yb={ ya with A:=ya.A.set k q }:=⟨_,rfl⟩
      have sA:=yao.sA k8 (c:=.sl (H1.length+2) 0 0 t.drift.length) (q:=t) rfl rfl
      rw [←hq0,←hyb] at sA
      have ybo:yb.Ok:=by rw [hyb];exact ⟨yao.m,yao.l,by simp [yao.a],yao.b⟩
      have ppM:=yo0.pM k8
      obtain ⟨yc,hyc⟩:∃yc:XC,yc={ yb with least:=yb.least.set k (b.getD k 0) }:=⟨_,rfl⟩
      have sL:=ybo.sL k8 (n:=b.getD k 0)
      rw [←hyc] at sL
      have yco:yc.Ok:=by rw [hyc];exact ⟨ybo.m,by simp [ybo.l],ybo.a,ybo.b⟩
      obtain ⟨yd,hyd⟩:∃yd:XC,yd={ yc with B:=yc.B.set k q }:=⟨_,rfl⟩
      have sB:=yco.sB k8 (c:=.sl (H1.length+2) 0 0 t.drift.length) (q:=t) rfl rfl
      rw [←hq0,←hyd] at sB
      have ppL:=ybo.pL k8
      have hzl:yb.least.getD k default=yb.least.getD k 0:=rfl
      rw [hzl] at ppL
      have hst:updK true b q x (k+1)=yd:=by rw [hnx,updX,if_pos (by simp),if_pos (by simp),hyd,hyc,hyb,hya]
      simp only [go_sem,hlt',k8',k0,f1,f2,f3,f4,pb,sM,sA,sL,sB,ppM,hmd,ppL,getH_setH,length_setH,setH_twice,j1,u1,u2,u3,false_and,disj_nil,gt_iff_lt,e4,hst,hlt]
      exact hset _
    · have:k=v.drift.length:=by omega
      subst this
      have hlt':¬(v.drift.length:Int)<(v.drift.length:Nat):=by omega
      obtain ⟨Hk,hHk⟩:∃Hk,Hk=setH Hs (n+1) (.cells (updK true b q x v.drift.length).cells):=⟨_,rfl⟩
      have lHk:Hk.length=Hs.length:=by rw [hHk,length_setH]
      have f1:getH Hk (n+1) = .cells (updK true b q x v.drift.length).cells:=by rw [hHk,getH_setH,if_pos ⟨rfl,by omega⟩]
      have gk:∀o,o≠n+1→getH Hk o=getH Hs o:=fun o ho=>by rw [hHk,getH_setH,if_neg (fun e=>ho e.1)]
      have f2:getH Hk (n+2) = .cells [.bool true]:=by rw [gk _ (by omega),hHs,getH_keep e2 (by simp)]
      have f3:getH Hk (H1.length+1) = .cells (b.map intC):=by rw [gk _ (by omega),hHs];simp only [go_sem]
      have f5:getH Hk (n+3) = .cells (s.last.map intC):=by rw [gk _ (by omega),hHs,getH_keep e3 (by simp)]
      have f6:getH Hk (n+6) = .loop lb:=by rw [gk _ (by omega),hHs,getH_keep e6 (by simp)]
      have i0:n+1<Hk.length:=by omega
      have i1:n+2<Hk.length:=by omega
      have i2:n+3<Hk.length:=by omega
      have i3:n+6<Hk.length:=by omega
      rw [←hHk]
      have u4:¬H1.length=n+1:=by omega
      have u5:¬n+1=H1.length:=by omega
      simp only [go_sem,hlt',u4,u5,getH_setH,length_setH,i0,i1,i2,i3,f2,f3,f5,f6,x2,bl,x4,disj_nil,false_and,bodyX]
      refine ⟨lb,rfl,?_⟩
      rw [hq]
      have hin:XC.In (fun o=>exOwn n o∨o=mo∨(n+7≤o∧o<n+14)) Hk x:=by
        refine hxi.keep ⟨by omega,fun o ho hlo=>?_⟩
        simp only [exOwn,not_or] at ho
        rw [gk o (by omega),hHs,getH_left (by omega),g o (by omega)]
      have hqi:LstIn 1 (fun o=>exOwn n o∨o=mo∨(n+7≤o∧o<n+14)) Hk q.2 q.1.drift:=by
        rw [hq0]
        exact .sl (H1.length+2) 0 false t.drift (by simp only [exOwn];omega) (by rw [gk _ (by omega),hHs];simp only [go_sem])
      refine fin _ _ (hfr true hfi (by simp)) (by simp [length_setH];omega) (fun o ho hno=>?_) ⟨updK true b q x v.drift.length,updK_ok hxo,?_,?_,?_⟩ ?_ ?_ bl
      · simp only [exOwn,not_or] at hno
        rw [getH_setH,if_neg (by omega),getH_setH,if_neg (by omega),gk o (by omega),hHs,getH_left (by omega)]
      · have:=updK_rel (f:=true) (b:=b) (q:=q) hxr (k:=v.drift.length)
        rw [hq0] at this ⊢
        exact this
      · exact ((updK_in hin hqi).keep (setK (.inl (.inr (.inl rfl))))).keep (setK (.inl (.inr (.inr (.inl rfl)))))
      · rw [getH_setH,if_neg (by omega),getH_setH,if_neg (by omega)];exact f1
      · rw [getH_setH,if_neg (by omega),getH_setH,if_pos ⟨rfl,by omega⟩]
      · rw [getH_setH,if_pos ⟨rfl,by rw [length_setH];omega⟩]
  | false=>
    rw [hfi] at e2
    by_cases hsk:b=s.last
    · have x6:=x5
      rw [decide_eq_true hsk] at x6
      simp only [go_sem,exBody,getH_left,setH_left,getH_setH,length_setH,getH_atL,getH_atL0,setH_atL,setH_atL0,isHole_atL,isHole_atL0,disj_nil,m0,m1,m2,m3,m4,m5,m6,z0,z1,z2,z3,z4,z5,z6,z7,z8,z9,z10,z11,z12,z13,z14,z15,z16,z17,z18,z19,z20,z21,z22,z23,z24,z25,z26,z27,z28,z29,z30,z31,z32,z33,z34,z35,z36,z37,z38,z39,z40,z41,z42,z43,z44,z45,z46,z47,ew,e0,e1,e2,e3,kn,hga,hB,bl,x1,x2,hfi,dj0,dj1,dj2,dj3,rr,y1,cdays' hv,x3,hll,x6,e6,bodyX]
      refine ⟨lb,rfl,?_⟩
      rw [hq,←setH_left m4]
      refine fin _ s (by rw [exStep,←hb,if_pos ⟨hfi,hsk⟩]) (by simp) (fun o ho _=>getH_left ho) ⟨x,hxo,hxr,?_,getH_keep e1 (by simp)⟩ (by rw [getH_keep e2 (by simp),hfi]) (getH_keep e3 (by simp)) hR.ll
      refine hxi.keep ⟨by simp;omega,fun o ho hlo=>?_⟩
      simp only [exOwn,not_or] at ho
      rw [getH_left (by omega),g o (by omega)]
    · simp only [go_sem,exBody,getH_left,setH_left,getH_setH,length_setH,getH_atL,getH_atL0,setH_atL,setH_atL0,isHole_atL,isHole_atL0,disj_nil,m0,m1,m2,m3,m4,m5,m6,z0,z1,z2,z3,z4,z5,z6,z7,z8,z9,z10,z11,z12,z13,z14,z15,z16,z17,z18,z19,z20,z21,z22,z23,z24,z25,z26,z27,z28,z29,z30,z31,z32,z33,z34,z35,z36,z37,z38,z39,z40,z41,z42,z43,z44,z45,z46,z47,ew,e0,e1,e2,e3,kn,hga,hB,bl,x1,x2,hfi,dj0,dj1,dj2,dj3,rr,y1,cdays' hv,x3,hll,x5,hsk]
      rw [←hHs]
      have l0:Hs=setH Hs (n+1) (.cells (updK false b q x 0).cells):=(setH_same s1 (by simp)).symm
      refine RX_for v.drift.length (fun k=>[(39,.c (.int .i64 k))]) (fun k=>setH Hs (n+1) (.cells (updK false b q x k).cells)) (fun _=>True) trivial (by simp only [go_sem,←l0]<;>rfl) ?_
      intro k hk _
      have yo0:=updK_ok (f:=false) (b:=b) (q:=q) hxo (k:=k)
      have hnx:=updK_succ (f:=false) (b:=b) (q:=q) (x:=x) (k:=k)
      by_cases hlt:k<v.drift.length
      · have k8:k<8:=by omega
        have k8':(k:Int)<8:=by omega
        have k0:(0:Int)≤k:=by omega
        have hlt':(k:Int)<(v.drift.length:Nat):=by omega
        have e4:IntKind.i64.wrap ((k:Int)+1)=((k+1:Nat):Int):=wrap_succ (n:=3000) (by omega) (by decide)
        have pb:=takeN_ints1 (l:=b) (i:=k) (by omega)
        have hbd:b.getD k default=b.getD k 0:=rfl
        rw [hbd] at pb
        generalize updK false b q x k=y at yo0 hnx
        have hmd:y.most.getD k default=y.most.getD k 0:=rfl
        have hld:y.least.getD k default=y.least.getD k 0:=rfl
        obtain ⟨Hk,hHk⟩:∃Hk,Hk=setH Hs (n+1) (.cells y.cells):=⟨_,rfl⟩
        have lHk:Hk.length=Hs.length:=by rw [hHk,length_setH]
        have f1:getH Hk (n+1) = .cells y.cells:=by rw [hHk,getH_setH,if_pos ⟨rfl,by omega⟩]
        have gk:∀o,o≠n+1→getH Hk o=getH Hs o:=fun o ho=>by rw [hHk,getH_setH,if_neg (fun e=>ho e.1)]
        have f2:getH Hk (n+2) = .cells [.bool false]:=by rw [gk _ (by omega),hHs,getH_keep e2 (by simp)]
        have f3:getH Hk (H1.length+1) = .cells (b.map intC):=by rw [gk _ (by omega),hHs];simp only [go_sem]
        have f4:getH Hk (H1.length+3) = .cells [.int .i64 t.start,.int .i64 t.blue,.sl (H1.length+2) 0 0 t.drift.length]:=by rw [gk _ (by omega),hHs];simp only [go_sem]
        have hset:∀X,setH Hk (n+1) X=setH Hs (n+1) X:=fun X=>by rw [hHk,setH_twice]
        have j1:n+1<Hk.length:=by omega
        have u1:¬n+2=n+1:=by omega
        have u2:¬H1.length+1=n+1:=by omega
        have u3:¬H1.length+3=n+1:=by omega
        rw [←hHk]
        obtain ⟨ya,hya⟩:∃ya:XC,ya={ y with most:=y.most.set k (b.getD k 0) }:=⟨_,rfl⟩
        have sM:=yo0.sM k8 (n:=b.getD k 0)
        rw [←hya] at sM
        have yao:ya.Ok:=by rw [hya];exact ⟨by simp [yo0.m],yo0.l,yo0.a,yo0.b⟩
        obtain ⟨yb,hyb⟩:∃yb:XC,yb={ ya with A:=ya.A.set k q }:=⟨_,rfl⟩
        have sA:=yao.sA k8 (c:=.sl (H1.length+2) 0 0 t.drift.length) (q:=t) rfl rfl
        rw [←hq0,←hyb] at sA
        have ybo:yb.Ok:=by rw [hyb];exact ⟨yao.m,yao.l,by simp [yao.a],yao.b⟩
        have ppM:=yo0.pM k8
        by_cases c1:b.getD k 0>y.most.getD k 0
        · have hyb':yb={ y with most:=y.most.set k (b.getD k 0),A:=y.A.set k q }:=by rw [hyb,hya]
          obtain ⟨yc,hyc⟩:∃yc:XC,yc={ yb with least:=yb.least.set k (b.getD k 0) }:=⟨_,rfl⟩
          have sL:=ybo.sL k8 (n:=b.getD k 0)
          rw [←hyc] at sL
          have yco:yc.Ok:=by rw [hyc];exact ⟨ybo.m,by simp [ybo.l],ybo.a,ybo.b⟩
          obtain ⟨yd,hyd⟩:∃yd:XC,yd={ yc with B:=yc.B.set k q }:=⟨_,rfl⟩
          have sB:=yco.sB k8 (c:=.sl (H1.length+2) 0 0 t.drift.length) (q:=t) rfl rfl
          rw [←hq0,←hyd] at sB
          have ppL:=ybo.pL k8
          have hzl:yb.least.getD k default=yb.least.getD k 0:=rfl
          rw [hzl] at ppL
          by_cases c2:b.getD k 0<yb.least.getD k 0
          · have hst:updK false b q x (k+1)=yd:=by
              rw [hnx,updX]
              simp only [Bool.false_or]
              rw [if_pos (decide_eq_true c1),←hyb']
              rw [if_pos (decide_eq_true c2),hyd,hyc]
            simp only [go_sem,hlt',k8',k0,f1,f2,f3,f4,pb,sM,sA,sL,sB,ppM,hmd,ppL,getH_setH,length_setH,setH_twice,j1,u1,u2,u3,false_and,disj_nil,gt_iff_lt,e4,c1,c2,hst,hlt]
            exact hset _
          · have hst:updK false b q x (k+1)=yb:=by
              rw [hnx,updX]
              simp only [Bool.false_or]
              rw [if_pos (decide_eq_true c1),←hyb']
              rw [if_neg (fun h=>c2 (of_decide_eq_true h))]
            simp only [go_sem,hlt',k8',k0,f1,f2,f3,f4,pb,sM,sA,sL,sB,ppM,hmd,ppL,getH_setH,length_setH,setH_twice,j1,u1,u2,u3,false_and,disj_nil,gt_iff_lt,e4,c1,c2,hst,hlt]
            first | exact hset _ | exact hHk
        · have c1':¬y.most.getD k 0<b.getD k 0:=c1
          obtain ⟨yc,hyc⟩:∃yc:XC,yc={ y with least:=y.least.set k (b.getD k 0) }:=⟨_,rfl⟩
          have sL:=yo0.sL k8 (n:=b.getD k 0)
          rw [←hyc] at sL
          have yco:yc.Ok:=by rw [hyc];exact ⟨yo0.m,by simp [yo0.l],yo0.a,yo0.b⟩
          obtain ⟨yd,hyd⟩:∃yd:XC,yd={ yc with B:=yc.B.set k q }:=⟨_,rfl⟩
          have sB:=yco.sB k8 (c:=.sl (H1.length+2) 0 0 t.drift.length) (q:=t) rfl rfl
          rw [←hq0,←hyd] at sB
          have ppL:=yo0.pL k8
          have hzl:y.least.getD k default=y.least.getD k 0:=rfl
          rw [hzl] at ppL
          by_cases c2:b.getD k 0<y.least.getD k 0
          · have hst:updK false b q x (k+1)=yd:=by
              rw [hnx,updX]
              simp only [Bool.false_or]
              rw [if_neg (fun h=>c1 (of_decide_eq_true h))]
              rw [if_pos (decide_eq_true c2),hyd,hyc]
            simp only [go_sem,hlt',k8',k0,f1,f2,f3,f4,pb,sM,sA,sL,sB,ppM,hmd,ppL,getH_setH,length_setH,setH_twice,j1,u1,u2,u3,false_and,disj_nil,gt_iff_lt,e4,c1',c2,hst,hlt]
            exact hset _
          · have hst:updK false b q x (k+1)=y:=by
              rw [hnx,updX]
              simp only [Bool.false_or]
              rw [if_neg (fun h=>c1 (of_decide_eq_true h))]
              rw [if_neg (fun h=>c2 (of_decide_eq_true h))]
            simp only [go_sem,hlt',k8',k0,f1,f2,f3,f4,pb,sM,sA,sL,sB,ppM,hmd,ppL,getH_setH,length_setH,setH_twice,j1,u1,u2,u3,false_and,disj_nil,gt_iff_lt,e4,c1',c2,hst,hlt]
            first | exact hset _ | exact hHk
      · have:k=v.drift.length:=by omega
        subst this
        have hlt':¬(v.drift.length:Int)<(v.drift.length:Nat):=by omega
        obtain ⟨Hk,hHk⟩:∃Hk,Hk=setH Hs (n+1) (.cells (updK false b q x v.drift.length).cells):=⟨_,rfl⟩
        have lHk:Hk.length=Hs.length:=by rw [hHk,length_setH]
        have f1:getH Hk (n+1) = .cells (updK false b q x v.drift.length).cells:=by rw [hHk,getH_setH,if_pos ⟨rfl,by omega⟩]
        have gk:∀o,o≠n+1→getH Hk o=getH Hs o:=fun o ho=>by rw [hHk,getH_setH,if_neg (fun e=>ho e.1)]
        have f2:getH Hk (n+2) = .cells [.bool false]:=by rw [gk _ (by omega),hHs,getH_keep e2 (by simp)]
        have f3:getH Hk (H1.length+1) = .cells (b.map intC):=by rw [gk _ (by omega),hHs];simp only [go_sem]
        have f5:getH Hk (n+3) = .cells (s.last.map intC):=by rw [gk _ (by omega),hHs,getH_keep e3 (by simp)]
        have f6:getH Hk (n+6) = .loop lb:=by rw [gk _ (by omega),hHs,getH_keep e6 (by simp)]
        have i0:n+1<Hk.length:=by omega
        have i1:n+2<Hk.length:=by omega
        have i2:n+3<Hk.length:=by omega
        have i3:n+6<Hk.length:=by omega
        rw [←hHk]
        have u4:¬H1.length=n+1:=by omega
        have u5:¬n+1=H1.length:=by omega
        simp only [go_sem,hlt',u4,u5,getH_setH,length_setH,i0,i1,i2,i3,f2,f3,f5,f6,x2,bl,x4,disj_nil,false_and,bodyX]
        refine ⟨lb,rfl,?_⟩
        rw [hq]
        have hin:XC.In (fun o=>exOwn n o∨o=mo∨(n+7≤o∧o<n+14)) Hk x:=by
          refine hxi.keep ⟨by omega,fun o ho hlo=>?_⟩
          simp only [exOwn,not_or] at ho
          rw [gk o (by omega),hHs,getH_left (by omega),g o (by omega)]
        have hqi:LstIn 1 (fun o=>exOwn n o∨o=mo∨(n+7≤o∧o<n+14)) Hk q.2 q.1.drift:=by
          rw [hq0]
          exact .sl (H1.length+2) 0 false t.drift (by simp only [exOwn];omega) (by rw [gk _ (by omega),hHs];simp only [go_sem])
        refine fin _ _ (hfr false hfi (by exact fun h=>hsk h.2)) (by simp [length_setH];omega) (fun o ho hno=>?_) ⟨updK false b q x v.drift.length,updK_ok hxo,?_,?_,?_⟩ ?_ ?_ bl
        · simp only [exOwn,not_or] at hno
          rw [getH_setH,if_neg (by omega),getH_setH,if_neg (by omega),gk o (by omega),hHs,getH_left (by omega)]
        · have:=updK_rel (f:=false) (b:=b) (q:=q) hxr (k:=v.drift.length)
          rw [hq0] at this ⊢
          exact this
        · exact ((updK_in hin hqi).keep (setK (.inl (.inr (.inl rfl))))).keep (setK (.inl (.inr (.inr (.inl rfl)))))
        · rw [getH_setH,if_neg (by omega),getH_setH,if_neg (by omega)];exact f1
        · rw [getH_setH,if_neg (by omega),getH_setH,if_pos ⟨rfl,by omega⟩]
        · rw [getH_setH,if_pos ⟨rfl,by rw [length_setH];omega⟩]
end Am.Vt
namespace Am.Vt
open Go Am
set_option maxRecDepth 100000
set_option maxHeartbeats 4000000
set_option linter.unusedSimpArgs false
set_option linter.unusedVariables false
variable {g1 g2 g3 g4 gt:Bool × Bool} {v:Vat} {t:Truth}
abbrev T0 : Truth:=⟨0,0,[]⟩
structure XS.Len (x:XS):Prop where
  m:x.most.length=8
  l:x.least.length=8
  a:x.ab.length=8
  b:x.be.length=8
theorem getD_set {α:Type} {l:List α} {k d:Nat} {a y:α} (hk:k<l.length):(l.set k a).getD d y=if d=k then a else l.getD d y:=by
  rw [List.getD_eq_getElem?_getD,List.getElem?_set,List.getD_eq_getElem?_getD]
  by_cases h:k=d
  · subst h;simp [hk]
  · rw [if_neg h,if_neg (fun e=>h e.symm)]
structure UpdOk (f:Bool) (b:List Int) (t:Truth) (x y:XS) (k:Nat):Prop where
  len:y.Len
  fi:y.first=x.first
  la:y.last=x.last
  m:∀d,d<8→(y.most.getD d 0=if d<k∧(f=true∨b.getD d 0>x.most.getD d 0) then b.getD d 0 else x.most.getD d 0)
  a:∀d,d<8→(y.ab.getD d T0=if d<k∧(f=true∨b.getD d 0>x.most.getD d 0) then t else x.ab.getD d T0)
  l:∀d,d<8→(y.least.getD d 0=if d<k∧(f=true∨b.getD d 0<x.least.getD d 0) then b.getD d 0 else x.least.getD d 0)
  b:∀d,d<8→(y.be.getD d T0=if d<k∧(f=true∨b.getD d 0<x.least.getD d 0) then t else x.be.getD d T0)
theorem updS_ok {f:Bool} {b:List Int} {x:XS} (hx:x.Len):∀{k:Nat},k≤8→UpdOk f b t x ((List.range k).foldl (updS f b t) x) k
  | 0,_=>⟨hx,rfl,rfl,fun d _=>by simp,fun d _=>by simp,fun d _=>by simp,fun d _=>by simp⟩
  | k+1,hk=>by
    have ih:=updS_ok (f:=f) (b:=b) hx (k:=k) (by omega)
    rw [List.range_succ,List.foldl_append,List.foldl_cons,List.foldl_nil]
    generalize (List.range k).foldl (updS f b t) x=y at ih
    obtain ⟨ihl,ihf,ihla,ihm,iha,ihle,ihb⟩:=ih
    have hmk:=ihm k (by omega)
    have hlk:=ihle k (by omega)
    rw [if_neg (by omega)] at hmk hlk
    have key:∀(P:Nat→Prop) [DecidablePred P] (α:Type) (u w:Nat→α) (d:Nat),(if d=k then (if P d then u d else w d) else if d<k∧P d then u d else w d)=if d<k+1∧P d then u d else w d:=by
      intro P _ α u w d
      by_cases hdk:d=k
      · subst hdk
        rw [if_pos rfl]
        by_cases hp:P d
        · rw [if_pos hp,if_pos ⟨by omega,hp⟩]
        · rw [if_neg hp,if_neg (fun h=>hp h.2)]
      · rw [if_neg hdk]
        by_cases h:d<k∧P d
        · rw [if_pos h,if_pos ⟨by omega,h.2⟩]
        · rw [if_neg h,if_neg (fun h'=>h ⟨by omega,h'.2⟩)]
    have hc1:((f||decide (b.getD k 0>y.most.getD k 0))=true)↔(f=true∨b.getD k 0>x.most.getD k 0):=by rw [Bool.or_eq_true,decide_eq_true_eq,hmk]
    have hc2:((f||decide (b.getD k 0<y.least.getD k 0))=true)↔(f=true∨b.getD k 0<x.least.getD k 0):=by rw [Bool.or_eq_true,decide_eq_true_eq,hlk]
    -- the two halves
    obtain ⟨z,hz⟩:∃z,z=(if (f||decide (b.getD k 0>y.most.getD k 0))=true then { y with most:=y.most.set k (b.getD k 0),ab:=y.ab.set k t } else y):=⟨_,rfl⟩
    have z1:z.least=y.least∧z.be=y.be∧z.first=y.first∧z.last=y.last:=by rw [hz];split<;>exact ⟨rfl,rfl,rfl,rfl⟩
    have zm:∀d,z.most.getD d 0=if d=k then (if f=true∨b.getD d 0>x.most.getD d 0 then b.getD d 0 else x.most.getD d 0) else y.most.getD d 0:=by
      intro d
      rw [hz]
      by_cases hdk:d=k
      · subst hdk
        rw [if_pos rfl]
        by_cases h:f=true∨b.getD d 0>x.most.getD d 0
        · rw [if_pos (hc1.2 h),if_pos h]
          exact (getD_set (by rw [ihl.m];omega)).trans (if_pos rfl)
        · rw [if_neg (fun h'=>h (hc1.1 h')),if_neg h,hmk]
      · rw [if_neg hdk]
        split
        · exact (getD_set (by rw [ihl.m];omega)).trans (if_neg hdk)
        · rfl
    have za:∀d,z.ab.getD d T0=if d=k then (if f=true∨b.getD d 0>x.most.getD d 0 then t else x.ab.getD d T0) else y.ab.getD d T0:=by
      intro d
      rw [hz]
      by_cases hdk:d=k
      · subst hdk
        rw [if_pos rfl]
        by_cases h:f=true∨b.getD d 0>x.most.getD d 0
        · rw [if_pos (hc1.2 h),if_pos h]
          exact (getD_set (by rw [ihl.a];omega)).trans (if_pos rfl)
        · rw [if_neg (fun h'=>h (hc1.1 h')),if_neg h,iha d (by omega),if_neg (by omega)]
      · rw [if_neg hdk]
        split
        · exact (getD_set (by rw [ihl.a];omega)).trans (if_neg hdk)
        · rfl
    have zl:z.Len:=by rw [hz];split<;>exact ⟨by simp [ihl.m],by simp [ihl.l],by simp [ihl.a],by simp [ihl.b]⟩
    have hw:updS f b t y k=(if (f||decide (b.getD k 0<z.least.getD k 0))=true then { z with least:=z.least.set k (b.getD k 0),be:=z.be.set k t } else z):=by rw [hz];rfl
    rw [z1.1] at hw
    rw [hw]
    refine ⟨by split<;>exact ⟨by simp [zl.m],by first | simp [ihl.l] | exact zl.l,by simp [zl.a],by first | simp [zl.b] | exact zl.b⟩,by split<;>exact z1.2.2.1.trans ihf,by split<;>exact z1.2.2.2.trans ihla,fun d hd=>?_,fun d hd=>?_,fun d hd=>?_,fun d hd=>?_⟩
    · have:(if (f||decide (b.getD k 0<y.least.getD k 0))=true then { z with least:=y.least.set k (b.getD k 0),be:=z.be.set k t } else z).most=z.most:=by split<;>rfl
      rw [this,zm,ihm d hd]
      exact key (fun d=>f=true∨b.getD d 0>x.most.getD d 0) Int (fun d=>b.getD d 0) (fun d=>x.most.getD d 0) d
    · have:(if (f||decide (b.getD k 0<y.least.getD k 0))=true then { z with least:=y.least.set k (b.getD k 0),be:=z.be.set k t } else z).ab=z.ab:=by split<;>rfl
      rw [this,za,iha d hd]
      exact key (fun d=>f=true∨b.getD d 0>x.most.getD d 0) Truth (fun _=>t) (fun d=>x.ab.getD d T0) d
    · rw [←key (fun d=>f=true∨b.getD d 0<x.least.getD d 0) Int (fun d=>b.getD d 0) (fun d=>x.least.getD d 0) d]
      by_cases hdk:d=k
      · subst hdk
        rw [if_pos rfl]
        by_cases h:f=true∨b.getD d 0<x.least.getD d 0
        · rw [if_pos (hc2.2 h),if_pos h]
          exact (getD_set (by rw [ihl.l];omega)).trans (if_pos rfl)
        · rw [if_neg (fun h'=>h (hc2.1 h')),if_neg h,z1.1,hlk]
      · rw [if_neg hdk,←ihle d hd]
        split
        · exact (getD_set (by rw [ihl.l];omega)).trans (if_neg hdk)
        · rw [z1.1]
    · rw [←key (fun d=>f=true∨b.getD d 0<x.least.getD d 0) Truth (fun _=>t) (fun d=>x.be.getD d T0) d]
      by_cases hdk:d=k
      · subst hdk
        rw [if_pos rfl]
        by_cases h:f=true∨b.getD d 0<x.least.getD d 0
        · rw [if_pos (hc2.2 h),if_pos h]
          exact (getD_set (by rw [zl.b];omega)).trans (if_pos rfl)
        · rw [if_neg (fun h'=>h (hc2.1 h')),if_neg h,z1.2.1,ihb d (by omega),if_neg (by omega)]
      · rw [if_neg hdk,←ihb d hd]
        split
        · exact (getD_set (by rw [zl.b];omega)).trans ((if_neg hdk).trans (by rw [z1.2.1]))
        · rw [z1.2.1]
structure ExtOk (v:Vat) (ts:List Truth) (x:XS):Prop where
  len:x.Len
  ma:∀d,d<v.drift.length→x.ab.getD d T0∈ts∧x.most.getD d 0=bareS (x.ab.getD d T0) (d+1)
  mm:∀d,d<v.drift.length→∀t∈ts,bareS t (d+1)≤x.most.getD d 0
  la:∀d,d<v.drift.length→x.be.getD d T0∈ts∧x.least.getD d 0=bareS (x.be.getD d T0) (d+1)
  lm:∀d,d<v.drift.length→∀t∈ts,x.least.getD d 0≤bareS t (d+1)
structure ExtI (v:Vat) (ts:List Truth) (x:XS):Prop where
  ok:ExtOk v ts x
  fi:x.first=false
  la:∃t∈ts,x.last=bareL v t
theorem ext_step (hv:v.Valid) {ts:List Truth} {x:XS} (hx:ExtI v ts x):ExtI v (ts++[t]) (exStep v x t).1:=by
  have v1:=hv.drift
  have v4:=hv.last7
  obtain ⟨⟨hl,h1,h2,h3,h4⟩,hf,u,hu,hul⟩:=hx
  unfold exStep
  by_cases hs:x.first=false∧bareL v t=x.last
  · rw [if_pos hs]
    have hb:∀d,d<v.drift.length→bareS t (d+1)=bareS u (d+1):=fun d hd=>by rw [←bareL_get hv hd,←bareL_get hv hd,hs.2,hul]
    refine ⟨⟨hl,fun d hd=>⟨List.mem_append_left _ (h1 d hd).1,(h1 d hd).2⟩,fun d hd t' ht'=>?_,fun d hd=>⟨List.mem_append_left _ (h3 d hd).1,(h3 d hd).2⟩,fun d hd t' ht'=>?_⟩,hf,u,by simp [hu],hul⟩
    · rcases List.mem_append.1 ht' with ht' | ht'
      · exact h2 d hd t' ht'
      · rw [List.mem_singleton.1 ht',hb d hd];exact h2 d hd u hu
    · rcases List.mem_append.1 ht' with ht' | ht'
      · exact h4 d hd t' ht'
      · rw [List.mem_singleton.1 ht',hb d hd];exact h4 d hd u hu
  · rw [if_neg hs]
    have hU:=updS_ok (f:=x.first) (b:=bareL v t) (t:=t) hl (k:=v.drift.length) (by omega)
    generalize (List.range v.drift.length).foldl (updS x.first (bareL v t) t) x=y at hU
    obtain ⟨yl,_,_,ym,ya,yle,yb⟩:=hU
    rw [hf] at ym ya yle yb
    refine ⟨⟨⟨yl.m,yl.l,yl.a,yl.b⟩,fun d hd=>?_,fun d hd t' ht'=>?_,fun d hd=>?_,fun d hd t' ht'=>?_⟩,rfl,t,by simp,rfl⟩
    · simp only
      rw [ya d (by omega),ym d (by omega)]
      by_cases c:d<v.drift.length∧(false=true∨(bareL v t).getD d 0>x.most.getD d 0)
      · rw [if_pos c,if_pos c];exact ⟨by simp,bareL_get hv hd⟩
      · rw [if_neg c,if_neg c];exact ⟨List.mem_append_left _ (h1 d hd).1,(h1 d hd).2⟩
    · simp only
      have e:=ym d (by omega)
      rw [bareL_get hv hd] at e
      have h0:=h2 d hd
      have:bareS t (d+1)≤y.most.getD d 0∧x.most.getD d 0≤y.most.getD d 0:=by
        rw [e];split
        · rename_i c;rcases c.2 with c | c
          · cases c
          · omega
        · rename_i c
          have:¬bareS t (d+1)>x.most.getD d 0:=fun h=>c ⟨hd,.inr h⟩
          omega
      rcases List.mem_append.1 ht' with ht' | ht'
      · have:=h0 t' ht';omega
      · rw [List.mem_singleton.1 ht'];exact this.1
    · simp only
      rw [yb d (by omega),yle d (by omega)]
      by_cases c:d<v.drift.length∧(false=true∨(bareL v t).getD d 0<x.least.getD d 0)
      · rw [if_pos c,if_pos c];exact ⟨by simp,bareL_get hv hd⟩
      · rw [if_neg c,if_neg c];exact ⟨List.mem_append_left _ (h3 d hd).1,(h3 d hd).2⟩
    · simp only
      have e:=yle d (by omega)
      rw [bareL_get hv hd] at e
      have h0:=h4 d hd
      have:y.least.getD d 0≤bareS t (d+1)∧y.least.getD d 0≤x.least.getD d 0:=by
        rw [e];split
        · rename_i c;rcases c.2 with c | c
          · cases c
          · omega
        · rename_i c
          have:¬bareS t (d+1)<x.least.getD d 0:=fun h=>c ⟨hd,.inr h⟩
          omega
      rcases List.mem_append.1 ht' with ht' | ht'
      · have:=h0 t' ht';omega
      · rw [List.mem_singleton.1 ht'];exact this.1
theorem ext_first (hv:v.Valid):ExtI v [t] (exStep v XS0 t).1:=by
  have v1:=hv.drift
  have v4:=hv.last7
  unfold exStep
  rw [if_neg (by simp [XS0])]
  have hU:=updS_ok (f:=true) (b:=bareL v t) (t:=t) (x:=XS0) ⟨rfl,rfl,rfl,rfl⟩ (k:=v.drift.length) (by omega)
  rw [show XS0.first=true from rfl]
  generalize (List.range v.drift.length).foldl (updS true (bareL v t) t) XS0=y at hU
  obtain ⟨yl,_,_,ym,ya,yle,yb⟩:=hU
  have c1:∀d,d<v.drift.length→(y.most.getD d 0=bareS t (d+1)∧y.ab.getD d T0=t)∧(y.least.getD d 0=bareS t (d+1)∧y.be.getD d T0=t):=fun d hd=>by
    rw [ym d (by omega),ya d (by omega),yle d (by omega),yb d (by omega),if_pos ⟨hd,.inl rfl⟩,if_pos ⟨hd,.inl rfl⟩,if_pos ⟨hd,.inl rfl⟩,if_pos ⟨hd,.inl rfl⟩,bareL_get hv hd]
    exact ⟨⟨rfl,rfl⟩,rfl,rfl⟩
  refine ⟨⟨⟨yl.m,yl.l,yl.a,yl.b⟩,fun d hd=>?_,fun d hd t' ht'=>?_,fun d hd=>?_,fun d hd t' ht'=>?_⟩,rfl,t,by simp,rfl⟩
  · simp only;rw [(c1 d hd).1.1,(c1 d hd).1.2];exact ⟨by simp,rfl⟩
  · simp only;rw [(c1 d hd).1.1,List.mem_singleton.1 ht'];exact Int.le_refl _
  · simp only;rw [(c1 d hd).2.1,(c1 d hd).2.2];exact ⟨by simp,rfl⟩
  · simp only;rw [(c1 d hd).2.1,List.mem_singleton.1 ht'];exact Int.le_refl _
theorem exStep_true {x:XS}:(exStep v x t).2=true:=by unfold exStep;split<;>rfl
theorem ext_fold (hv:v.Valid):∀{ts pre:List Truth} {x:XS},ExtI v pre x→ExtI v (pre++ts) (foldY (exStep v) x ts).1
  | [],pre,x,h=>by rw [List.append_nil];exact h
  | t::ts,pre,x,h=>by
    rw [foldY,if_pos exStep_true]
    have:=ext_fold hv (ts:=ts) (ext_step (t:=t) hv h)
    rwa [List.append_assoc] at this
theorem ext_ok (hv:v.Valid) (hp:posB v []=true):ExtOk v (truthsL v []) (extS v):=by
  obtain ⟨t,ht⟩:=pos_mem.1 hp
  unfold extS
  cases hts:truthsL v [] with
  | nil=>rw [hts] at ht;cases ht
  | cons u ts=>
    rw [foldY,if_pos exStep_true]
    exact (ext_fold hv (pre:=[u]) (ext_first hv)).ok
theorem ext_fold2 {ts:List Truth}:∀{x:XS},(foldY (exStep v) x ts).2=true:=by
  induction ts with
  | nil=>intro x;rfl
  | cons t ts ih=>intro x;rw [foldY,if_pos exStep_true];exact ih
theorem ext_bd (hv:v.Valid) (hp:posB v []=true) {d:Nat} (hd:d<v.drift.length):(-200≤(extS v).most.getD d 0∧(extS v).most.getD d 0≤200)∧(-200≤(extS v).least.getD d 0∧(extS v).least.getD d 0≤200):=by
  have h:=ext_ok hv hp
  have v1:=hv.drift
  have v4:=hv.last7
  obtain ⟨a1,a2⟩:=h.ma d hd
  obtain ⟨b1,b2⟩:=h.la d hd
  have c1:=bareS_bd hv (truths_isT hv _ a1) (k:=d+1) (by omega)
  have c2:=bareS_bd hv (truths_isT hv _ b1) (k:=d+1) (by omega)
  omega
end Am.Vt
namespace Am.Vt
open Go Am
set_option maxRecDepth 100000
set_option maxHeartbeats 4000000
set_option linter.unusedSimpArgs false
set_option linter.unusedVariables false
variable {g1 g2 g3 g4 gt:Bool × Bool} {v:Vat} {t:Truth}
theorem LstIn.mono {own own':Nat→Prop} {H:List Obj} {c:C} {l:List Int} (h:LstIn 1 own H c l) (hm:∀o,own' o→own o):LstIn 1 own' H c l:=by
  cases h with
  | nils=>exact .nils
  | sl o ver fr w ho hg=>exact .sl o ver fr _ (fun e=>ho (hm _ e)) hg
structure XMem (v:Vat) (mo:Nat) (c:XC) (H:List Obj):Prop where
  ok:c.Ok
  rel:c.rel (extS v)
  inn:c.In (fun o=>o=mo) H
theorem XMem.keep {mo:Nat} {c:XC} {H H':List Obj} (h:XMem v mo c H) (hk:Keep (fun o=>o=mo) H H'):XMem v mo c H':=⟨h.ok,h.rel,h.inn.keep hk⟩
theorem known_app : ∀{a b:List C},known a=true→known b=true→known (a++b)=true
  | [],_,_,h=>h
  | c::a,b,h,h'=>by
    have:known a=true:=by cases c<;>first | exact h | cases h
    have ih:=known_app this h'
    cases c<;>first | exact ih | cases h
theorem known_tc {own:Nat→Prop} {H:List Obj}:∀{A:List TC},(∀p∈A,LstIn 1 own H p.2 p.1.drift)→known (A.flatMap tc)=true
  | [],_=>rfl
  | a::A,h=>by
    rw [List.flatMap_cons]
    exact known_app (h a (by simp)).known (known_tc fun p hp=>h p (by simp [hp]))
theorem XMem.kn {mo:Nat} {c:XC} {H:List Obj} (h:XMem v mo c H):known c.cells=true:=
  known_app known_ints (known_app known_ints (known_app (known_tc fun p hp=>h.inn p (by simp [hp])) (known_tc fun p hp=>h.inn p (by simp [hp]))))
theorem splice_self {l:List C}:splice 0 l l=some l:=by
  have:=splice_left0 (a:=l) (b:=[]) (x:=l) (Nat.le_refl _)
  induction l with
  | nil=>rfl
  | cons a l ih=>simp only [splice,ih (splice_left0 (a:=l) (b:=[]) (x:=l) (Nat.le_refl _)),Option.map_some]
theorem Fextreme (hv:v.Valid) {H:List Obj} {wo mo:Nat} (hW:WInv g1 g2 g3 g4 v wo mo H) :
    Fn tab (.f 104 [.c (.ptr wo 0)] H) fun r H'=>∃c:XC,r = .agg c.cells∧XMem v mo c H'∧Keep (fun o=>o=mo) H H'∧WInv g1 g2 g3 g4 v wo mo H':=by
  refine Fn_X (fn:=f104) rfl rfl ?_
  have lw:=hW.lw
  have lm:=hW.lm
  have nwm:=hW.ne
  have hx0:[C.int .i64 0,C.int .i64 0,C.int .i64 0,C.int .i64 0,C.int .i64 0,C.int .i64 0,C.int .i64 0,C.int .i64 0,C.int .i64 0,C.int .i64 0,C.int .i64 0,C.int .i64 0,C.int .i64 0,C.int .i64 0,C.int .i64 0,C.int .i64 0,C.int .i64 0,C.int .i64 0,.nils,C.int .i64 0,C.int .i64 0,.nils,C.int .i64 0,C.int .i64 0,.nils,C.int .i64 0,C.int .i64 0,.nils,C.int .i64 0,C.int .i64 0,.nils,C.int .i64 0,C.int .i64 0,.nils,C.int .i64 0,C.int .i64 0,.nils,C.int .i64 0,C.int .i64 0,.nils,C.int .i64 0,C.int .i64 0,.nils,C.int .i64 0,C.int .i64 0,.nils,C.int .i64 0,C.int .i64 0,.nils,C.int .i64 0,C.int .i64 0,.nils,C.int .i64 0,C.int .i64 0,.nils,C.int .i64 0,C.int .i64 0,.nils,C.int .i64 0,C.int .i64 0,.nils,C.int .i64 0,C.int .i64 0,.nils]=XC0.cells:=rfl
  simp only [go_sem,f104,hx0,Ftruths (oc:=.nils) rfl]
  refine RX_range ?_
  generalize hlp:ALoop.mk .ready _ _ _ _ _=lp
  simp only [Opd.ev,getS,CallV_fn,firstV,List.length_append,List.length_cons,List.length_nil,List.append_assoc,List.cons_append,List.nil_append,List.map_cons,List.map_nil,Nat.zero_add,Nat.reduceAdd,Nat.add_assoc,Bool.false_eq_true,if_false]
  have hy:=ex_yield (g1:=g1) (g2:=g2) (g3:=g3) (g4:=g4) (v:=v) (n:=H.length) (wo:=wo) (mo:=mo) hv lw lm nwm (RS:=fun _ _=>False) (lp:=lp) hlp.symm
  have hrel:XC0.rel XS0:=⟨rfl,rfl,rfl,rfl⟩
  refine (truths1_ok (n:=H.length+7) (wb:=H.length+4) (ob:=H.length+5) (oc:=.nils) (out:=[]) (wo:=wo) (mo:=mo) (g1:=g1) (g2:=g2) (g3:=g3) (g4:=g4) (own:=exOwn H.length) hv (by simp) (by decide) rfl (by simp only [exOwn];omega) (by simp only [exOwn];omega) (by simp only [exOwn];omega) (fun o h _ h'=>by simp only [exOwn] at h';omega) (fun s H1 H2 hr hk hm=>?_) (fun s H1 H2 hr hk=>hr.elim) (fun s H hr=>hr.wi.m) hy (by simp only [go_sem]) (by simp only [go_sem]) (getH_keep hW.w (by simp)) (fun H' _=>.lst (true,false) []) (s:=XS0) ⟨hW.app,by simp only [go_sem],⟨XC0,XC0_ok,hrel,?_,by simp only [go_sem]⟩,by simp only [go_sem,XS0],by simp only [go_sem,XS0,List.map_replicate],rfl,by simp only [go_sem]⟩ FoldC_true).mono ?_
  · obtain ⟨c,q1,q2,q3,q4⟩:=hr.x
    exact ⟨hr.wi.keep hk (by omega) hm,hk.get (by omega) hr.wb (by simp),⟨c,q1,q2,q3.keep (hk.mono fun o h=>.inr (by omega)),hk.get (by omega) q4 (by simp)⟩,hk.get (by omega) hr.fi (by simp),hk.get (by omega) hr.la (by simp),hr.ll,hk.get (by omega) hr.lp (by simp)⟩
  · intro p hp
    have:p=((⟨0,0,[]⟩,.nils):TC):=by
      simp only [XC0,List.mem_append,List.mem_replicate] at hp
      rcases hp with hp | hp<;>exact hp.2
    rw [this];exact .nils
  · rintro r H' ⟨hk',hr⟩
    rw [ext_fold2] at hr
    rcases hr with ⟨_,b⟩ | ⟨h,_⟩
    · have l6:=lt_of_getH (h:=H') (o:=H.length+6) (by rw [b.lp];simp)
      have l1:H.length+1<H'.length:=by omega
      refine ⟨lp,b.lp,by rw [←hlp];simp,?_⟩
      rw [show lp.pending = .normal by rw [←hlp]]
      obtain ⟨c,q1,q2,q3,q4⟩:=b.x
      have qa:=q1.all
      have ql:=q1.len
      have kn:known c.cells=true:=known_app known_ints (known_app known_ints (known_app (known_tc fun p hp=>q3 p (by simp [hp])) (known_tc fun p hp=>q3 p (by simp [hp]))))
      simp only [go_sem,getH_setH,length_setH,l1,l6,q4,qa,ql,kn,splice_self,false_and]
      have hKf:∀W X,Keep (fun o=>o=H.length+6∨o=H.length+1) H' (setH (setH H' (H.length+6) W) (H.length+1) X):=fun W X=>(setK (.inl rfl)).trans (setK (.inr rfl))
      refine ⟨c,rfl,⟨q1,q2,fun p hp=>?_⟩,⟨by simp only [length_setH];omega,fun o ho hl=>?_⟩,b.wi.keep (hKf _ _) (by omega) (b.wi.m.keep (hKf _ _) (by omega))⟩
      · exact LstIn.mono (LstIn.keep (q3 p hp) ((hKf _ _).mono fun o h=>.inl (by simp only [exOwn];omega))) fun o h=>.inr (.inl h)
      · rw [(hKf _ _).2 o (by omega) (by omega),hk'.2 o (by simp only [exOwn];omega) (by simp;omega),getH_left hl]
    · cases h
def roomI (v:Vat) (d:Nat):Rg:=⟨-v.band-(extS v).least.getD d 0,v.band-(extS v).most.getD d 0⟩
theorem Froom (hv:v.Valid) (hp:posB v []=true) {H:List Obj} {wo mo d:Nat} {c:XC} (hd:d<v.drift.length) (hX:XMem v mo c H) (hW:WInv g1 g2 g3 g4 v wo mo H) {Q:V→List Obj→Prop} :
    Fn tab (.f 107 [.c (.ptr wo 0),.agg c.cells,.c (.int .i64 d)] H) Q↔Q (.agg [.int .i64 (roomI v d).lo,.int .i64 (roomI v d).hi]) (H++[.cells c.cells,.cells [.int .i64 (roomI v d).lo,.int .i64 (roomI v d).hi]]):=by
  refine Fn_iff (Fn_X (fn:=f107) rfl rfl ?_)
  have v1:=hv.drift
  have v4:=hv.last7
  have lw:=hW.lw
  have e1:=hW.w
  have kn:=hX.kn
  have d8:d<8:=by omega
  have d8':(d:Int)<8:=by omega
  have d0:(0:Int)≤d:=by omega
  have pM:=hX.ok.pM d8
  have pL:=hX.ok.pL d8
  have hb:=ext_bd hv hp hd
  have bb:=hv.band
  obtain ⟨r1,r2,_,_⟩:=hX.rel
  have m1:c.most.getD d default=(extS v).most.getD d 0:=by rw [r1];rfl
  have m2:c.least.getD d default=(extS v).least.getD d 0:=by rw [r2];rfl
  rw [m1] at pM
  rw [m2] at pL
  have w0:IntKind.i64.wrap (0-v.band) = -v.band:=by rw [wrapB (by omega) (by omega)];omega
  have w1:IntKind.i64.wrap (-v.band-(extS v).least.getD d 0)=(roomI v d).lo:=by rw [wrapB (by omega) (by omega)];rfl
  have w2:IntKind.i64.wrap (v.band-(extS v).most.getD d 0)=(roomI v d).hi:=by rw [wrapB (by omega) (by omega)];rfl
  have w3 : -v.band-(extS v).least.getD d 0=(roomI v d).lo:=rfl
  have z0:¬wo=H.length:=by omega
  have z1:¬H.length=wo:=by omega
  have z2:¬wo=H.length+1:=by omega
  have z3:¬H.length+1=wo:=by omega
  simp only [go_sem,f107,kn,getH_left,lw,e1,pM,pL,d8',d0,w0,w1,w2,disj_nil,z0,z1,z2,z3]
end Am.Vt
namespace Am.Vt
open Go Am
set_option maxRecDepth 100000
set_option maxHeartbeats 4000000
set_option linter.unusedSimpArgs false
set_option linter.unusedVariables false
variable {g1 g2 g3 g4 gt:Bool × Bool} {v:Vat} {t:Truth}
def nextR (r now:Rg):Rg:=⟨max (now.lo-9) r.lo,min (now.hi+9) r.hi⟩
def reachF (room:Nat→Rg):Nat→Nat→Rg→List Rg
  | 0,_,_=>[]
  | n+1,d,now=>if (nextR (room d) now).lo>(nextR (room d) now).hi then [] else nextR (room d) now::reachF room n (d+1) (nextR (room d) now)
def reachL (v:Vat):List Rg:=reachF (roomI v) v.drift.length 0 ⟨0,0⟩
theorem reachF_len {room:Nat→Rg}:∀{n d:Nat} {now:Rg},(reachF room n d now).length≤n
  | 0,_,_=>Nat.le_refl _
  | n+1,d,now=>by
    rw [reachF]
    split
    · simp
    · rw [List.length_cons];have:=reachF_len (room:=room) (n:=n) (d:=d+1) (now:=nextR (room d) now);omega
theorem reachL_len : (reachL v).length≤v.drift.length:=reachF_len
theorem Freach (hv:v.Valid) (hp:posB v []=true) {H:List Obj} {wo mo:Nat} {c:XC} (hX:XMem v mo c H) (hW:WInv g1 g2 g3 g4 v wo mo H) :
    Fn tab (.f 103 [.c (.ptr wo 0),.agg c.cells] H) fun r H'=>∃o,r = .c (.sl o (reachL v).length 0 (reachL v).length)∧getH H' o = .arr false (reachL v).length 2 ((reachL v).map Row.row)∧H.length≤o∧Keep (fun _=>False) H H':=by
  refine Fn_X (fn:=f103) rfl rfl ?_
  have lw:=hW.lw
  have lm:=hW.lm
  have e1:=hW.w
  have kn:=hX.kn
  have ha:=hX.ok.all
  have hlc:=hX.ok.len
  have v1:=hv.drift
  have v4:=hv.last7
  have bb:=hv.band
  have z0:¬wo=H.length:=by omega
  have z1:¬H.length=wo:=by omega
  have z2:¬wo=H.length+1:=by omega
  have z3:¬H.length+1=wo:=by omega
  have z4:¬wo=H.length+2:=by omega
  have z5:¬H.length+2=wo:=by omega
  simp only [go_sem,f103,kn,getH_left,lw,e1,cdays' hv,z0,z1,z2,z3,z4,z5]
  obtain ⟨H0,hH0⟩:∃H0,H0=H++[.cells c.cells,.cells [.int .i64 0,.int .i64 0],.arr false 0 2 []]:=⟨_,rfl⟩
  have l0:H0.length=H.length+3:=by rw [hH0];simp
  have W0:WInv g1 g2 g3 g4 v wo mo H0:=by rw [hH0];exact hW.app
  have X0:XMem v mo c H0:=by rw [hH0];exact hX.keep Keep.append
  refine RX_whileU (α:=Nat × List Rg × Rg × List Obj) (fun x=>[(4,.c (.sl (H.length+2) x.1 0 x.1)),(14,.c (.int .i64 x.1))]) (fun x=>x.2.2.2) (fun x=>x.1≤v.drift.length∧x.2.1.length=x.1∧x.2.1++reachF (roomI v) (v.drift.length-x.1) x.1 x.2.2.1=reachL v∧(-1000-9*(x.1:Int)≤x.2.2.1.lo∧x.2.2.1.lo≤1000 ∧ -1000≤x.2.2.1.hi∧x.2.2.1.hi≤1000+9*(x.1:Int))∧Keep (fun o=>o=H.length+1∨o=H.length+2) H0 x.2.2.2∧getH x.2.2.2 (H.length+1) = .cells [.int .i64 x.2.2.1.lo,.int .i64 x.2.2.1.hi]∧getH x.2.2.2 (H.length+2) = .arr false x.1 2 (x.2.1.map Row.row)) (fun x=>v.drift.length-x.1) (0,[],⟨0,0⟩,H0) ⟨Nat.zero_le _,rfl,rfl,by simp,Keep.refl,by rw [hH0];simp only [go_sem],by rw [hH0];simp only [go_sem]⟩ (by simp only [go_sem,hH0]<;>rfl) ?_
  rintro ⟨k,acc,now,H1⟩ ⟨hk,hacc,hre,hbd,hK,hn,hl⟩
  simp only at hk hacc hre hbd hK hn hl
  have l1:=hK.1
  by_cases hlt:k<v.drift.length
  · have hlt':(k:Int)<(v.drift.length:Nat):=by omega
    have e4:IntKind.i64.wrap ((k:Int)+1)=((k+1:Nat):Int):=wrap_succ (n:=3000) (by omega) (by decide)
    have W1:WInv g1 g2 g3 g4 v wo mo H1:=W0.keep hK (by omega) (W0.m.keep hK (by omega))
    have X1:XMem v mo c (H1++[.none]):=by
      refine ⟨hX.ok,hX.rel,fun p hp=>?_⟩
      have h1:LstIn 1 (fun o=>o=mo∨o=H.length+1∨o=H.length+2) H0 p.2 p.1.drift:=by
        have h0:=hX.inn p hp
        rw [hH0]
        revert h0
        generalize p.2=pc
        generalize p.1.drift=pl
        intro h0
        cases h0 with
        | nils=>exact .nils
        | sl o ver fr w ho hg=>
          have:=lt_of_getH (h:=H) (o:=o) (by rw [hg];simp)
          exact .sl o ver fr _ (by omega) (getH_keep hg (by simp))
      exact LstIn.mono ((h1.keep (hK.mono fun o h=>.inr h)).keep Keep.append) fun o h=>.inl h
    have hc1:getH H1 H.length = .cells c.cells:=hK.get (by omega) (by rw [hH0];simp only [go_sem]) (by simp)
    have hb:=ext_bd hv hp hlt
    have hr:(-220≤(roomI v k).lo∧(roomI v k).lo≤220)∧(-220≤(roomI v k).hi∧(roomI v k).hi≤220):=by
      simp only [roomI];omega
    have kr:(k+1)*16≤2^40:=by omega
    have w1:IntKind.i64.wrap (now.lo-9)=now.lo-9:=wrapB (by omega) (by omega)
    have w2:IntKind.i64.wrap (now.hi+9)=now.hi+9:=wrapB (by omega) (by omega)
    have hd:v.drift.length-k=(v.drift.length-(k+1))+1:=by omega
    rw [hd,reachF] at hre
    obtain ⟨r,hr0⟩:∃r,r=roomI v k:=⟨_,rfl⟩
    have hR:=fun {Q:V→List Obj→Prop}=>Froom (g1:=g1) (g2:=g2) (g3:=g3) (g4:=g4) hv hp (d:=k) hlt X1 W1.app (Q:=Q)
    rw [←hr0] at hR hre hr
    obtain ⟨x,hx⟩:∃x,x=nextR r now:=⟨_,rfl⟩
    have hx1:max (now.lo-9) r.lo=x.lo:=by rw [hx];rfl
    have hx2:min (now.hi+9) r.hi=x.hi:=by rw [hx];rfl
    rw [←hx] at hre
    have j0:H.length<H1.length:=by omega
    have j1:H.length+1<H1.length:=by omega
    have j2:H.length+2<H1.length:=by omega
    have y0:¬H.length=H1.length:=by omega
    have y1:¬H1.length=H.length:=by omega
    have y2:¬H.length=H1.length+1:=by omega
    have y3:¬H1.length+1=H.length:=by omega
    have y4:¬H.length=H1.length+2:=by omega
    have y5:¬H1.length+2=H.length:=by omega
    have y6:¬H.length=H1.length+3:=by omega
    have y7:¬H1.length+3=H.length:=by omega
    have y8:¬H.length+1=H1.length:=by omega
    have y9:¬H1.length=H.length+1:=by omega
    have y10:¬H.length+1=H1.length+1:=by omega
    have y11:¬H1.length+1=H.length+1:=by omega
    have y12:¬H.length+1=H1.length+2:=by omega
    have y13:¬H1.length+2=H.length+1:=by omega
    have y14:¬H.length+1=H1.length+3:=by omega
    have y15:¬H1.length+3=H.length+1:=by omega
    have y16:¬H.length+2=H1.length:=by omega
    have y17:¬H1.length=H.length+2:=by omega
    have y18:¬H.length+2=H1.length+1:=by omega
    have y19:¬H1.length+1=H.length+2:=by omega
    have y20:¬H.length+2=H1.length+2:=by omega
    have y21:¬H1.length+2=H.length+2:=by omega
    have y22:¬H.length+2=H1.length+3:=by omega
    have y23:¬H1.length+3=H.length+2:=by omega
    have hKe:∀X Y,Keep (fun _=>False) H (setH H1 (H.length+1) X++Y):=fun X Y=>⟨by simp [length_setH];omega,fun o _ hl'=>by rw [getH_left (by rw [length_setH];omega),getH_setH,if_neg (by omega),hK.2 o (by omega) (by omega),hH0,getH_left hl']⟩
    by_cases hgt:x.lo>x.hi
    · rw [if_pos hgt,List.append_nil] at hre
      simp only [go_sem,hlt',getH_left,setH_left,getH_setH,length_setH,getH_atL,getH_atL0,setH_atL,setH_atL0,isHole_atL,isHole_atL0,j0,j1,j2,y0,y1,y2,y3,y4,y5,y6,y7,y8,y9,y10,y11,y12,y13,y14,y15,y16,y17,y18,y19,y20,y21,y22,y23,hc1,ha,hlc,hR,hn,w1,w2,hx1,hx2,disj_nil,cmin2,ite_max,hgt,gt_iff_lt]
      refine ⟨H.length+2,by rw [←hre,hacc],?_,by omega,hKe _ _⟩
      rw [getH_left (by rw [length_setH];omega),getH_setH,if_neg (by omega),hl,←hre,hacc]
    · rw [if_neg hgt] at hre
      simp only [go_sem,hlt',getH_left,setH_left,getH_setH,length_setH,getH_atL,getH_atL0,setH_atL,setH_atL0,isHole_atL,isHole_atL0,j0,j1,j2,y0,y1,y2,y3,y4,y5,y6,y7,y8,y9,y10,y11,y12,y13,y14,y15,y16,y17,y18,y19,y20,y21,y22,y23,hc1,ha,hlc,hR,hn,w1,w2,hx1,hx2,disj_nil,cmin2,ite_max,hgt,gt_iff_lt,hl,hacc,kr,e4]
      refine ⟨(k+1,acc++[x],x,_),⟨by simp only;omega,hlt,by simp only [List.length_append,hacc,List.length_cons,List.length_nil],?_,?_,?_,?_,?_⟩,⟨rfl,rfl⟩,rfl⟩
      · rw [←hre];simp
      · rw [←hx1,←hx2]
        simp only
        omega
      · refine hK.trans ⟨by simp [length_setH],fun o ho hl'=>?_⟩
        simp only [not_or] at ho
        rw [getH_left (by simp [length_setH];omega),getH_setH,if_neg (by omega),getH_setH,if_neg (by omega)]
      · simp only [go_sem,getH_left,getH_setH,length_setH,j0,j1,j2,false_and]
      · simp only [go_sem,getH_left,getH_setH,length_setH,j0,j1,j2,false_and,List.map_append]
  · have:k=v.drift.length:=by omega
    subst this
    have hlt':¬(v.drift.length:Int)<(v.drift.length:Nat):=by omega
    rw [Nat.sub_self,reachF,List.append_nil] at hre
    subst hre
    simp only [go_sem,hlt']
    refine ⟨H.length+2,by rw [hacc],by rw [hl,hacc],by omega,by omega,fun o ho hl'=>?_⟩
    rw [hK.2 o (by omega) (by omega),hH0,getH_left hl']
end Am.Vt
namespace Am.Vt
open Go Am
set_option maxRecDepth 100000
set_option maxHeartbeats 4000000
set_option linter.unusedSimpArgs false
set_option linter.unusedVariables false
variable {g1 g2 g3 g4 gt:Bool × Bool} {v:Vat} {t:Truth}
def fedS : List Rg→Int
  | []=>0
  | [r]=>r.lo
  | r::s::l=>max r.lo (min r.hi (fedS (s::l)))
def fedD (l:List Rg) (d:Nat):Int:=fedS (l.drop d)
theorem fedD_last {l:List Rg} {d:Nat} (h:d+1=l.length):fedD l d=(l.getD d default).lo:=by
  unfold fedD
  rw [List.drop_eq_getElem_cons (by omega),List.drop_eq_nil_of_le (by omega)]
  rw [getD_lt _ _ _ (by omega)];rfl
theorem fedD_step {l:List Rg} {d:Nat} (h:d+1<l.length):fedD l d=max (l.getD d default).lo (min (l.getD d default).hi (fedD l (d+1))):=by
  unfold fedD
  rw [List.drop_eq_getElem_cons (by omega:d<l.length),List.drop_eq_getElem_cons h,getD_lt _ _ _ (by omega:d<l.length)];rfl
def keepI (l:List Rg) (d:Nat):Int:=fedD l d-(if d=0 then 0 else fedD l (d-1))
def keepOf (l:List Rg):List Int:=(List.range l.length).map (keepI l)
def keepK (l:List Rg) (k:Nat):List Int:=(List.range l.length).map fun i=>if i<k then 0 else keepI l i
theorem keepK_zero {l:List Rg}:keepK l 0=keepOf l:=by simp [keepK,keepOf]
theorem keepK_all {l:List Rg}:keepK l l.length=List.replicate l.length 0:=by
  rw [keepK,List.eq_replicate_iff]
  refine ⟨by simp,fun b hb=>?_⟩
  obtain ⟨i,hi,rfl⟩:=List.mem_map.1 hb
  rw [if_pos (List.mem_range.1 hi)]
theorem keepK_len {l:List Rg} {k:Nat}:(keepK l k).length=l.length:=by simp [keepK]
theorem keepK_set {l:List Rg} {k:Nat} (hk:k<l.length):(keepK l (k+1)).set k (keepI l k)=keepK l k:=by
  apply List.ext_getElem
  · simp [keepK]
  · intro i h1 h2
    rw [List.getElem_set]
    by_cases h:k=i
    · subst h
      rw [if_pos rfl];simp [keepK]
    · rw [if_neg h]
      simp only [keepK,List.getElem_map,List.getElem_range]
      by_cases hi:i<k
      · rw [if_pos hi,if_pos (by omega)]
      · rw [if_neg hi,if_neg (by omega)]
theorem fedS_bd {M:Int}:∀{l:List Rg},(∀r∈l,-M≤r.lo∧r.lo≤M ∧ -M≤r.hi∧r.hi≤M)→0≤M → -M≤fedS l∧fedS l≤M
  | [],_,h=>by simp only [fedS];omega
  | [r],h,_=>by have:=h r (by simp);simp only [fedS];omega
  | r::s::l,h,h0=>by
    have h1:=h r (by simp)
    have ih:=fedS_bd (l:=s::l) (fun x hx=>h x (by simp at hx ⊢;exact .inr hx)) h0
    simp only [fedS];omega
theorem reachF_bd {room:Nat→Rg} {M:Nat}:∀{n d:Nat} {now:Rg},(∀i,i<d+n → -(M:Int)≤(room i).lo∧(room i).lo≤M ∧ -(M:Int)≤(room i).hi∧(room i).hi≤M)→(-(M:Int)-9*d≤now.lo∧now.lo≤M ∧ -(M:Int)≤now.hi∧now.hi≤M+9*d)→∀r∈reachF room n d now,-(M:Int)-9*(d+n:Nat)≤r.lo∧r.lo≤M ∧ -(M:Int)≤r.hi∧r.hi≤M+9*(d+n:Nat)
  | 0,d,now,_,_=>by intro r hr;cases hr
  | n+1,d,now,h,hn=>by
    have h0:=h d (by omega)
    rw [reachF]
    split
    · intro r hr;cases hr
    · have hx : -(M:Int)-9*(d+1:Nat)≤(nextR (room d) now).lo∧(nextR (room d) now).lo≤M ∧ -(M:Int)≤(nextR (room d) now).hi∧(nextR (room d) now).hi≤M+9*(d+1:Nat):=by simp only [nextR];omega
      intro r hr
      rcases List.mem_cons.1 hr with rfl | hr
      · omega
      · have:=reachF_bd (n:=n) (d:=d+1) (now:=nextR (room d) now) (fun i hi=>h i (by omega)) hx r hr
        rw [show d+1+n=d+(n+1) by omega] at this
        exact this
theorem reachL_bd (hv:v.Valid) (hp:posB v []=true):∀r∈reachL v,-1000≤r.lo∧r.lo≤1000 ∧ -1000≤r.hi∧r.hi≤1000:=by
  have v1:=hv.drift
  have v4:=hv.last7
  have bb:=hv.band
  intro r hr
  have:=reachF_bd (room:=roomI v) (M:=220) (n:=v.drift.length) (d:=0) (now:=⟨0,0⟩) (fun i hi=>by
    have hb:=ext_bd hv hp (d:=i) (by omega)
    simp only [roomI];omega) (by simp) r hr
  omega
def keepL (v:Vat):List Int:=keepOf (reachL v)
theorem keepL_len : (keepL v).length=(reachL v).length:=by simp [keepL,keepOf]
def KeepR (v:Vat):V:=if askE v true=0 then .tup [.c (L (false,false) (keepL v)),.c (.int .i64 0)] else .tup [.c .nils,.c (.int .i64 (askE v true))]
theorem cKeep (hf:v.Fits) {Q:V→Prop}:CallP tab 38 [vatV g1 g2 g3 g4 v] Q↔Q (KeepR v):=CallP_of (by
  refine Val_X (fn:=f38) rfl ?_
  simp only [go_sem,f38]
  refine (Fasked (g1:=g1) (g2:=g2) (g3:=g3) (g4:=g4) (b:=true) hf).mono ?_
  rintro r H' ⟨hk,hr⟩
  obtain ⟨X,rfl⟩:=hk.none_eq
  rcases hr with ⟨a,rfl⟩ | ⟨a,wo,mo,b1,b2,rfl,b3,b4⟩
  · rw [KeepR,if_neg a]
    simp only [go_sem,a]
  · have hv:=valid_of (ask_ok a).1
    have hp:=(ask_ok a).2.2
    rw [KeepR,if_pos a]
    have hW0:WInv g1 g2 g3 g4 v wo mo _:=⟨b3,b4⟩
    simp only [go_sem]
    refine (Fextreme (g1:=g1) (g2:=g2) (g3:=g3) (g4:=g4) hv hW0).mono ?_
    rintro r H1 ⟨c,rfl,hX,_,hW1⟩
    simp only [go_sem]
    refine (Freach (g1:=g1) (g2:=g2) (g3:=g3) (g4:=g4) hv hp hX hW1).mono ?_
    rintro r H2 ⟨lo,rfl,hl,_,_⟩
    have llo:=lt_of_getH (h:=H2) (o:=lo) (by rw [hl];simp)
    have hrl:=reachL_len (v:=v)
    have v1:=hv.drift
    have v4:=hv.last7
    have rb:=reachL_bd hv hp
    have hkl:keepL v=keepOf (reachL v):=rfl
    rw [hkl]
    generalize reachL v=l at *
    have n1:(0:Int)≤(l.length:Nat):=by omega
    have n2:((l.length:Nat):Int)*8≤2^40:=by omega
    by_cases h0:l.length=0
    · have hl0:l=[]:=List.length_eq_zero_iff.1 h0
      subst hl0
      have q0:(0:Int)*8≤2^40:=by decide
      have q1:(0:Nat)*8≤2^40:=by decide
      simp only [go_sem,q0,q1,getH_atL,getH_atL0,isHole_atL,isHole_atL0,setH_atL,setH_atL0,keepOf,List.range_zero]
      rfl
    have n3:¬(l.length:Int)=0:=by omega
    have w1:IntKind.i64.wrap ((l.length:Int)-1)=(l.length:Int)-1:=wrapB (by omega) (by omega)
    have n4:(0:Int)≤(l.length:Int)-1:=by omega
    have n5:(l.length:Int)-1<(l.length:Nat):=by omega
    have hnth:∀(j:Nat),j<l.length→nth (l.map (Row.row (α:=Rg))) j=some [.int .i64 (l.getD j default).lo,.int .i64 (l.getD j default).hi]:=fun j hj=>by rw [nth_get];simp [hj];rfl
    have n6:((l.length:Int)-1).toNat=l.length-1:=by omega
    have nx:=hnth (l.length-1) (by omega)
    simp only [go_sem,getH_left,getH_atL,getH_atL0,isHole_atL,isHole_atL0,setH_atL,setH_atL0,llo,hl,n1,n2,h0,n3,w1,n4,n5,n6,nx]
    obtain ⟨H3,hH3⟩:∃H3,H3=H2++[.arr false 0 1 (List.replicate l.length [.int .i64 0])]:=⟨_,rfl⟩
    have l3:H3.length=H2.length+1:=by rw [hH3];simp
    have o3:getH H3 H2.length = .arr false 0 1 ((keepK l l.length).map Row.row):=by rw [hH3,getH_atL0 rfl,keepK_all,List.map_replicate];rfl
    have r3:getH H3 lo = .arr false l.length 2 (l.map Row.row):=by rw [hH3];exact getH_keep hl (by simp)
    rw [←hH3]
    refine RX_whileU (α:=Nat × List Obj) (fun x=>[(8,.c (.int .i64 (if x.1=0 then 0 else fedD l (x.1-1)))),(9,.c (.int .i64 ((x.1:Int)-1)))]) (fun x=>x.2) (fun x=>x.1≤l.length∧Keep (fun o=>o=H2.length) H3 x.2∧getH x.2 H2.length = .arr false 0 1 ((keepK l x.1).map Row.row)) (fun x=>x.1) (l.length,H3) ⟨Nat.le_refl _,Keep.refl,o3⟩ (by
      have e1:=fedD_last (l:=l) (d:=l.length-1) (by omega)
      simp only [go_sem,h0,e1]) ?_
    rintro ⟨k,H4⟩ ⟨hk4,K4,o4⟩
    simp only at hk4 K4 o4
    have l4:=K4.1
    have r4:=K4.get (o:=lo) (by omega) r3 (by simp)
    have fb:=fun d=>fedS_bd (M:=1000) (l:=l.drop d) (fun r hr=>rb r (List.mem_of_mem_drop hr)) (by decide)
    match k,hk4,o4 with
    | 0,hk4,o4=>
      rw [keepK_zero] at o4
      have:¬((0:Nat):Int)-1≥0:=by omega
      have kl:(keepOf l).length=l.length:=by simp [keepOf]
      simp only [go_sem,this,o4,kl]
    | d+1,hk4,o4=>
      have i0:((d+1:Nat):Int)-1=(d:Int):=by omega
      have i1:(d:Int)≥0:=by omega
      have i2:(d:Int)<(l.length:Nat):=by omega
      have i3:(0:Int)≤(d:Int):=by omega
      have i4:(if d+1=0 then 0 else fedD l (d+1-1))=fedD l d:=by rw [if_neg (by omega),Nat.add_sub_cancel]
      have w2:IntKind.i64.wrap ((d:Int)-1)=(d:Int)-1:=wrapB (by omega) (by omega)
      have f0 : -1000≤fedD l d∧fedD l d≤1000:=fb d
      have f1 : -1000≤fedD l (d-1)∧fedD l (d-1)≤1000:=fb (d-1)
      have dl:d<(keepK l (d+1)).length:=by rw [keepK_len];omega
      have j0:lo<H4.length:=by omega
      have j1:H2.length<H4.length:=by omega
      have y0:¬lo=H4.length:=by omega
      have y1:¬H4.length=lo:=by omega
      have y2:¬lo=H4.length+1:=by omega
      have y3:¬H4.length+1=lo:=by omega
      have y4:¬H2.length=H4.length:=by omega
      have y5:¬H4.length=H2.length:=by omega
      have y6:¬H2.length=H4.length+1:=by omega
      have y7:¬H4.length+1=H2.length:=by omega
      have hb4:H2.length<H4.length:=by omega
      have nk:nth (keepK l (d+1)) d=some ((keepK l (d+1)).getD d 0):=by rw [nth_get,getD_lt _ _ _ dl];simp [dl]
      by_cases h1:d=0
      · subst h1
        simp only [i4]
        have h2:¬((0:Nat):Int)>0:=by omega
        have i5:(0:Int)<(l.length:Nat):=by omega
        have z0:max 0 (min 0 (fedD l 0))=0:=by omega
        have z1:IntKind.i64.wrap (fedD l 0-0)=keepI l 0:=by rw [wrapB (by omega) (by omega)];simp [keepI]
        simp only [Nat.zero_add] at nk
        simp only [go_sem,i0,i1,i2,i3,i5,h2,getH_left,getH_atL,getH_atL0,isHole_atL,isHole_atL0,setH_atL,setH_atL0,j0,j1,y0,y1,y2,y3,y4,y5,y6,y7,hb4,o4,r4,disj_nil,cmin2,ite_max,setNth_map,nk,z0,z1,gt_iff_lt]
        refine ⟨(0,_),⟨by simp only;omega,Nat.zero_le _,?_,?_⟩,⟨rfl,rfl⟩,rfl⟩
        · refine K4.trans ⟨by simp [length_setH],fun o ho hl'=>?_⟩
          rw [getH_setH,if_neg (by omega),getH_left hl']
        · rw [←keepK_set (k:=0) (by omega)]
          simp only [getH_setH,length_setH,go_sem,Nat.zero_add]
          rw [if_pos (by omega)]
      · have h2:(d:Int)>0:=by omega
        have i6:(0:Int)≤(d:Int)-1:=by omega
        have i7:(d:Int)-1<(l.length:Nat):=by omega
        have i8:((d:Int)-1).toNat=d-1:=by omega
        have st:=fedD_step (l:=l) (d:=d-1) (by omega)
        rw [Nat.sub_add_cancel (by omega)] at st
        have z1:IntKind.i64.wrap (fedD l d-fedD l (d-1))=keepI l d:=by rw [wrapB (by omega) (by omega)];simp [keepI,h1]
        have nx:=hnth (d-1) (by omega)
        simp only [i4]
        simp only [go_sem,i0,i1,i2,i3,i6,i7,i8,w2,nx,h2,getH_left,getH_atL,getH_atL0,isHole_atL,isHole_atL0,setH_atL,setH_atL0,j0,j1,y0,y1,y2,y3,y4,y5,y6,y7,hb4,o4,r4,disj_nil,cmin2,ite_max,setNth_map,nk,←st,z1,gt_iff_lt]
        refine ⟨(d,_),⟨by simp only;omega,by simp only;omega,?_,?_⟩,⟨by simp only [if_neg h1],rfl⟩,rfl⟩
        · refine K4.trans ⟨by simp [length_setH],fun o ho hl'=>?_⟩
          rw [getH_setH,if_neg (by omega),getH_left hl']
        · simp only [getH_setH,length_setH,go_sem]
          rw [keepK_set (by omega),if_pos (by omega)])
end Am.Vt
