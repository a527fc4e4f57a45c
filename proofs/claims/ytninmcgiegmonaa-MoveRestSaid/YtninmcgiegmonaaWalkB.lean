/-
  A part of the proof: the texts M6, M7, M8, M9, M10, M11 of this seat, joined.
-/
import Derived.Test.YtninmcgiegmonaaWalkA
import Derived.Test.YtninmcgiegmonaaAmI
namespace Am.Mv
open Go Am Am.Tm
set_option maxRecDepth 100000
set_option maxHeartbeats 4000000
set_option linter.unusedSimpArgs false
set_option linter.unusedVariables false
variable {l:Land} {g1 g2:Bool × Bool}
def weatherR (l:Land) (bad:List Int) (below:Int):Prop:=(∀i,i<bad.length→(0≤bad.getD i default∧bad.getD i default≤below-1)∧(0<i→bad.getD (i-1) default<bad.getD i default))∧(bad.length:Int)≤l.bad
instance {l bad below}:Decidable (weatherR l bad below):=by unfold weatherR;infer_instance
end Am.Mv
namespace Am.Mv
open Go Am Am.Tm
set_option maxRecDepth 100000
set_option maxHeartbeats 4000000
set_option linter.unusedSimpArgs false
set_option linter.unusedVariables false
variable {l:Land} {g1 g2:Bool × Bool}
def powI (n:Int):Nat→Int
  | 0=>1
  | k+1=>powI n k*n
theorem P50 (hv:l.Valid) {Q:V→Prop}:CallP tab 24 [landV g1 g2 l] Q↔Q (.c (.int .i64 (powI l.sites.length (l.last+1).toNat))):=CallP_of (by
  refine Val_X (fn:=f24) rfl ?_
  have a1:=hv.last0
  have a2:=hv.last4
  have a3:=hv.n4
  have a4:=hv.n0
  simp only [go_sem,f24]
  refine RX_for (l.last+1).toNat (fun k=>[(3,.c (.int .i64 (powI l.sites.length k))),(4,.c (.int .i64 k))]) (fun _=>[.cells [.int .i64 l.last,.int .i64 l.home,.int .i64 l.purse,.int .i64 l.bad,.int .i64 l.rest,L g1 l.sites,L g2 l.roads]]) (fun k=>0≤powI l.sites.length k∧powI l.sites.length k≤4^k) (by simp [powI]) (by simp only [go_sem,powI]<;>rfl) ?_
  intro k hk hP
  by_cases h1:(k:Int)≤l.last
  · have h2:k<(l.last+1).toNat:=by omega
    have h3:powI l.sites.length (k+1)≤4^(k+1):=by
      have:powI l.sites.length k*l.sites.length≤4^k*4:=Int.mul_le_mul hP.2 (by omega) (by omega) (Int.pow_nonneg (by decide))
      rw [Int.pow_succ];exact this
    have h4:0≤powI l.sites.length (k+1):=Int.mul_nonneg hP.1 (by omega)
    have h5:(4:Int)^(k+1)≤1024:=by
      have:k=0∨k=1∨k=2∨k=3∨k=4:=by omega
      rcases this with rfl | rfl | rfl | rfl | rfl<;>decide
    have hw1:IntKind.i64.wrap (powI l.sites.length k*l.sites.length)=powI l.sites.length (k+1):=wrapB (n:=powI l.sites.length (k+1)) (by omega) (by omega)
    simp only [go_sem,h1,h2,hw1,wrap_succ (n:=1000) (show k<1000 by omega) (by decide)]
    exact ⟨h4,h3⟩
  · have:k=(l.last+1).toNat:=by omega
    subst this
    simp only [go_sem,h1])
end Am.Mv
namespace Am.Mv
open Go Am Am.Tm
set_option maxRecDepth 100000
set_option maxHeartbeats 4000000
set_option linter.unusedSimpArgs false
set_option linter.unusedVariables false
variable {l:Land} {g1 g2:Bool × Bool}
theorem P20 {g:Bool × Bool} {a:List Int} (ha:a.length≤1000) {Q:V→Prop}:CallP tab 8 [.c (L g a)] Q↔Q (.c (L (false,false) a)):=CallP_of (by
  have hb:a.length*8≤2^40:=by omega
  refine Val_X (fn:=f8) rfl ?_
  simp only [go_sem,f8,hb])
structure Land.Small (l:Land):Prop where
  sites:l.sites.length≤6
  roads:l.roads.length≤6
  road:∀r∈l.roads,r.length≤6
theorem Land.Small.fits (h:l.Small):l.Fits:=⟨Nat.lt_of_le_of_lt h.sites (by decide),Nat.lt_of_le_of_lt h.roads (by decide),fun r hr=>Nat.lt_of_le_of_lt (h.road r hr) (by decide)⟩
instance : Decidable l.Small:=decidable_of_iff (l.sites.length≤6∧l.roads.length≤6∧∀r∈l.roads,r.length≤6) ⟨fun h=>⟨h.1,h.2.1,h.2.2⟩,fun h=>⟨h.sites,h.roads,h.road⟩⟩
theorem P21 (hf:l.Fits) {Q:V→Prop}:CallP tab 13 [landV g1 g2 l] Q↔Q (.c (.int .i64 (checkLand l))):=CallP_of (by
  have:checkLand l=0∨checkLand l=1∨checkLand l=3:=by
    unfold checkLand;repeat' split
    all_goals simp
  have hw:IntKind.i64.wrap (checkLand l)=checkLand l:=by rcases this with e | e | e<;>rw [e]<;>rfl
  refine Val_X (fn:=f13) rfl ?_
  simp only [go_sem,f13,P49 hf,hw])
def thin (l:Land):Bool:=decide l.Small&&(decide (checkLand l≠0)||decide (powI l.sites.length (l.last+1).toNat≤256))
theorem P16 {Q:V→Prop}:CallP tab 12 [landV g1 g2 l] Q↔Q (.c (.bool (thin l))):=CallP_of (by
  refine Val_X (fn:=f12) rfl ?_
  by_cases h1:(l.sites.length:Int)>6
  · have:¬l.Small:=fun h=>by have:=h.sites;omega
    simp only [go_sem,f12,h1]
    simp [thin,this]
  by_cases h2:(l.roads.length:Int)>6
  · have:¬l.Small:=fun h=>by have:=h.roads;omega
    simp only [go_sem,f12,h1,h2]
    simp [thin,this]
  simp only [go_sem,f12,h1,h2]
  refine RX_for l.roads.length (fun k=>[(3,.c (.int .i64 k))]) (fun _=>[.cells [.int .i64 l.last,.int .i64 l.home,.int .i64 l.purse,.int .i64 l.bad,.int .i64 l.rest,L g1 l.sites,L g2 l.roads]]) (fun k=>∀i,i<k→(l.roads.getD i default).length≤6) (fun i h=>by omega) (by simp only [go_sem]<;>rfl) ?_
  intro k hk hP
  by_cases h3:k<l.roads.length
  · simp only [go_sem,h3,atI_nat,wrap_succ (n:=1000) (show k<1000 by omega) (by decide)]
    refine ⟨fun c=>?_,fun c i hi=>?_⟩
    · have:¬l.Small:=fun h=>by
        have:=h.road (l.roads.getD k default) (by rw [getD_lt _ _ _ h3];exact List.getElem_mem h3)
        omega
      simp [thin,this]
    · by_cases hik:i=k
      · subst hik;omega
      · exact hP i (by omega)
  · have hs:l.Small:=⟨by omega,by omega,fun r hr=>by
      obtain ⟨i,hi,rfl⟩:=List.getElem_of_mem hr
      have:=hP i (by omega)
      rwa [getD_lt _ _ _ hi] at this⟩
    by_cases h0:checkLand l=0
    · simp only [go_sem,h3,P49 hs.fits,h0,P50 (valid_of h0)]
      simp [thin,hs,h0]
    · simp only [go_sem,h3,P49 hs.fits,h0]
      simp [thin,hs,h0])
theorem P19 (hs:l.Small) {Q:V→Prop}:CallP tab 10 [landV g1 g2 l] Q↔Q (landV (false,false) (false,false) l):=CallP_of (by
  refine Val_X (fn:=f10) rfl ?_
  have h1:=hs.sites
  have h2:=hs.roads
  simp only [go_sem,f10]
  refine RX_for l.sites.length (fun k=>[(4,.c (.int .i64 k))]) (fun k=>[.cells [.int .i64 l.last,.int .i64 l.home,.int .i64 l.purse,.int .i64 l.bad,.int .i64 l.rest,L g1 l.sites,L g2 l.roads],.cells [.int .i64 0,.int .i64 0,.int .i64 0,.int .i64 0,.int .i64 0,.nils,.nils],.cells [.int .i64 l.last,.int .i64 l.home,.int .i64 l.purse,.int .i64 l.bad,.int .i64 l.rest,.sl 3 k 0 k,.nils],.arr false k 3 ((l.sites.take k).map Row.row)]) (fun k=>True) trivial (by simp only [go_sem,List.take_zero]<;>rfl) ?_
  intro k hk _
  by_cases h3:k<l.sites.length
  · have hl:(l.sites.take k).length=k:=by simp;omega
    have b7:((k:Nat)+1)*24≤2^40:=by omega
    simp only [go_sem,h3,hl,b7,atI_nat,wrap_succ (n:=1000) (show k<1000 by omega) (by decide)]
    rw [take_getD h3 default,List.map_append];rfl
  · have:k=l.sites.length:=by omega
    subst this
    simp only [go_sem,h3,List.take_length]
    refine RX_for l.roads.length (fun k=>[(6,.c (.int .i64 k))]) (fun k=>[.cells [.int .i64 l.last,.int .i64 l.home,.int .i64 l.purse,.int .i64 l.bad,.int .i64 l.rest,L g1 l.sites,L g2 l.roads],.cells [.int .i64 0,.int .i64 0,.int .i64 0,.int .i64 0,.int .i64 0,.nils,.nils],.cells [.int .i64 l.last,.int .i64 l.home,.int .i64 l.purse,.int .i64 l.bad,.int .i64 l.rest,.sl 3 l.sites.length 0 l.sites.length,.sl 4 k 0 k],.arr false l.sites.length 3 (l.sites.map Row.row),.arr false k 1 ((l.roads.take k).map Row.row)]) (fun k=>True) trivial (by simp only [go_sem,List.take_zero]<;>rfl) ?_
    intro k hk _
    by_cases h4:k<l.roads.length
    · have hl:(l.roads.take k).length=k:=by simp;omega
      have hr:(l.roads.getD k default).length≤1000:=by
        have:=hs.road (l.roads.getD k default) (by rw [getD_lt _ _ _ h4];exact List.getElem_mem h4)
        omega
      have b7:((k:Nat)+1)*24≤2^40:=by omega
      simp only [go_sem,h4,hl,b7,P20 hr,atI_nat,wrap_succ (n:=1000) (show k<1000 by omega) (by decide)]
      rw [take_getD h4 default,List.map_append];rfl
    · have:k=l.roads.length:=by omega
      subst this
      simp only [go_sem,h4,List.take_length])
end Am.Mv
namespace Am.Mv
open Go Am Am.Tm
set_option maxRecDepth 100000
set_option maxHeartbeats 4000000
set_option linter.unusedSimpArgs false
set_option linter.unusedVariables false
variable {l:Land} {g1 g2:Bool × Bool}
theorem thin_small (h:thin l=true):l.Small:=by
  simp [thin] at h;exact h.1
end Am.Mv
namespace Am.Mv
open Go Am Am.Tm
set_option maxRecDepth 100000
set_option maxHeartbeats 4000000
set_option linter.unusedSimpArgs false
set_option linter.unusedVariables false
def upTo (a b:Int):List Int:=(List.range (b+1-a).toNat).map fun (k:Nat)=>a+k
def comb (last:Int):Nat→List Int→Int→List (List Int)
  | 0,w,_=>[w]
  | m+1,w,fr=>(upTo fr (last+1-((m:Int)+1))).flatMap fun y=>comb last m (w++[y]) (y+1)
section
variable {σ:Type} {own:Nat→Prop} {F:C} {R RS:σ→List Obj→Prop} {step:σ→List Int→σ × Bool}
def YieldOk (own:Nat→Prop) (F:C) (R RS:σ→List Obj→Prop) (step:σ→List Int→σ × Bool):Prop:=
  ∀s H c w,w.length≤300→R s H→LstIn 1 own H c w→CallV tab (.c F) [.c c] H fun v H'=>v = .c (.bool (step s w).2)∧Keep own H H'∧(((step s w).2=true∧R (step s w).1 H')∨((step s w).2=false∧RS (step s w).1 H'))
theorem add_ok (hmono:∀s H X,R s H→R s (H++X)) (hF:YieldOk own F R RS step) {lc:List C} {last:Int} (hl0:0≤last) (hl4:last≤4) {yb lb ab:Nat} (oy:¬own yb) (ol:¬own lb) (oa:¬own ab)
    (hown:∀o,ab<o→¬own o)
    (hlc:lc.head?=some (.int .i64 last)):∀(m:Nat),m≤100→∀(s:σ) (H:List Obj) (c:C) (w:List Int) (fr:Int),0≤fr→fr≤1000→w.length+m≤200→R s H→LstIn 1 own H c w→getH H yb = .cells [F]→getH H lb = .cells lc→getH H ab = .cells [.fn 64 false [] [.ptr yb 0,.ptr lb 0,.ptr ab 0]] →
    Fn tab (.f 64 [.c c,.c (.int .i64 fr),.c (.int .i64 m),.c (.ptr yb 0),.c (.ptr lb 0),.c (.ptr ab 0)] H) fun v H'=>v = .c (.bool (foldY step s (comb last m w fr)).2)∧Keep own H H'∧(((foldY step s (comb last m w fr)).2=true∧R (foldY step s (comb last m w fr)).1 H')∨((foldY step s (comb last m w fr)).2=false∧RS (foldY step s (comb last m w fr)).1 H'))
  | 0,_,s,H,c,w,fr,f0,f1,hwl,hR,hc,hy,hl,ha=>by
    refine Fn_X (fn:=f64) rfl rfl ?_
    simp only [go_sem,f64,hy]
    refine (hF s H c w (by omega) hR hc).mono ?_
    rintro v H' ⟨rfl,hk,hr⟩
    simp only [go_sem]
    have e:foldY step s (comb last 0 w fr)=step s w:=by
      simp only [comb,foldY]
      split
      · rename_i h;rw [←h]
      · rename_i h;rw [←(Bool.not_eq_true _ ▸ h:(step s w).2=false)]
    rw [e]
    exact ⟨rfl,hk,hr⟩
  | m+1,hm,s,H,c,w,fr,f0,f1,hwl,hR,hc,hy,hl,ha=>by
    refine Fn_X (fn:=f64) rfl rfl ?_
    have hm0:¬((m+1:Nat):Int)=0:=by omega
    obtain ⟨l1,rfl⟩:∃l1,lc = .int .i64 last::l1:=by
      cases lc with
      | nil=>cases hlc
      | cons a b=>cases hlc;exact ⟨b,rfl⟩
    simp only [go_sem,f64,hm0]
    let hi:Int:=last+1-((m:Int)+1)
    let ys:=upTo fr hi
    let g:=fun y=>comb last m (w++[y]) (y+1)
    have hcomb:comb last (m+1) w fr=ys.flatMap g:=rfl
    have hyl:ys.length=(hi+1-fr).toNat:=by simp [ys,upTo]
    have hyk:∀k,k<ys.length→ys.getD k default=fr+k:=by
      intro k hk
      rw [getD_lt _ _ _ hk];simp [ys,upTo]
    have hw1:IntKind.i64.wrap (last+1)=last+1:=wrapB (by omega) (by omega)
    have hw2:IntKind.i64.wrap (last+1-((m+1:Nat):Int))=hi:=by rw [wrapB (by omega) (by omega)];rfl
    have hw3:IntKind.i64.wrap (((m+1:Nat):Int)-1)=m:=by rw [wrapB (by omega) (by omega)];omega
    refine RX_whileU (α:=Nat × σ × List Obj) (fun x=>[(10,.c (.int .i64 (fr+x.1)))]) (fun x=>x.2.2) (fun x=>x.1≤ys.length∧Keep own H x.2.2∧R x.2.1 x.2.2∧foldY step s ((ys.take x.1).flatMap g)=(x.2.1,true)) (fun x=>ys.length-x.1) (0,s,H) ⟨Nat.zero_le _,Keep.refl,hR,by simp [foldY]⟩ (by simp only [go_sem,Int.add_zero]<;>rfl) ?_
    · rintro ⟨k,s',H'⟩ ⟨hk,hK,hR',hf⟩
      simp only at hk hK hR' hf
      have hy':=hK.get oy hy (by simp)
      have hl':=hK.get ol hl (by simp)
      have ha':=hK.get oa ha (by simp)
      have hc':=hc.keep hK
      by_cases h1:fr+k≤hi
      · have hk1:k<ys.length:=by omega
        have hw4:IntKind.i64.wrap (fr+k+1)=fr+k+1:=wrapB (by omega) (by omega)
        have hrow:=hc'.rows
        have ha2:∀X,getH (H'++X) ab = .cells [.fn 64 false [] [.ptr yb 0,.ptr lb 0,.ptr ab 0]]:=fun X=>getH_keep ha' (by simp)
        have hlt:=lt_of_getH (h:=H') (o:=ab) (by rw [ha'];simp)
        have n1:¬ab=H'.length:=by omega
        have n2:¬H'.length=ab:=by omega
        have n3:¬ab=H'.length+1:=by omega
        have n4:¬H'.length+1=ab:=by omega
        have n5:¬H'.length=H'.length+1:=by omega
        have n6:¬H'.length+1=H'.length:=by omega
        have b1:w.length*8≤2^40:=by omega
        have b2:(w.length+1)*8≤2^40:=by omega
        have hgo:∀{Q:V→List Obj→Prop},(∀v H2,v = .c (.bool (foldY step s' (g (fr+k))).2)∧Keep own H' H2∧(((foldY step s' (g (fr+k))).2=true∧R (foldY step s' (g (fr+k))).1 H2)∨((foldY step s' (g (fr+k))).2=false∧RS (foldY step s' (g (fr+k))).1 H2))→Q v H2) →
            Fn tab (.f 64 [.c (.sl H'.length 1 0 (w.length+1)),.c (.int .i64 (fr+k+1)),.c (.int .i64 m),.c (.ptr yb 0),.c (.ptr lb 0),.c (.ptr ab 0)] (H'++[.arr false 1 1 (w.map Row.row++[[.int .i64 (fr+k)]]),.arr false 0 1 [[.int .i64 (fr+k)]],.none])) Q:=by
          intro Q hq
          have hlist:LstIn 1 own (H'++[.arr false 1 1 (w.map Row.row++[[.int .i64 (fr+k)]]),.arr false 0 1 [[.int .i64 (fr+k)]],.none]) (.sl H'.length 1 0 (w.length+1)) (w++[fr+k]):=by
            have e1:w.map Row.row++[[D.int .i64 (fr+k)]]=(w++[fr+k]).map Row.row:=by rw [List.map_append];rfl
            rw [e1,show w.length+1=(w++[fr+(k:Int)]).length by simp]
            exact .sl _ 1 false _ (hown _ (by omega)) (by rw [getH_at0];rfl)
          refine (add_ok hmono hF hl0 hl4 oy ol oa hown hlc m (by omega) s' _ _ (w++[fr+k]) (fr+k+1) (by omega) (by omega) (by simp;omega) (hmono _ _ _ hR') hlist (getH_keep hy' (by simp)) (getH_keep hl' (by simp)) (getH_keep ha' (by simp))).mono ?_
          rintro v H2 ⟨e,hk2,hr⟩
          exact hq v H2 ⟨e,Keep.append.trans hk2,hr⟩
        have hy1:ys.getD k default=fr+k:=hyk k hk1
        have hfk:∀b,foldY step s' (g (fr+k))=b→foldY step s ((ys.take (k+1)).flatMap g)=b:=by
          intro b hb
          rw [take_getD hk1 default,List.flatMap_append,foldY_append,hf,hy1]
          simp only [if_true,List.flatMap_cons,List.flatMap_nil,List.append_nil]
          exact hb
        have hstop:(foldY step s' (g (fr+k))).2=false→foldY step s (comb last (m+1) w fr)=((foldY step s' (g (fr+k))).1,false):=by
          intro hb
          have e:ys=ys.take (k+1)++ys.drop (k+1):=(List.take_append_drop _ _).symm
          rw [hcomb,e,List.flatMap_append,foldY_append,hfk _ rfl,if_neg (by rw [hb];decide)]
        have hend:∀H2,(foldY step s' (g (fr+k))).2=true→Keep own H' H2→(((foldY step s' (g (fr+k))).2=true∧R (foldY step s' (g (fr+k))).1 H2)∨((foldY step s' (g (fr+k))).2=false∧RS (foldY step s' (g (fr+k))).1 H2)) →
            ∃y:Nat × σ × List Obj,(ys.length-y.1<ys.length-k∧y.1≤ys.length∧Keep own H y.2.2∧R y.2.1 y.2.2∧foldY step s ((ys.take y.1).flatMap g)=(y.2.1,true))∧fr+(k:Int)+1=fr+(y.1:Int)∧H2=y.2.2:=by
          intro H2 hb hk2 hr
          refine ⟨(k+1,(foldY step s' (g (fr+k))).1,H2),⟨by simp only;omega,hk1,hK.trans hk2,?_,?_⟩,by simp only;omega,rfl⟩
          · rcases hr with ⟨_,h⟩ | ⟨h,_⟩
            · exact h
            · rw [hb] at h;cases h
          · exact hfk _ (by rw [←hb])
        have hstop2:∀H2,(foldY step s' (g (fr+k))).2=false→Keep own H' H2→(((foldY step s' (g (fr+k))).2=true∧R (foldY step s' (g (fr+k))).1 H2)∨((foldY step s' (g (fr+k))).2=false∧RS (foldY step s' (g (fr+k))).1 H2)) →
            false=(foldY step s (comb last (m+1) w fr)).2∧Keep own H H2∧(((foldY step s (comb last (m+1) w fr)).2=true∧R (foldY step s (comb last (m+1) w fr)).1 H2)∨((foldY step s (comb last (m+1) w fr)).2=false∧RS (foldY step s (comb last (m+1) w fr)).1 H2)):=by
          intro H2 hb hk2 hr
          rw [hstop hb]
          refine ⟨rfl,hK.trans hk2,.inr ⟨rfl,?_⟩⟩
          rcases hr with ⟨h,_⟩ | ⟨_,h⟩
          · rw [hb] at h;cases h
          · exact h
        cases hc' with
        | nils=>
          simp only [go_sem,hw1,hw2,hw3,hw4,h1,hl',ha2,n1,n2,n3,n4,n5,n6]
          simp only [List.map_nil,List.nil_append,List.length_nil,Nat.zero_add] at hgo
          refine hgo ?_
          rintro v H2 ⟨rfl,hk2,hr⟩
          by_cases hb:(foldY step s' (g (fr+k))).2=true
          · simp only [go_sem,hb,n1,n2,n3,n4,n5,n6,hw4]
            exact hend H2 hb hk2 hr
          · simp only [go_sem,hb,n1,n2,n3,n4,n5,n6,hw4]
            exact hstop2 H2 (by simpa using hb) hk2 hr
        | sl o ver frz w ho hg=>
          have hlo:=lt_of_getH (h:=H') (o:=o) (by rw [hg];simp)
          have o1:¬o=H'.length:=by omega
          have o2:¬H'.length=o:=by omega
          have o3:¬o=H'.length+1:=by omega
          have o4:¬H'.length+1=o:=by omega
          simp only [go_sem,hw1,hw2,hw3,hw4,h1,hl',ha2,n1,n2,n3,n4,n5,n6,o1,o2,o3,o4,hrow,b1,b2]
          refine hgo ?_
          rintro v H2 ⟨rfl,hk2,hr⟩
          by_cases hb:(foldY step s' (g (fr+k))).2=true
          · simp only [go_sem,hb,n1,n2,n3,n4,n5,n6,o1,o2,o3,o4,hw4]
            exact hend H2 hb hk2 hr
          · simp only [go_sem,hb,n1,n2,n3,n4,n5,n6,o1,o2,o3,o4,hw4]
            exact hstop2 H2 (by simpa using hb) hk2 hr
      · have hk':k=ys.length:=by omega
        subst hk'
        rw [List.take_length,←hcomb] at hf
        simp only [go_sem,hw1,hw2,h1,hl',hf]
        exact ⟨hK,.inl hR'⟩
end
end Am.Mv
namespace Am.Mv
open Go Am Am.Tm
set_option maxRecDepth 100000
set_option maxHeartbeats 4000000
set_option linter.unusedSimpArgs false
set_option linter.unusedVariables false
variable {l:Land} {g1 g2:Bool × Bool}
def weathersL (l:Land):List (List Int):=(List.range (l.bad+1).toNat).flatMap fun m=>comb l.last m [] 0
section
variable {σ:Type} {own:Nat→Prop} {F:C} {R RS:σ→List Obj→Prop} {step:σ→List Int→σ × Bool}
theorem wth_ok (hv:l.Valid) (hmono:∀s H X,R s H→R s (H++X)) (hF:YieldOk own F R RS step) {lb:Nat} (hk:known [F]=true) (ol:¬own lb) {s:σ} {H:List Obj} (hown:∀o,H.length≤o→¬own o) (hR:R s H)
    (hl:getH H lb = .cells [.int .i64 l.last,.int .i64 l.home,.int .i64 l.purse,.int .i64 l.bad,.int .i64 l.rest,L g1 l.sites,L g2 l.roads]) :
    Fn tab (.f 63 [.c F,.c (.ptr lb 0)] H) fun v H'=>Keep own H H'∧(((foldY step s (weathersL l)).2=true∧R (foldY step s (weathersL l)).1 H')∨((foldY step s (weathersL l)).2=false∧RS (foldY step s (weathersL l)).1 H')):=by
  refine Fn_X (fn:=f63) rfl rfl ?_
  have l0:=hv.last0
  have l4:=hv.last4
  have b0:=hv.bad0
  have b1:=hv.bad1
  have hw:IntKind.i64.wrap (l.bad+1)=l.bad+1:=wrapB (by omega) (by omega)
  have hlt:=lt_of_getH (h:=H) (o:=lb) (by rw [hl];simp)
  have hl2:∀X,getH (H++X) lb = .cells [.int .i64 l.last,.int .i64 l.home,.int .i64 l.purse,.int .i64 l.bad,.int .i64 l.rest,L g1 l.sites,L g2 l.roads]:=fun X=>getH_keep hl (by simp)
  simp only [go_sem,f63,hk,hl2,hw]
  let H0:=H++[.cells [F],.cells [.fn 64 false [] [.ptr H.length 0,.ptr lb 0,.ptr (H.length+1) 0]]]
  refine RX_whileU (α:=Nat × σ × List Obj) (fun x=>[(9,.c (.int .i64 x.1))]) (fun x=>x.2.2) (fun x=>x.1≤(l.bad+1).toNat∧Keep own H0 x.2.2∧R x.2.1 x.2.2∧foldY step s ((List.range x.1).flatMap fun m=>comb l.last m [] 0)=(x.2.1,true)) (fun x=>(l.bad+1).toNat-x.1) (0,s,H0) ⟨Nat.zero_le _,Keep.refl,hmono _ _ _ hR,by simp [foldY]⟩ (by simp only [go_sem]<;>rfl) ?_
  rintro ⟨k,s',H'⟩ ⟨hk1,hK,hR',hf⟩
  simp only at hk1 hK hR' hf
  have hy:=hK.get (o:=H.length) (x:=.cells [F]) (hown _ (Nat.le_refl _)) (by simp only [go_sem,H0]) (by simp)
  have ha:=hK.get (o:=H.length+1) (x:=.cells [.fn 64 false [] [.ptr H.length 0,.ptr lb 0,.ptr (H.length+1) 0]]) (hown _ (by omega)) (by simp only [go_sem,H0]) (by simp)
  have hl':=hK.get ol (hl2 _) (by simp)
  by_cases h1:(k:Int)<l.bad+1
  · have h2:k<(l.bad+1).toNat:=by omega
    simp only [go_sem,h1,ha]
    refine (add_ok hmono hF l0 l4 (hown _ (Nat.le_refl _)) ol (hown (H.length+1) (by omega)) (fun o ho=>hown o (by omega)) rfl k (by omega) s' H' .nils [] 0 (by omega) (by omega) (by simp;omega) hR' .nils hy hl' ha).mono ?_
    rintro v H2 ⟨rfl,hk2,hr⟩
    by_cases hb:(foldY step s' (comb l.last k [] 0)).2=true
    · simp only [go_sem,hb,wrap_succ (n:=1000) (show k<1000 by omega) (by decide)]
      refine ⟨(k+1,(foldY step s' (comb l.last k [] 0)).1,H2),⟨by simp only;omega,h2,hK.trans hk2,?_,?_⟩,rfl,rfl⟩
      · rcases hr with ⟨_,h⟩ | ⟨h,_⟩
        · exact h
        · rw [hb] at h;cases h
      · simp only [List.range_succ,List.flatMap_append,foldY_append,hf,if_true,List.flatMap_cons,List.flatMap_nil,List.append_nil]
        rw [←hb]
    · simp only [go_sem,hb]
      have hb':(foldY step s' (comb l.last k [] 0)).2=false:=by simpa using hb
      have e:foldY step s (weathersL l)=((foldY step s' (comb l.last k [] 0)).1,false):=by
        have e1:List.range (l.bad+1).toNat=List.range k++(k::(List.range (l.bad+1).toNat).drop (k+1)):=by
          have:=List.take_append_drop k (List.range (l.bad+1).toNat)
          rw [List.take_range,Nat.min_eq_left (by omega),List.drop_eq_getElem_cons (by simpa using h2)] at this
          simpa using this.symm
        rw [weathersL,e1,List.flatMap_append,foldY_append,hf,if_pos rfl,List.flatMap_cons,foldY_append,if_neg (by simp only [hb'];decide)]
      rw [e]
      refine ⟨(Keep.append (X:=_)).trans (hK.trans hk2),.inr ⟨rfl,?_⟩⟩
      rcases hr with ⟨h,_⟩ | ⟨_,h⟩
      · exact absurd h hb
      · exact h
  · have hk':k=(l.bad+1).toNat:=by omega
    subst hk'
    have hf':foldY step s (weathersL l)=(s',true):=hf
    simp only [go_sem,h1,hf']
    exact ⟨Keep.append.trans hK,.inl hR'⟩
end
def sureAssign : ACode:=(.region 0 [] [
        ⟨(some 7),.mov (.tmp 14),none,0⟩])
def sureBody : ACode:=(.block 1 (.seq (.region 1 [] [
          ⟨(some 16),.load (some 7) (.tmp 2),none,0⟩,
          ⟨(some 17),.load none (.tmp 3),none,0⟩,
          ⟨(some 18),.mov (.tmp 7),none,0⟩,
          ⟨(some 19),.call 29 true [(.tmp 16),(.tmp 17),(.tmp 18)],none,0⟩,
          ⟨(some 15),.mov (.tmp 19),none,0⟩,
          ⟨(some 20),.extract 0 (.tmp 15),none,0⟩,
          ⟨(some 21),.extract 1 (.tmp 15),none,0⟩,
          ⟨(some 22),.extract 2 (.tmp 15),none,0⟩,
          ⟨(some 9),.alloc [(.int .i64 0),(.int .i64 0),(.int .i64 0),(.int .i64 0),(.int .i64 0),(.int .i64 0),(.int .i64 0),(.int .i64 0),(.int .i64 0),(.int .i64 0),(.int .i64 0)],none,0⟩,
          ⟨(some 8),.mov (.tmp 20),none,1⟩,
          ⟨none,.store (some 11) (.tmp 9) (.tmp 21),none,1⟩,
          ⟨(some 10),.mov (.tmp 22),none,1⟩])
        (.seq (.seq (.region 0 [] [
          ⟨(some 23),.mov (.tmp 10),none,0⟩,
          ⟨(some 24),.not (.tmp 23),none,0⟩])
        (.cond (.tmp 24)
          (.seq (.region 0 [] [
            ⟨none,.store none (.tmp 6) (.cst (.c (.bool false))),none,0⟩])
          (.exit 0))
          .skip))
        (.seq (.region 0 [] [
          ⟨(some 25),.faddr 2 (.tmp 9),none,0⟩,
          ⟨(some 26),.load none (.tmp 25),none,0⟩,
          ⟨(some 27),.faddr 2 (.tmp 2),none,0⟩,
          ⟨(some 28),.load none (.tmp 27),none,0⟩,
          ⟨(some 29),.bin .sub (.tmp 26) (.tmp 28),none,0⟩,
          ⟨(some 11),.mov (.tmp 29),none,0⟩])
        (.seq (.region 0 [] [
          ⟨(some 30),.load none (.tmp 6),none,0⟩,
          ⟨(some 31),.not (.tmp 30),none,0⟩,
          ⟨(some 32),.mov (.tmp 31),none,0⟩,
          ⟨(some 33),.mov (.tmp 11),some (32,false),0⟩,
          ⟨(some 34),.load none (.tmp 4),some (32,false),0⟩,
          ⟨(some 35),.bin .lss (.tmp 33) (.tmp 34),some (32,false),0⟩,
          ⟨(some 36),.pick (.tmp 32) (.cst (.c (.bool true))) (.tmp 35),none,0⟩])
        (.cond (.tmp 36)
          (.region 0 [] [
            ⟨(some 37),.mov (.tmp 11),none,0⟩,
            ⟨(some 38),.mov (.tmp 7),none,0⟩,
            ⟨none,.store none (.tmp 4) (.tmp 37),none,0⟩,
            ⟨none,.store none (.tmp 5) (.tmp 38),none,0⟩,
            ⟨none,.store none (.tmp 6) (.cst (.c (.bool true))),none,0⟩])
          .skip))))))
abbrev sureOwn (o:Nat):Prop:=o=2∨o=3∨o=4∨o=6
def sureStep (l:Land) (plan:List Int) (s:Int × List Int × Bool) (w:List Int):(Int × List Int × Bool) × Bool:=
  match failAt l w plan with
  | some _=>((s.1,s.2.1,false),false)
  | none=>if s.2.2=false∨IntKind.i64.wrap ((stAt l w plan plan.length).money-l.purse)<s.1 then ((IntKind.i64.wrap ((stAt l w plan plan.length).money-l.purse),w,true),true) else (s,true)
structure sureR (g1 g2 g:Bool × Bool) (l:Land) (plan:List Int) (lp:ALoop) (s:Int × List Int × Bool) (H:List Obj):Prop where
  h0:getH H 0 = .cells [.int .i64 l.last,.int .i64 l.home,.int .i64 l.purse,.int .i64 l.bad,.int .i64 l.rest,L g1 l.sites,L g2 l.roads]
  h1:getH H 1 = .cells [L g plan]
  h2:getH H 2 = .cells [.int .i64 s.1]
  h3:∃cw,getH H 3 = .cells [cw]∧LstIn 1 sureOwn H cw s.2.1∧known [cw]=true
  h4:getH H 4 = .cells [.bool s.2.2]
  h6:getH H 6 = .loop lp
theorem sureR.mono {lp:ALoop} {g:Bool × Bool} {plan:List Int} {s:Int × List Int × Bool} {H X:List Obj} (h:sureR g1 g2 g l plan lp s H):sureR g1 g2 g l plan lp s (H++X):=by
  obtain ⟨cw,a,b,c⟩:=h.h3
  exact ⟨getH_keep h.h0 (by simp),getH_keep h.h1 (by simp),getH_keep h.h2 (by simp),⟨cw,getH_keep a (by simp),b.keep .append,c⟩,getH_keep h.h4 (by simp),getH_keep h.h6 (by simp)⟩
theorem sure_yield (hv:l.Valid) {g:Bool × Bool} {plan:List Int} (hp:AreSites l plan) (hpl:plan.length≤100) {v0 v1 v7 v8 v9 v10 v11 v12 v13:V} :
    YieldOk sureOwn (.yld 6) (sureR g1 g2 g l plan ⟨.ready,.normal,[v0,v1,.c (.ptr 0 0),.c (.ptr 1 0),.c (.ptr 2 0),.c (.ptr 3 0),.c (.ptr 4 0),v7,v8,v9,v10,v11,v12,v13]++List.replicate 28 (.c .any),[14],sureAssign,sureBody⟩)
      (sureR g1 g2 g l plan ⟨.done,.exit 0,[v0,v1,.c (.ptr 0 0),.c (.ptr 1 0),.c (.ptr 2 0),.c (.ptr 3 0),.c (.ptr 4 0),v7,v8,v9,v10,v11,v12,v13]++List.replicate 28 (.c .any),[14],sureAssign,sureBody⟩) (sureStep l plan):=by
  intro s H c w hwl hR hc
  rw [CallV_y]
  refine Fn_y hR.h6 rfl ?_
  have l6:=lt_of_getH (h:=H) (o:=6) (by rw [hR.h6];simp)
  have hc0:=hc.known
  simp only [go_sem,sureAssign,setParams,assignX,hR.h6]
  refine ⟨_,rfl,rfl,rfl,?_⟩
  obtain ⟨cw,w3,w4,w5⟩:=hR.h3
  generalize hlb:ALoop.mk .busy _ _ _ _ _=lb
  obtain ⟨H1,hH1⟩:∃H1,H1=setH H 6 (.loop lb):=⟨_,rfl⟩
  rw [←hH1]
  have len:H1.length=H.length:=by rw [hH1,length_setH]
  have g:∀o,o≠6→getH H1 o=getH H o:=fun o ho=>by rw [hH1,getH_setH,if_neg (fun h=>ho h.1)]
  have e0:=(g 0 (by decide)).trans hR.h0
  have e1:=(g 1 (by decide)).trans hR.h1
  have e2:=(g 2 (by decide)).trans hR.h2
  have e3:=(g 3 (by decide)).trans w3
  have e4:=(g 4 (by decide)).trans hR.h4
  have e6:getH H1 6 = .loop lb:=by rw [hH1,getH_setH,if_pos ⟨rfl,l6⟩]
  have m0:0<H1.length:=by omega
  have m1:1<H1.length:=by omega
  have m2:2<H1.length:=by omega
  have m3:3<H1.length:=by omega
  have m4:4<H1.length:=by omega
  have m6:6<H1.length:=by omega
  have hkeep:∀H2:List Obj,H1.length≤H2.length→(∀o,¬sureOwn o→o<H1.length→getH H2 o=getH H1 o)→Keep sureOwn H H2:=fun H2 a b=>⟨by omega,fun o ho hl=>by rw [b o ho (by omega),g o (fun h=>ho (by simp [sureOwn,h]))]⟩
  have hwB:w.length<Big:=Nat.lt_of_le_of_lt hwl (by decide)
  obtain ⟨gc,argC⟩:∃gc,∀X,toArgC (H1++X) c=some (L gc w):=by
    cases hc with
    | nils=>exact ⟨(true,true),fun X=>rfl⟩
    | sl o ver fr w ho hg=>
      refine ⟨(false,true),fun X=>?_⟩
      have hg1:getH H1 o = .arr fr ver 1 (w.map Row.row):=by rw [g o (fun h=>ho (by simp [sureOwn,h])),hg]
      rw [toArgC_sl,getH_keep hg1 (by simp)]
      simp only [if_true,part_map (l:=w) rfl,Option.map_some]
      rfl
  obtain ⟨p,wo,can⟩:=s
  simp only at e2 e4
  have hc3:∀X (H2:List Obj),H2.length=H1.length→(∀o,¬sureOwn o→getH H2 o=getH H1 o)→LstIn 1 sureOwn (H2++X) c w∧LstIn 1 sureOwn (H2++X) cw wo:=by
    intro X H2 hl2 hg2
    have hk:Keep sureOwn H (H2++X):=hkeep _ (by simp;omega) fun o ho hlo=>by rw [getH_left (by omega),hg2 o ho]
    exact ⟨hc.keep hk,w4.keep hk⟩
  cases hfa:failAt l w plan with
  | some k=>
    simp only [go_sem,sureBody,getH_left,setH_left,getH_setH,length_setH,m0,m1,m2,m3,m4,m6,e0,e1,e2,e3,e4,e6,argC,P53 hv hp hpl hwB,playC,hfa,hc0,bodyX]
    subst hlb
    refine ⟨_,rfl,?_⟩
    have es:sureStep l plan (p,wo,can) w=((p,wo,false),false):=by simp only [sureStep,hfa]
    rw [es]
    refine ⟨rfl,hkeep _ (by simp [length_setH]) ?_,.inr ⟨rfl,?_⟩⟩
    · intro o ho hlo
      simp only [sureOwn,not_or] at ho
      simp only [getH_left,length_setH,hlo,getH_setH,ho,false_and,if_false]
    · refine ⟨?_,?_,?_,⟨cw,?_,(hc3 _ _ (by simp only [length_setH]) (fun o ho=>by
        simp only [sureOwn,not_or] at ho
        simp only [getH_setH,ho,false_and,if_false])).2,w5⟩,?_,?_⟩<;>(simp only [go_sem,getH_left,getH_setH,length_setH,m0,m1,m2,m3,m4,m6,e0,e1,e2,e3,e4]<;>rfl)
  | none=>
    by_cases hcd:can=false∨IntKind.i64.wrap ((stAt l w plan plan.length).money-l.purse)<p
    · have es:sureStep l plan (p,wo,can) w=((IntKind.i64.wrap ((stAt l w plan plan.length).money-l.purse),w,true),true):=by simp only [sureStep,hfa];rw [if_pos hcd]
      rw [es]
      cases can with
      | false=>
        simp only [go_sem,sureBody,getH_left,setH_left,getH_setH,length_setH,m0,m1,m2,m3,m4,m6,e0,e1,e2,e3,e4,e6,argC,P53 hv hp hpl hwB,playC,hfa,hc0,bodyX]
        subst hlb
        refine ⟨_,rfl,hkeep _ (by simp [length_setH]) ?_,.inl ?_⟩
        · intro o ho hlo
          simp only [sureOwn,not_or] at ho
          simp only [getH_left,length_setH,hlo,getH_setH,ho,false_and,if_false]
        · refine ⟨?_,?_,?_,⟨c,?_,(hc3 _ _ (by simp only [length_setH]) (fun o ho=>by
        simp only [sureOwn,not_or] at ho
        simp only [getH_setH,ho,false_and,if_false])).1,hc0⟩,?_,?_⟩<;>(simp only [go_sem,getH_left,getH_setH,length_setH,m0,m1,m2,m3,m4,m6,e0,e1,e2,e3,e4]<;>rfl)
      | true=>
        have hlt:IntKind.i64.wrap ((stAt l w plan plan.length).money-l.purse)<p:=by
          rcases hcd with h | h
          · cases h
          · exact h
        simp only [go_sem,sureBody,getH_left,setH_left,getH_setH,length_setH,m0,m1,m2,m3,m4,m6,e0,e1,e2,e3,e4,e6,argC,P53 hv hp hpl hwB,playC,hfa,hc0,bodyX,hlt]
        subst hlb
        refine ⟨_,rfl,hkeep _ (by simp [length_setH]) ?_,.inl ?_⟩
        · intro o ho hlo
          simp only [sureOwn,not_or] at ho
          simp only [getH_left,length_setH,hlo,getH_setH,ho,false_and,if_false]
        · refine ⟨?_,?_,?_,⟨c,?_,(hc3 _ _ (by simp only [length_setH]) (fun o ho=>by
        simp only [sureOwn,not_or] at ho
        simp only [getH_setH,ho,false_and,if_false])).1,hc0⟩,?_,?_⟩<;>(simp only [go_sem,getH_left,getH_setH,length_setH,m0,m1,m2,m3,m4,m6,e0,e1,e2,e3,e4]<;>rfl)
    · have es:sureStep l plan (p,wo,can) w=((p,wo,can),true):=by simp only [sureStep,hfa];rw [if_neg hcd]
      rw [es]
      have hc1:can=true:=by
        cases can with
        | true=>rfl
        | false=>exact absurd (.inl rfl) hcd
      have hlt:¬IntKind.i64.wrap ((stAt l w plan plan.length).money-l.purse)<p:=fun h=>hcd (.inr h)
      subst hc1
      simp only [go_sem,sureBody,getH_left,setH_left,getH_setH,length_setH,m0,m1,m2,m3,m4,m6,e0,e1,e2,e3,e4,e6,argC,P53 hv hp hpl hwB,playC,hfa,hc0,bodyX,hlt]
      subst hlb
      refine ⟨_,rfl,hkeep _ (by simp [length_setH]) ?_,.inl ?_⟩
      · intro o ho hlo
        simp only [sureOwn,not_or] at ho
        simp only [getH_left,length_setH,hlo,getH_setH,ho,false_and,if_false]
      · refine ⟨?_,?_,?_,⟨cw,?_,(hc3 _ _ (by simp only [length_setH]) (fun o ho=>by
        simp only [sureOwn,not_or] at ho
        simp only [getH_setH,ho,false_and,if_false])).2,w5⟩,?_,?_⟩<;>(simp only [go_sem,getH_left,getH_setH,length_setH,m0,m1,m2,m3,m4,m6,e0,e1,e2,e3,e4]<;>rfl)
def sureL (l:Land) (plan:List Int):Int × List Int × Bool:=(foldY (sureStep l plan) (0,[],false) (weathersL l)).1
theorem F84 {h:List Obj} {Q:V→List Obj→Prop}:Fn tab (.f 50 [landV g1 g2 l] h) Q↔Q (.c (.fn 63 false [] [.ptr h.length 0])) (h++[.cells [.int .i64 l.last,.int .i64 l.home,.int .i64 l.purse,.int .i64 l.bad,.int .i64 l.rest,L g1 l.sites,L g2 l.roads]]):=by
  refine Fn_iff (Fn_X (fn:=f50) rfl rfl ?_)
  simp only [go_sem,f50]
theorem V64 {g:Bool × Bool} {plan:List Int} (hv:l.Valid) (hp:AreSites l plan) (hpl:plan.length≤100) :
    ∃b:Bool,∀{Q:V→Prop},CallP tab 31 [landV g1 g2 l,.c (L g plan)] Q↔Q (.tup [.c (.int .i64 (sureL l plan).1),.c (L (b,false) (sureL l plan).2.1),.c (.bool (sureL l plan).2.2)]):=by
  suffices h:∃b:Bool,CallP tab 31 [landV g1 g2 l,.c (L g plan)] (Eq (.tup [.c (.int .i64 (sureL l plan).1),.c (L (b,false) (sureL l plan).2.1),.c (.bool (sureL l plan).2.2)])) by
    obtain ⟨b,v,hval,rfl⟩:=h
    exact ⟨b,CallP_of hval⟩
  suffices h:CallP tab 31 [landV g1 g2 l,.c (L g plan)] (fun v=>∃b:Bool,v=(.tup [.c (.int .i64 (sureL l plan).1),.c (L (b,false) (sureL l plan).2.1),.c (.bool (sureL l plan).2.2)])) by
    obtain ⟨v,hval,b,rfl⟩:=h
    exact ⟨b,_,hval,rfl⟩
  refine CallP_X (fn:=f31) rfl ?_
  simp only [go_sem,f31,F84]
  refine RX_range ?_
  show CallV tab (.c (.fn 63 false [] [.ptr 5 0])) [.c (.yld 6)] _ _
  rw [CallV_fn]
  have hy:=sure_yield (g1:=g1) (g2:=g2) hv (g:=g) hp hpl (v0:=landV g1 g2 l) (v1:=.c (L g plan)) (v7:=.c .any) (v8:=.c .any) (v9:=.c .any) (v10:=.c .any) (v11:=.c .any) (v12:=landV g1 g2 l) (v13:=.c (.fn 63 false [] [.ptr 5 0]))
  refine (wth_ok (g1:=g1) (g2:=g2) hv (fun s H X h=>h.mono) hy (lb:=5) rfl (by simp [sureOwn]) (s:=(0,[],false)) (fun o ho h=>?_) ⟨rfl,rfl,rfl,⟨.nils,rfl,.nils,rfl⟩,rfl,rfl⟩ rfl).mono ?_
  · simp only [List.length_append,List.length_cons,List.length_nil] at ho
    simp only [sureOwn] at h
    omega
  · rintro v H' ⟨hk,hr⟩
    have key:∀lp:ALoop,sureR g1 g2 g l plan lp (foldY (sureStep l plan) (0,[],false) (weathersL l)).1 H'→∃b:Bool,∃cw:C,
        getH H' 2 = .cells [.int .i64 (sureL l plan).1]∧getH H' 3 = .cells [cw]∧known [cw]=true∧(∀W X Y Z,toResC (setH (setH (setH (setH H' 6 W) 2 X) 3 Y) 4 Z) cw=some (L (b,false) (sureL l plan).2.1))∧getH H' 4 = .cells [.bool (sureL l plan).2.2]∧6<H'.length:=by
      intro lp hR
      obtain ⟨cw,w3,w4,w5⟩:=hR.h3
      obtain ⟨b,hb⟩:=w4.res
      refine ⟨b,cw,hR.h2,w3,w5,fun W X Y Z=>hb _ fun o ho=>?_,hR.h4,lt_of_getH (h:=H') (o:=6) (by rw [hR.h6];simp)⟩
      simp only [sureOwn,not_or] at ho
      simp only [getH_setH,ho,false_and,if_false]
    rcases hr with ⟨_,hR⟩ | ⟨_,hR⟩
    · obtain ⟨b,cw,e2,e3,ek,er,e4,l6⟩:=key _ hR
      refine rangeX_of hR.h6 (fun h=>by cases h) fun W=>?_
      have m2:2<H'.length:=by omega
      have m3:3<H'.length:=by omega
      have m4:4<H'.length:=by omega
      simp only [go_sem,false_and,getH_setH,length_setH,e2,e3,e4,ek,er,m2,m3,m4]
      exact ⟨b,rfl⟩
    · obtain ⟨b,cw,e2,e3,ek,er,e4,l6⟩:=key _ hR
      refine rangeX_of hR.h6 (fun h=>by cases h) fun W=>?_
      have m2:2<H'.length:=by omega
      have m3:3<H'.length:=by omega
      have m4:4<H'.length:=by omega
      simp only [go_sem,false_and,getH_setH,length_setH,e2,e3,e4,ek,er,m2,m3,m4]
      exact ⟨b,rfl⟩
end Am.Mv
