/-
  A part of the proof: the texts W7, W8, W9, W10, W11, W12 of this seat, joined.
-/
import Derived.Test.YtblekjhhceknaaaGreatWalkE
namespace Am.Vt
open Go Am
set_option maxRecDepth 100000
set_option maxHeartbeats 4000000
set_option linter.unusedSimpArgs false
set_option linter.unusedVariables false
variable {g1 g2 g3 g4 gt:Bool × Bool} {v:Vat} {t:Truth}
end Am.Vt
namespace Am.Vt
open Go Am
set_option maxRecDepth 100000
set_option maxHeartbeats 4000000
set_option linter.unusedSimpArgs false
set_option linter.unusedVariables false
variable {g1 g2 g3 g4 gt ga gb:Bool × Bool} {v:Vat} {t:Truth}
theorem rBare (hv:v.Valid) (hIs:IsT v t) {d:Int} (hd:d<v.drift.length) {Q:V→Prop}:CallP tab 60 [truthG gt t,.c (.int .i64 d)] Q↔Q (.c (.int .i64 (bareI t d))):=CallP_of (by
  refine Val_X (fn:=f60) rfl ?_
  have v1:=hv.drift
  have v4:=hv.last7
  have tl:=hIs.dl
  by_cases h0:d<0
  · have hb:bareI t d=0:=if_pos h0
    simp only [go_sem,f60,h0,hb]
  · obtain ⟨n,rfl⟩:∃n:Nat,d=n:=⟨d.toNat,by omega⟩
    have hb:bareI t n=bareS t (n+1):=by rw [bareI,if_neg h0];rfl
    rw [hb]
    simp only [go_sem,f60,h0]
    refine RX_forC (n+1) (fun k=>[(5,.c (.int .i64 (bareS t k))),(6,.c (.int .i64 k))]) (fun _=>True) rfl trivial (by simp only [go_sem,bareS]<;>first | rfl | exact ⟨rfl,rfl⟩) ?_
    intro k hk _
    have e4:IntKind.i64.wrap ((k:Int)+1)=((k+1:Nat):Int):=wrap_succ (n:=3000) (by omega) (by decide)
    by_cases hlt:k<n+1
    · have hle:(k:Int)≤n:=by omega
      have q:k<t.drift.length:=by omega
      have b1:=bareS_bd hv hIs (k:=k) (by omega)
      have b2:=hIs.drift hv (d:=k) (by omega)
      have e5:IntKind.i64.wrap (bareS t k+t.drift.getD k default)=bareS t (k+1):=by rw [show t.drift.getD k default=t.drift.getD k 0 from rfl,wrapB (by omega) (by omega)];rfl
      simp only [go_sem,hle,hlt,q,atI_nat,e4,e5]
    · have:k=n+1:=by omega
      subst this
      have hle:¬((n+1:Nat):Int)≤n:=by omega
      simp only [go_sem,hle])
def keptB (v:Vat) (ts:List Truth) (d:Nat) (n:Int):Bool:=ts.all fun t=>inR (bareS t (d+1)+n) (-v.band) v.band
def keepsR (v:Vat) (ts:List Truth) (l:List Int):Bool:=(List.range l.length).all fun d=>keptB v ts d (sumI (l.take (d+1)))
end Am.Vt
namespace Am.Vt
open Go Am
set_option maxRecDepth 100000
set_option maxHeartbeats 4000000
set_option linter.unusedSimpArgs false
set_option linter.unusedVariables false
variable {g1 g2 g3 g4 gt ga gb:Bool × Bool} {v:Vat} {t:Truth}
def refShows (v:Vat) (p:Prf):Bool:=((inR p.over (-1) v.last&&inR p.under (-1) v.last) && !(decide (p.over<0)&&decide (p.under<0)))&&(isTruthB v p.most&&(isTruthB v p.least&&showsB v p))
end Am.Vt
namespace Am.Vt
open Go Am
set_option maxRecDepth 100000
set_option maxHeartbeats 4000000
set_option linter.unusedSimpArgs false
set_option linter.unusedVariables false
variable {g1 g2 g3 g4 gt ga gb:Bool × Bool} {v:Vat} {t:Truth}
end Am.Vt
namespace Am.Vt
open Go Am
set_option maxRecDepth 100000
set_option maxHeartbeats 4000000
set_option linter.unusedSimpArgs false
set_option linter.unusedVariables false
variable {g1 g2 g3 g4 gt ga gb:Bool × Bool} {v:Vat} {t:Truth}
theorem kept_room (hv:v.Valid) {ts:List Truth} (hm:∀t,t∈ts↔t∈truthsL v []) (hp:posB v []=true) {d:Nat} (hd:d<v.drift.length) {n:Int}:keptB v ts d n=inR n (roomI v d).lo (roomI v d).hi:=by
  have h:=ext_ok hv hp
  rw [Bool.eq_iff_iff,keptB,List.all_eq_true,inR_iff]
  obtain ⟨a1,a2⟩:=h.ma d hd
  obtain ⟨b1,b2⟩:=h.la d hd
  simp only [roomI]
  constructor
  · intro hk
    have k1:=hk _ ((hm _).2 a1)
    have k2:=hk _ ((hm _).2 b1)
    rw [inR_iff] at k1 k2
    omega
  · intro hn t ht
    have k1:=h.mm d hd t ((hm t).1 ht)
    have k2:=h.lm d hd t ((hm t).1 ht)
    rw [inR_iff]
    omega
theorem keeps_eq (hv:v.Valid) {ts:List Truth} (hm:∀t,t∈ts↔t∈truthsL v []) (hp:posB v []=true) {l:List Int} (hl:l.length≤v.drift.length):keepsR v ts l=keepsB v l:=by
  rw [Bool.eq_iff_iff,keepsR,keepsB,List.all_eq_true,List.all_eq_true]
  constructor<;>intro h i hi
  · have:=h i hi
    rwa [kept_room hv hm hp (by have:=List.mem_range.1 hi;omega)] at this
  · rw [kept_room hv hm hp (by have:=List.mem_range.1 hi;omega)]
    exact h i hi
structure ReachOk (room:Nat→Rg) (d:Nat) (now:Rg) (l:List Rg):Prop where
  le:∀i,i<l.length→(l.getD i default).lo≤(l.getD i default).hi
  rm:∀i,i<l.length→(room (d+i)).lo≤(l.getD i default).lo∧(l.getD i default).hi≤(room (d+i)).hi
  st:∀i,i<l.length→(l.getD i default)=nextR (room (d+i)) (if i=0 then now else l.getD (i-1) default)
theorem reachF_ok {room:Nat→Rg}:∀{n d:Nat} {now:Rg},ReachOk room d now (reachF room n d now)
  | 0,d,now=>⟨fun i h=>by simp [reachF] at h,fun i h=>by simp [reachF] at h,fun i h=>by simp [reachF] at h⟩
  | n+1,d,now=>by
    rw [reachF]
    split
    · exact ⟨fun i h=>by simp at h,fun i h=>by simp at h,fun i h=>by simp at h⟩
    · rename_i hg
      obtain ⟨h1,h2,h3⟩:=reachF_ok (room:=room) (n:=n) (d:=d+1) (now:=nextR (room d) now)
      refine ⟨fun i hi=>?_,fun i hi=>?_,fun i hi=>?_⟩
      · cases i with
        | zero=>simp only [List.getD_cons_zero];omega
        | succ i=>simp only [List.getD_cons_succ];exact h1 i (by simpa using hi)
      · cases i with
        | zero=>simp only [List.getD_cons_zero,nextR,Nat.add_zero];omega
        | succ i=>
          have:=h2 i (by simpa using hi)
          simp only [List.getD_cons_succ]
          rwa [show d+(i+1)=d+1+i by omega]
      · cases i with
        | zero=>simp
        | succ i=>
          have:=h3 i (by simpa using hi)
          simp only [List.getD_cons_succ,Nat.add_sub_cancel,Nat.succ_ne_zero,if_false]
          rw [this,show d+(i+1)=d+1+i by omega]
          cases i with
          | zero=>simp
          | succ i=>simp
theorem reach_ok : ReachOk (roomI v) 0 ⟨0,0⟩ (reachL v):=reachF_ok
theorem fedD_in {l:List Rg} (hl:∀i,i<l.length→(l.getD i default:Rg).lo≤(l.getD i default).hi):∀{d:Nat},d<l.length→(l.getD d default).lo≤fedD l d∧fedD l d≤(l.getD d default).hi:=by
  intro d hd
  have h1:=hl d hd
  by_cases h:d+1<l.length
  · rw [fedD_step h];omega
  · rw [fedD_last (by omega)];omega
theorem keepI_bd {d:Nat} (hd:d<(reachL v).length) : -9≤keepI (reachL v) d∧keepI (reachL v) d≤9:=by
  have hr:=reach_ok (v:=v)
  have f1:=fedD_in hr.le hd
  have s1:=hr.st d hd
  unfold keepI
  cases d with
  | zero=>
    rw [if_pos rfl] at s1 ⊢
    rw [s1] at f1
    simp only [nextR] at f1
    omega
  | succ d=>
    rw [if_neg (by omega),Nat.add_sub_cancel] at s1 ⊢
    have st:=fedD_step (l:=reachL v) (d:=d) hd
    have l0:=hr.le d (by omega)
    rw [s1] at f1
    simp only [nextR] at f1
    omega
theorem keep_sum : ∀{d:Nat},d≤(reachL v).length→sumI ((keepL v).take d)=if d=0 then 0 else fedD (reachL v) (d-1)
  | 0,_=>rfl
  | d+1,h=>by
    have hk:d<(keepL v).length:=by rw [keepL_len];omega
    have hg:(keepL v).getD d default=keepI (reachL v) d:=by
      rw [getD_lt _ _ _ hk];simp [keepL,keepOf]
    rw [take_getD hk default,sumI_snoc,keep_sum (by omega),hg,keepI]
    simp only [Nat.succ_ne_zero,if_false,Nat.add_sub_cancel]
    omega
theorem keep_ask : keepAsk v (keepL v)=true:=by
  rw [keepAsk,Bool.and_eq_true,decide_eq_true_eq,List.all_eq_true]
  refine ⟨by rw [keepL_len];exact reachL_len,fun x hx=>?_⟩
  simp only [keepL,keepOf,List.mem_map,List.mem_range] at hx
  obtain ⟨i,hi,rfl⟩:=hx
  rw [inR_iff]
  exact keepI_bd hi
theorem keep_keeps : keepsB v (keepL v)=true:=by
  rw [keepsB,List.all_eq_true]
  intro d hd
  have hd:=List.mem_range.1 hd
  rw [keepL_len] at hd
  have hr:=reach_ok (v:=v)
  have f1:=fedD_in hr.le hd
  have r1:=hr.rm d hd
  rw [Nat.zero_add] at r1
  rw [keep_sum (by omega),if_neg (by omega),Nat.add_sub_cancel,inR_iff]
  omega
end Am.Vt
namespace Am.Vt
open Go Am
set_option maxRecDepth 100000
set_option maxHeartbeats 4000000
set_option linter.unusedSimpArgs false
set_option linter.unusedVariables false
variable {g1 g2 g3 g4 gt ga gb:Bool × Bool} {v:Vat} {t:Truth}
theorem reach_feed {room:Nat→Rg}:∀{l:List Int} {n d:Nat} {now:Rg} {x:Int},l.length≤n→(∀y∈l,-9≤y∧y≤9)→now.lo≤x∧x≤now.hi→(∀i,i<l.length→(room (d+i)).lo≤x+sumI (l.take (i+1))∧x+sumI (l.take (i+1))≤(room (d+i)).hi)→l.length≤(reachF room n d now).length
  | [],_,_,_,_,_,_,_,_=>Nat.zero_le _
  | y::l,0,d,now,x,hn,_,_,_=>by simp at hn
  | y::l,n+1,d,now,x,hn,h9,hx,hs=>by
    have y9:=h9 y (by simp)
    have s0:=hs 0 (by simp)
    simp only [List.take_succ_cons,List.take_zero,sumI_cons,Nat.add_zero] at s0
    have e0:sumI []=0:=rfl
    rw [e0] at s0
    have hne:¬(nextR (room d) now).lo>(nextR (room d) now).hi:=by simp only [nextR];omega
    rw [reachF,if_neg hne,List.length_cons,List.length_cons]
    have:=reach_feed (room:=room) (l:=l) (n:=n) (d:=d+1) (now:=nextR (room d) now) (x:=x+y) (by simpa using hn) (fun z hz=>h9 z (by simp [hz])) (by simp only [nextR];omega) (fun i hi=>by
      have:=hs (i+1) (by simpa using hi)
      rw [List.take_succ_cons,sumI_cons,show d+(i+1)=d+1+i by omega] at this
      omega)
    omega
theorem feed_le {l:List Int} (ha:keepAsk v l=true) (hk:keepsB v l=true):l.length≤(reachL v).length:=by
  simp only [keepAsk,Bool.and_eq_true,decide_eq_true_eq,List.all_eq_true,inR_iff] at ha
  rw [keepsB,List.all_eq_true] at hk
  refine reach_feed (room:=roomI v) (x:=0) ha.1 ha.2 (by simp) fun i hi=>?_
  have:=hk i (List.mem_range.2 hi)
  rw [inR_iff] at this
  rw [Nat.zero_add,Int.zero_add]
  exact this
theorem isTruth_iff (hv:v.Valid):isTruthB v t=true↔t∈truthsL v []:=by
  have v1:=hv.drift
  rw [mem_truths hv,isTruthB,Bool.and_eq_true,listed_iff,List.all_eq_true]
  constructor
  · rintro ⟨h1,h2⟩
    refine ⟨h1,?_⟩
    rw [rightL,List.all_eq_true]
    intro i hi
    have hi:=List.mem_range.1 hi
    rw [rightAt,Bool.or_eq_true]
    exact .inr (h2 _ (getD_mem hi))
  · rintro ⟨h1,h2⟩
    refine ⟨h1,fun k hk=>?_⟩
    rw [rightL,List.all_eq_true] at h2
    obtain ⟨i,hi,rfl⟩:=List.getElem_of_mem hk
    have:=h2 i (List.mem_range.2 hi)
    rw [rightAt,Bool.or_eq_true] at this
    rcases this with h | h
    · simp at h
    · rwa [getD_lt _ _ _ hi] at h
theorem provesTruth_eq (h0:checkVat v=0):provesTruth v t=isTruthB v t:=by rw [provesTruth,h0];simp [isTruthB]
theorem showP_ok (hv:v.Valid) (hp:posB v []=true) (h:(reachL v).length<v.drift.length):showsB v (showP v)=true∧(showP v).Ok v∧(showP v).most∈truthsL v []∧(showP v).least∈truthsL v []∧max (showP v).over (showP v).under=(reachL v).length:=by
  have hx:=ext_ok hv hp
  have v1:=hv.drift
  obtain ⟨a,e,he,b⟩:=showF_ok (show_ex hv hp h)
  rw [endsL,List.mem_map] at he
  obtain ⟨i,hi,rfl⟩:=he
  have hi:=List.mem_range.1 hi
  refine ⟨a,?_⟩
  change (showP v)=_∨(showP v)=_ at b
  rcases b with b | b
  · rw [b]
    refine ⟨mkP_ok hv hp (by omega) (by omega),(hx.ma _ (by omega)).1,(hx.la _ (by omega)).1,?_⟩
    simp only [mkP];omega
  · rw [b]
    refine ⟨mkP_ok hv hp (by omega) (by omega),(hx.ma _ (by omega)).1,(hx.la _ (by omega)).1,?_⟩
    simp only [mkP];omega
end Am.Vt
