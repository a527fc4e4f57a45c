/-
  A part of the proof: the texts C16, C17, C18, C19, C20, C21 of this seat, joined.
-/
import Derived.Test.YtaegabccdfhfgaaGreatWalkB
namespace Am.Cr
open Go Am Am.Tm
set_option maxRecDepth 100000
set_option maxHeartbeats 4000000
set_option linter.unusedSimpArgs false
set_option linter.unusedVariables false
variable {g1 g2 g3 g4 g5:Bool × Bool} {f:Field}
def sureI (f:Field) (ts:List Truth) (plan:List Int):Int:=ts.foldl (fun m t=>min m (worthI f t plan)) (worthI f (ts.getD 0 default) plan)
end Am.Cr
namespace Am.Cr
open Go Am Am.Tm
set_option maxRecDepth 100000
set_option maxHeartbeats 4000000
set_option linter.unusedSimpArgs false
set_option linter.unusedVariables false
variable {g1 g2 g3 g4 g5:Bool × Bool} {f:Field}
def upTo (a b:Int):List Int:=(List.range (b+1-a).toNat).map fun (k:Nat)=>a+k
def plansD (last:Int):Nat→List Int→Int→List (List Int)
  | 0,l,_=>[l]
  | k+1,l,fr=>l::(upTo fr last).flatMap fun y=>plansD last k (l++[y]) (y+1)
structure DS where
  plan:List Int
  worth:Int
def dsStep (f:Field) (ts:List Truth) (s:DS) (l:List Int):DS:=if s.worth<sureI f ts l then ⟨l,sureI f ts l⟩ else s
section
variable {wo mo wb tb nb pb fb ab to tv:Nat} {tf:Bool} {ts:List Truth}
structure DNe (wo mo wb tb nb pb fb ab to:Nat):Prop where
  a1:wo≠mo
  a2:wo≠nb
  a3:wo≠pb
  b1:wb≠mo
  b2:wb≠nb
  b3:wb≠pb
  c1:tb≠mo
  c2:tb≠nb
  c3:tb≠pb
  d1:fb≠mo
  d2:fb≠nb
  d3:fb≠pb
  e1:ab≠mo
  e2:ab≠nb
  e3:ab≠pb
  f1:to≠mo
  f2:to≠nb
  f3:to≠pb
  g1:mo≠nb
  g2:mo≠pb
  g3:nb≠pb
end
end Am.Cr
namespace Am.Cr
open Go Am Am.Tm
set_option maxRecDepth 100000
set_option maxHeartbeats 4000000
set_option linter.unusedSimpArgs false
set_option linter.unusedVariables false
variable {g1 g2 g3 g4 g5:Bool × Bool} {f:Field}
def prodN (rs:List Rg):Nat:=rs.foldr (fun r p=>(r.hi+1-r.lo).toNat*p) 1
theorem prodN_pos {rs:List Rg} (h:∀r∈rs,r.lo≤r.hi):1≤prodN rs:=by
  induction rs with
  | nil=>exact Nat.le_refl _
  | cons r rs ih=>
    have h1:=h r (by simp)
    have h2:=ih fun x hx=>h x (by simp [hx])
    exact Nat.mul_pos (by omega) h2
theorem many_min : ∀{rs:List Rg} {m:Nat},(∀r∈rs,-100000≤r.lo∧r.lo≤r.hi∧r.hi≤100000)→1≤m→m≤2001→rs.foldl (fun m r=>min (IntKind.i64.wrap (m*sizeI r.lo r.hi)) 2001) (m:Int)=((min (m*prodN rs) 2001:Nat):Int)
  | [],m,_,_,h=>by
    simp only [List.foldl_nil,prodN,List.foldr_nil,Nat.mul_one];omega
  | r::rs,m,h,h1,h2=>by
    obtain ⟨a,b,c⟩:=h r (by simp)
    have hz:sizeI r.lo r.hi=((r.hi+1-r.lo).toNat:Nat):=by
      unfold sizeI
      rw [wrapB (n:=r.hi-r.lo) (by omega) (by omega),wrapB (by omega) (by omega)];omega
    obtain ⟨z,hz'⟩:∃z,z=(r.hi+1-r.lo).toNat:=⟨_,rfl⟩
    rw [←hz'] at hz
    have hz1:1≤z:=by omega
    have hz2:z≤200001:=by omega
    have hmz:m*z≤2001*200001:=Nat.mul_le_mul h2 hz2
    have e:min (IntKind.i64.wrap ((m:Int)*sizeI r.lo r.hi)) 2001=((min (m*z) 2001:Nat):Int):=by
      have e2:(m:Int)*(z:Int)=((m*z:Nat):Int):=by simp
      rw [hz,e2]
      generalize m*z=p at hmz ⊢
      rw [wrapB (n:=(p:Int)) (by omega) (by omega)];omega
    have hmz1:1≤m*z:=Nat.mul_pos h1 hz1
    rw [List.foldl_cons,e,many_min (fun x hx=>h x (by simp [hx])) (by omega) (by omega)]
    have hp:=prodN_pos (rs:=rs) fun x hx=>(h x (by simp [hx])).2.1
    have ep:prodN (r::rs)=z*prodN rs:=by rw [hz'];rfl
    rw [ep,←Nat.mul_assoc]
    congr 1
    by_cases hc:m*z≤2001
    · rw [Nat.min_eq_left hc]
    · have g1:2001*1≤2001*prodN rs:=Nat.mul_le_mul_left _ hp
      have g2:2001*1≤m*z*prodN rs:=Nat.mul_le_mul (by omega) hp
      rw [Nat.min_eq_right (by omega:2001≤m*z),Nat.min_eq_right (by omega),Nat.min_eq_right (by omega)]
theorem Field.Valid.prod (hv:f.Valid):prodN (rangesL f.growth f.wet)≤2000∧manyL (rangesL f.growth f.wet)=prodN (rangesL f.growth f.wet):=by
  have h1:=hv.many
  have h2:=many_min (rs:=rangesL f.growth f.wet) (m:=1) hv.rgs.2 (by omega) (by omega)
  have h3:manyL (rangesL f.growth f.wet)=((min (1*prodN (rangesL f.growth f.wet)) 2001:Nat):Int):=h2
  rw [Nat.one_mul] at h3
  omega
def TList (m:Nat) (H:List Obj) (c:C) (s:List Truth):Prop:=(s=[]∧c = .nils)∨∃o ver,c = .sl o ver 0 s.length∧getH H o = .arr false ver 2 (s.map Row.row)∧m+14≤o
structure btR (m:Nat) (lp:ALoop) (s:List Truth) (H:List Obj):Prop where
  tc:∃c,getH H m = .cells [c]∧TList m H c s
  lp:getH H (m+3) = .loop lp
def bestS (f:Field):DS:=(plansD f.last f.base.length [] 0).foldl (dsStep f (truthsL f [])) ⟨[],0⟩
def BestR (b:Bool) (f:Field):V:=if askE f (planOk f.last f.base [])=0 then .tup [.c (L (b,false) (bestS f).plan),.c (.int .i64 (bestS f).worth),.c (.int .i64 0)] else .tup [.c .nils,.c (.int .i64 0),.c (.int .i64 (askE f (planOk f.last f.base [])))]
theorem listsF_in : ∀{rs:List Rg} {w x:List Int},x∈listsF rs w→∃y:List Int,x=w++y∧y.length=rs.length∧InR rs y
  | [],w,x,h=>by
    simp only [listsF,List.mem_singleton] at h
    exact ⟨[],by simp [h],rfl,fun i hi=>by simp at hi⟩
  | r::rs,w,x,h=>by
    simp only [listsF,List.mem_flatMap,List.mem_range] at h
    obtain ⟨n,hn,h⟩:=h
    obtain ⟨y,h1,h2,h3⟩:=listsF_in h
    refine ⟨(r.lo+(n:Int))::y,by simp [h1],by simp [h2],fun i hi=>?_⟩
    cases i with
    | zero=>simp only [List.getD_cons_zero];omega
    | succ i=>simp only [List.getD_cons_succ];exact h3 i (by simpa using hi)
end Am.Cr
namespace Am.Cr
open Go Am Am.Tm
set_option maxRecDepth 100000
set_option maxHeartbeats 4000000
set_option linter.unusedSimpArgs false
set_option linter.unusedVariables false
variable {g1 g2 g3 g4 g5:Bool × Bool} {f:Field}
end Am.Cr
namespace Am.Cr
open Go Am Am.Tm
set_option maxRecDepth 100000
set_option maxHeartbeats 4000000
set_option linter.unusedSimpArgs false
set_option linter.unusedVariables false
variable {g1 g2 g3 g4 g5:Bool × Bool} {f:Field}
section
variable {wo mo ob wb fb lb:Nat}
end
end Am.Cr
namespace Am.Cr
open Go Am Am.Tm
set_option maxRecDepth 100000
set_option maxHeartbeats 4000000
set_option linter.unusedSimpArgs false
set_option linter.unusedVariables false
variable {g1 g2 g3 g4 g5:Bool × Bool} {f:Field}
def sumLen (l:List (List Int)):Nat:=(l.map List.length).sum
theorem sumLen_take {l:List (List Int)} {k:Nat} (h:k<l.length):sumLen (l.take (k+1))=sumLen (l.take k)+(l.getD k default).length:=by
  rw [take_getD h default];simp [sumLen]
theorem sumLen_le {l:List (List Int)} {k:Nat}:sumLen (l.take k)≤sumLen l:=by
  have h:sumLen l=sumLen (l.take k)+sumLen (l.drop k):=by
    conv=>lhs;rw [←List.take_append_drop k l]
    simp only [sumLen,List.map_append,List.sum_append]
  omega
theorem flat_take {l:List (List Int)} {k:Nat} (h:k<l.length):(l.take (k+1)).flatten=(l.take k).flatten++l.getD k default:=by
  rw [take_getD h default,List.flatten_append];simp
theorem flat_len {l:List (List Int)}:l.flatten.length=sumLen l:=by simp [sumLen,List.length_flatten]
theorem sConcat {g:Bool × Bool} {ls:List (List Int)} (h1:ls.length≤1000) (h2:sumLen ls≤1000000) {Q:V→Prop}:CallP tab 71 [.c (L g ls)] Q↔Q (.c (L (false,false) ls.flatten)):=CallP_of (by
  refine Val_X (fn:=f71) rfl ?_
  simp only [go_sem,f71]
  refine RX_forC ls.length (fun k=>[(3,.c (.int .i64 (sumLen (ls.take k)))),(11,.c (.int .i64 k))]) (fun _=>True) rfl trivial (by simp only [go_sem]<;>rfl) ?_
  intro k hk _
  by_cases hlt:k<ls.length
  · have e4:IntKind.i64.wrap ((k:Int)+1)=((k+1:Nat):Int):=wrap_succ (n:=3000) (by omega) (by decide)
    have a1:=sumLen_take hlt
    have a2:=sumLen_le (l:=ls) (k:=k+1)
    have e5:IntKind.i64.wrap (((sumLen (ls.take k):Nat):Int)+((ls.getD k default).length:Nat))=((sumLen (ls.take (k+1)):Nat):Int):=by rw [a1,wrapB (by omega) (by omega)];simp
    have e6:¬((sumLen (ls.take (k+1)):Nat):Int)<0:=by omega
    simp only [go_sem,hlt,atI_nat,e4,e5,e6]
  · have:k=ls.length:=by omega
    subst this
    have b1:sumLen ls*8≤2^40:=by omega
    have b2:(0:Int)≤(sumLen ls:Nat):=by omega
    have b3:((sumLen ls:Nat):Int)*8≤2^40:=by omega
    simp only [go_sem,hlt,List.take_length,b1,b2,b3]
    refine RX_for ls.length (fun k=>[(6,.c (.sl 0 k 0 (sumLen (ls.take k)))),(27,.c (.int .i64 k))]) (fun k=>[.arr false k 1 ((ls.take k).flatten.map Row.row)]) (fun _=>True) trivial (by simp only [go_sem,List.take_zero]<;>exact ⟨rfl,rfl⟩) ?_
    intro k hk _
    by_cases hlt:k<ls.length
    · have e4:IntKind.i64.wrap ((k:Int)+1)=((k+1:Nat):Int):=wrap_succ (n:=3000) (by omega) (by decide)
      have a1:=sumLen_take hlt
      have a2:=sumLen_le (l:=ls) (k:=k+1)
      have a3:=flat_take hlt
      have a4:=flat_len (l:=ls.take k)
      have b4:(sumLen (ls.take k)+(ls.getD k default).length)*8≤2^40:=by omega
      simp only [go_sem,hlt,atI_nat,e4,a1,a3,a4,b4,List.map_append]
    · have:k=ls.length:=by omega
      subst this
      have a4:=flat_len (l:=ls)
      simp only [go_sem,hlt,List.take_length,a4])
theorem lstLL {t:Bool} {a b:List Int}:C.lst t [[.lst (a.map Row.row)],[.lst (b.map Row.row)]]=L (false,t) [a,b]:=rfl
def listedB (f:Field) (t:Truth):Bool:=decide ((t.growth.length:Int)=IntKind.i64.wrap (f.last+1))&&(decide ((t.wet.length:Int)=IntKind.i64.wrap (f.last+1))&&(List.range (f.growth.length+f.wet.length)).all fun i=>inR ((t.growth++t.wet).getD i default) ((rangesL f.growth f.wet).getD i default).lo ((rangesL f.growth f.wet).getD i default).hi)
theorem clisted (hf:f.Fits) (hl:(f.growth.length:Int)=IntKind.i64.wrap (f.last+1)) (hl2:(f.wet.length:Int)=IntKind.i64.wrap (f.last+1)) {b6 b7:Bool} {t:Truth} {Q:V→Prop}:CallP tab 37 [fieldV g1 g2 g3 g4 g5 f,.agg [L (b6,false) t.growth,L (b7,false) t.wet]] Q↔Q (.c (.bool (listedB f t))):=CallP_of (by
  refine Val_X (fn:=f37) rfl ?_
  have c1:=hf.growth
  have c2:=hf.wet
  by_cases a1:(t.growth.length:Int)=IntKind.i64.wrap (f.last+1)
  · by_cases a2:(t.wet.length:Int)=IntKind.i64.wrap (f.last+1)
    · have hC:=fun {g:Bool × Bool} {Q:V→Prop}=>sConcat (g:=g) (ls:=[t.growth,t.wet]) (by simp) (by simp [sumLen];omega) (Q:=Q)
      have hfl:[t.growth,t.wet].flatten=t.growth++t.wet:=by simp
      have hrn:=fun {Q:V→Prop}=>cranges (last:=f.last) (ripe:=f.ripe) (late:=f.late) (trod:=f.trod) (growth:=f.growth) (wet:=f.wet) (base:=f.base) (crops:=f.crops) (looks:=f.looks) (g1:=g1) (g2:=g2) (g3:=g3) (g4:=g4) (g5:=g5) c1 c2 (Q:=Q)
      have hlb:listedB f t=(List.range (f.growth.length+f.wet.length)).all fun i=>inR ((t.growth++t.wet).getD i default) ((rangesL f.growth f.wet).getD i default).lo ((rangesL f.growth f.wet).getD i default).hi:=by
        simp only [listedB,a1,a2,decide_true,Bool.true_and]
      have hrl:=rangesL_len (f:=f)
      simp only [go_sem,f37,cweeks,a1,a2,lstLL,hC,hfl,hrn]
      rw [hlb,←hrl]
      have hcl:(t.growth++t.wet).length=(rangesL f.growth f.wet).length:=by rw [hrl,List.length_append];omega
      have hbig:(rangesL f.growth f.wet).length≤3000:=by omega
      generalize rangesL f.growth f.wet=rs at hcl hbig ⊢
      generalize hco:t.growth++t.wet=co at hcl ⊢
      refine RX_forC rs.length (fun k=>[(31,.c (.int .i64 k))]) (fun k=>∀i,i<k→inR (co.getD i default) (rs.getD i default).lo (rs.getD i default).hi=true) rfl (fun i h=>by omega) (by simp only [go_sem]<;>rfl) ?_
      intro k hk hP
      by_cases hlt:k<rs.length
      · have e4:IntKind.i64.wrap ((k:Int)+1)=((k+1:Nat):Int):=wrap_succ (n:=5000) (by omega) (by decide)
        have k0:k<co.length:=by omega
        simp only [go_sem,hlt,k0,atI_nat,e4,chas]
        refine ⟨fun h=>?_,fun h i hi=>?_⟩
        · rw [List.all_eq_false]
          exact ⟨k,by simpa using hlt,by rw [h];simp⟩
        · by_cases hik:i=k
          · subst hik;exact h
          · exact hP i (by omega)
      · have:k=rs.length:=by omega
        subst this
        simp only [go_sem,hlt]
        rw [List.all_eq_true]
        intro i hi
        exact hP i (by simpa using hi)
    · have:listedB f t=false:=by simp only [listedB,a2,decide_false,Bool.false_and,Bool.and_false]
      simp only [go_sem,f37,cweeks,a1,a2,this]
  · have:listedB f t=false:=by simp only [listedB,a1,decide_false,Bool.false_and]
    simp only [go_sem,f37,cweeks,a1,this])
def PlayR (b:Bool) (f:Field) (t:Truth) (plan:List Int):V:=if checkField f≠0 then .tup [.c .nils,.c (.int .i64 (checkField f))] else if listedB f t=false∨planOk f.last f.base plan=false then .tup [.c .nils,.c (.int .i64 2)] else .tup [.c (L (b,false) (cropsL f t plan)),.c (.int .i64 0)]
theorem isT_listed (hv:f.Valid) {t:Truth} (h:listedB f t=true):IsT f t:=by
  have v1:=hv.growth
  have v2:=hv.wet
  have v3:=hv.last0
  have v4:=hv.last9
  have hw:IntKind.i64.wrap (f.last+1)=f.last+1:=wrapB (by omega) (by omega)
  simp only [listedB,Bool.and_eq_true,decide_eq_true_eq,hw,List.all_eq_true,List.mem_range,inR_iff] at h
  obtain ⟨h1,h2,h3⟩:=h
  refine ⟨by omega,by omega,fun i hi=>?_,fun i hi=>?_⟩
  · have:=h3 i (by omega)
    rw [show (t.growth++t.wet).getD i default=t.growth.getD i default by simp [List.getD_eq_getElem?_getD,List.getElem?_append,hi]] at this
    rwa [show (rangesL f.growth f.wet).getD i default=f.growth.getD i default by simp [rangesL,List.getD_eq_getElem?_getD,List.getElem?_append,show i<f.growth.length by omega]] at this
  · have hi':i<f.wet.length:=by omega
    have:=h3 (f.growth.length+i) (by omega)
    rw [show (t.growth++t.wet).getD (f.growth.length+i) default=t.wet.getD i default by rw [show f.growth.length=t.growth.length by omega,List.getD_eq_getElem?_getD,List.getElem?_append_right (by omega)];simp [List.getD_eq_getElem?_getD]] at this
    rwa [show (rangesL f.growth f.wet).getD (f.growth.length+i) default=wetR (f.wet.getD i default) by simp [rangesL,List.getD_eq_getElem?_getD,List.getElem?_append,hi']] at this
theorem cPlay (hf:f.Fits) {b6 b7:Bool} {g:Bool × Bool} {t:Truth} {plan:List Int} (hp:plan.length<Big) {Q:V→Prop}:CallP tab 13 [fieldV g1 g2 g3 g4 g5 f,.agg [L (b6,false) t.growth,L (b7,false) t.wet],.c (L g plan)] Q↔Q (PlayR false f t plan):=CallP_of (by
  refine Val_X (fn:=f13) rfl ?_
  by_cases h0:checkField f=0
  · have hv:=valid_of h0
    have v1:=hv.growth
    have v2:=hv.wet
    have v3:=hv.last0
    have v4:=hv.last9
    have hw:IntKind.i64.wrap (f.last+1)=f.last+1:=wrapB (by omega) (by omega)
    have hLs:=fun {Q:V→Prop}=>clisted (g1:=g1) (g2:=g2) (g3:=g3) (g4:=g4) (g5:=g5) (f:=f) hf (by omega) (by omega) (b6:=b6) (b7:=b7) (t:=t) (Q:=Q)
    have hPl:=fun {Q:V→Prop}=>cplan (last:=f.last) (ripe:=f.ripe) (late:=f.late) (trod:=f.trod) (growth:=f.growth) (wet:=f.wet) (base:=f.base) (crops:=f.crops) (looks:=f.looks) (g1:=g1) (g2:=g2) (g3:=g3) (g4:=g4) (g5:=g5) (g:=g) hp (Q:=Q)
    rw [PlayR,if_neg (by rw [h0];simp)]
    cases hl:listedB f t with
    | false=>
      rw [if_pos (.inl rfl)]
      simp only [go_sem,f13,cCheckField hf,h0,hLs,hl]
    | true=>
      cases hq:planOk f.last f.base plan with
      | false=>
        rw [if_pos (.inr rfl)]
        simp only [go_sem,f13,cCheckField hf,h0,hLs,hl,hPl,hq]
      | true=>
        rw [if_neg (by simp)]
        have hIs:=isT_listed hv hl
        simp only [go_sem,f13,cCheckField hf,h0,hLs,hl,hPl,hq,F51]
        refine (F52 (t:=t) (plan:=plan) (f:=f) (g1:=g1) (g2:=g2) (g3:=g3) (g4:=g4) (g5:=g5) (es:=[]) (wo:=4) (mo:=3) rfl rfl (by intro e he;simp at he) (.lst (b6,false) _) (.lst (b7,false) _) (.lst g plan) (weeks_of hv hIs hq)).mono ?_
        rintro v H' ⟨es1,X,hok1,rfl,rfl⟩
        have hcl:=cropsL_len (f:=f) (t:=t) (plan:=plan)
        simp only [go_sem,hcl]
  · rw [PlayR,if_pos h0]
    simp only [go_sem,f13,cCheckField hf,h0])
def provesTruth (f:Field) (t:Truth):Bool:=decide (checkField f=0)&&(listedB f t&&f.looks.all fun k=>inR (atI (standing t.growth f.crops) k.week) k.w.lo k.w.hi)
end Am.Cr
