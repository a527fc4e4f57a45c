/-
  A part of the proof: the texts V5, V6, V7, V8, V9 of this seat, joined.
-/
import Derived.Test.YtnknceencnjnkaaGreatWalkA
namespace Am.Vt
open Go Am
set_option maxRecDepth 100000
set_option maxHeartbeats 4000000
set_option linter.unusedSimpArgs false
set_option linter.unusedVariables false
variable {g1 g2 g3 g4:Bool × Bool} {v:Vat}
def shadeI (n:Int) (b:Bool):Int:=IntKind.i64.wrap (n.tdiv (if b=true then 10 else 20))
abbrev ksS : List (Option IntKind):=[some .i64,none]
def EsOk (es:List (List D × List C)):Prop:=∀e∈es,∃n b,e.1=[.int .i64 n,.bool b]∧e.2=[.int .i64 (shadeI n b)]
theorem EsOk.nil : EsOk []:=by intro e he;cases he
theorem EsOk.put {n:Int} {b:Bool} {es:List (List D × List C)} (h:EsOk es):EsOk (putE [.int .i64 n,.bool b] [.int .i64 (shadeI n b)] es):=by
  intro e he
  rcases putE_mem he with he | rfl
  · exact h e he
  · exact ⟨n,b,rfl,rfl⟩
theorem key_inj {n n':Int} {b b':Bool} (h:keyEq [.int .i64 n,.bool b] [.int .i64 n',.bool b']=true):n=n'∧b=b':=by
  simpa [keyEq,D.key] using h
abbrev workC (g1 g2 g3 g4:Bool × Bool) (v:Vat) (mo:Nat):List C:=[.int .i64 v.last,.int .i64 v.band,.int .i64 v.start.lo,.int .i64 v.start.hi,.int .i64 v.blue.lo,.int .i64 v.blue.hi,.int .i64 v.gain,.int .i64 v.take,L g1 v.drift,L g2 v.feeds,L g3 v.dips,L g4 v.looks,.map mo]
attribute [go_sem] workC
abbrev mapO (es:List (List D × List C)):Obj:=.map true false ksS es
def MapOk (mo:Nat) (H:List Obj):Prop:=∃es,EsOk es∧getH H mo=mapO es
theorem MapOk.keep {mo:Nat} {own:Nat→Prop} {H H':List Obj} (h:MapOk mo H) (hk:Keep own H H') (ho:¬own mo):MapOk mo H':=by
  obtain ⟨es,a,b⟩:=h
  exact ⟨es,a,hk.get ho b (by simp)⟩
theorem map_out {H H' Y:List Obj} {mo:Nat} {es es':List (List D × List C)} {X:List Obj} (hm:getH H mo=mapO es) (hok:EsOk es') (h:H'=setH (H++Y) mo (mapO es')++X):Keep (fun o=>o=mo) H H'∧MapOk mo H':=by
  have lm:=lt_of_getH (h:=H) (o:=mo) (by rw [hm];simp)
  subst h
  refine ⟨⟨by simp [length_setH];omega,fun o ho hl=>?_⟩,es',hok,?_⟩
  · rw [getH_left (by simp [length_setH];omega),getH_setH,if_neg (fun h=>ho h.1),getH_left hl]
  · rw [getH_left (by simp [length_setH];omega),getH_setH,if_pos ⟨rfl,by simp;omega⟩]
theorem corder {n:Int} {Q:V→Prop}:CallP tab 87 [vatV g1 g2 g3 g4 v,.c (.int .i64 n)] Q↔Q (.c (.bool (inR n (IntKind.i64.wrap (0-v.band)) v.band))):=CallP_of (by
  refine Val_X (fn:=f87) rfl ?_
  simp only [go_sem,f87,cwithin])
theorem Fdip {H:List Obj} {wo mo:Nat} {n:Int} {b:Bool} (hw:getH H wo = .cells (workC g1 g2 g3 g4 v mo)) (hM:MapOk mo H) :
    Fn tab (.f 88 [.c (.ptr wo 0),.agg [.int .i64 n,.bool b]] H) fun r H'=>r = .tup [.c (.int .i64 (shadeI n b)),.agg [.int .i64 (max 0 (IntKind.i64.wrap (n-v.take))),.bool b]]∧Keep (fun o=>o=mo) H H'∧MapOk mo H':=by
  refine Fn_X (fn:=f88) rfl rfl ?_
  obtain ⟨es,hok,hm⟩:=hM
  have hw2:∀X,getH (H++X) wo = .cells (workC g1 g2 g3 g4 v mo):=fun X=>getH_keep hw (by simp)
  have hm2:∀X,getH (H++X) mo=mapO es:=fun X=>getH_keep hm (by simp)
  have lw:=lt_of_getH (h:=H) (o:=wo) (by rw [hw];simp)
  have lm:=lt_of_getH (h:=H) (o:=mo) (by rw [hm];simp)
  have nwm:wo≠mo:=by rintro rfl;rw [hw] at hm;cases hm
  have q0:¬wo=H.length:=by omega
  have q1:¬H.length=wo:=by omega
  have q2:¬wo=H.length+1:=by omega
  have q3:¬H.length+1=wo:=by omega
  have q4:¬mo=H.length:=by omega
  have q5:¬H.length=mo:=by omega
  have q6:¬mo=H.length+1:=by omega
  have q7:¬H.length+1=mo:=by omega
  have hset:∀es' X,setH (H++X) mo (mapO es')=setH H mo (mapO es')++X:=fun es' X=>setH_left lm
  have hwS:∀es' X,getH (setH H mo (mapO es')++X) wo = .cells (workC g1 g2 g3 g4 v mo):=fun es' X=>by rw [getH_left (by rw [length_setH];exact lw),getH_setH,if_neg (fun h=>nwm h.1),hw]
  cases hfe:findE [.int .i64 n,.bool b] es with
  | some cs=>
    obtain ⟨e,he,hk,rfl⟩:=findE_mem hfe
    obtain ⟨n',b',h1,h2⟩:=hok e he
    rw [h1] at hk
    obtain ⟨rfl,rfl⟩:=key_inj hk
    rw [h2] at hfe
    simp only [go_sem,f88,hw2,hm2,hfe,q0,q1,q2,q3,q4,q5,q6,q7,ite_max]
    exact ⟨Keep.append,es,hok,hm2 _⟩
  | none=>
    have hs:=hset (putE [.int .i64 n,.bool b] [.int .i64 (shadeI n b)] es)
    have out:=fun X=>map_out (Y:=[]) (X:=X) hm (hok.put (n:=n) (b:=b)) (by rw [List.append_nil])
    cases b with
    | true=>
      have e1:IntKind.i64.wrap (n.tdiv 10)=shadeI n true:=rfl
      simp only [go_sem,f88,hw2,hm2,hfe,q0,q1,q2,q3,q4,q5,q6,q7,ite_max,e1,hs,hwS]
      exact out _
    | false=>
      have e1:IntKind.i64.wrap (n.tdiv 20)=shadeI n false:=rfl
      simp only [go_sem,f88,hw2,hm2,hfe,q0,q1,q2,q3,q4,q5,q6,q7,ite_max,e1,hs,hwS]
      exact out _
end Am.Vt
namespace Am.Vt
open Go Am
set_option maxRecDepth 100000
set_option maxHeartbeats 4000000
set_option linter.unusedSimpArgs false
set_option linter.unusedVariables false
variable {g1 g2 g3 g4:Bool × Bool} {v:Vat}
def ordB (v:Vat) (n:Int):Bool:=inR n (-v.band) v.band
theorem corder' (hv:v.Valid) {n:Int} {Q:V→Prop}:CallP tab 87 [vatV g1 g2 g3 g4 v,.c (.int .i64 n)] Q↔Q (.c (.bool (ordB v n))):=by
  rw [corder]
  have:=hv.band
  rw [show IntKind.i64.wrap (0-v.band) = -v.band by rw [wrapB (by omega) (by omega)];omega]
  rfl
section
variable {σ:Type} {own:Nat→Prop} {F:C} {R:σ→List Obj→Prop} {step:σ→St→σ} {wo mo tb wb:Nat} {c1:C} {t:Truth}
def SYield (N:Nat) (C0:σ→Prop) (own:Nat→Prop) (F:C) (R:σ→List Obj→Prop) (step:σ→St→σ):Prop:=
  ∀s H (st:St),N≤H.length→C0 s→R s H→CallV tab (.c F) [.agg [.int .i64 st.bal,.int .i64 st.blue]] H fun v H'=>v = .c (.bool true)∧Keep own H H'∧R (step s st) H'
abbrev sOwn (own:Nat→Prop) (mo sb o:Nat):Prop:=own o∨o=mo∨o=sb
theorem states1_ok (hv:v.Valid) (hIs:IsT v t) {H:List Obj} (hkn:known [F]=true) (h1:¬own tb) (h2:¬own wb) (h3:¬own wo) (h4:¬own mo) (h5:¬own H.length)
    (hR:∀s H1 H2,R s H1→Keep (fun o=>o=mo∨o=H.length) H1 H2→R s H2) {C0:σ→Prop} (hF:SYield (H.length+1) C0 own F R step)
    (htb:getH H tb = .cells [.int .i64 t.start,.int .i64 t.blue,c1]) (hwb:getH H wb = .cells [.ptr wo 0]) (hw:getH H wo = .cells (workC g1 g2 g3 g4 v mo)) (hM:MapOk mo H)
    (hrd:∀H',Keep (sOwn own mo H.length) H H'→RdI H' c1 t.drift) {s:σ} (hC:∀k,k<v.drift.length→C0 (((playL v t).take k).foldl step s)) (hs:R s H) :
    Fn tab (.f 117 [.c F,.c (.ptr tb 0),.c (.ptr wb 0)] H) fun _ H'=>Keep (sOwn own mo H.length) H H'∧MapOk mo H'∧R ((playL v t).foldl step s) H':=by
  refine Fn_X (fn:=f117) rfl rfl ?_
  have ltb:=lt_of_getH (h:=H) (o:=tb) (by rw [htb];simp)
  have lwb:=lt_of_getH (h:=H) (o:=wb) (by rw [hwb];simp)
  have lwo:=lt_of_getH (h:=H) (o:=wo) (by rw [hw];simp)
  have lmo:=lt_of_getH (h:=H) (o:=mo) (by obtain ⟨es,_,h⟩:=hM;rw [h];simp)
  have nwm:wo≠mo:=by rintro rfl;obtain ⟨es,_,h⟩:=hM;rw [hw] at h;cases h
  have ntm:tb≠mo:=by rintro rfl;obtain ⟨es,_,h⟩:=hM;rw [htb] at h;cases h
  have nbm:wb≠mo:=by rintro rfl;obtain ⟨es,_,h⟩:=hM;rw [hwb] at h;cases h
  have z0:¬tb=H.length:=by omega
  have z1:¬H.length=tb:=by omega
  have z2:¬wb=H.length:=by omega
  have z3:¬H.length=wb:=by omega
  have z4:¬wo=H.length:=by omega
  have z5:¬H.length=wo:=by omega
  have v1:=hv.drift
  have v2:=hv.feeds
  have v3:=hv.dips
  have v4:=hv.last7
  have v5:=hv.last0
  simp only [go_sem,f117,getH_left,ltb,lwb,lwo,z0,z1,z2,z3,z4,z5,htb,hwb,hw]
  have hR':∀s H1 X,R s H1→R s (H1++X):=fun s H1 X h=>hR _ _ _ h Keep.append
  refine RX_whileU (α:=Nat × List Obj) (fun x=>[(19,.c (.int .i64 x.1))]) (fun x=>x.2) (fun x=>x.1≤v.drift.length∧Keep (sOwn own mo H.length) H x.2∧H.length<x.2.length∧getH x.2 H.length = .cells [.int .i64 (stAt v t x.1).bal,.int .i64 (stAt v t x.1).blue]∧MapOk mo x.2∧R (((playL v t).take x.1).foldl step s) x.2) (fun x=>v.drift.length-x.1) (0,H++[.cells [.int .i64 t.start,.int .i64 t.blue]]) ⟨Nat.zero_le _,Keep.append,by simp,by simp only [go_sem,stAt],hM.keep (own:=fun _=>False) Keep.append id,hR' _ _ _ hs⟩ (by simp only [go_sem]<;>rfl) ?_
  rintro ⟨k,H1⟩ ⟨hk,hK,hlen,hsb,hM1,hRs⟩
  simp only at hk hK hlen hsb hM1 hRs
  have ns:∀{o},¬own o→o≠mo→o<H.length→¬sOwn own mo H.length o:=fun a b c h=>by rcases h with h | h | h;exact a h;exact b h;omega
  have e1:=hK.get (ns h1 ntm ltb) htb (by simp)
  have e2:=hK.get (ns h2 nbm lwb) hwb (by simp)
  have e3:=hK.get (ns h3 nwm lwo) hw (by simp)
  have j0:tb<H1.length:=by omega
  have j1:wb<H1.length:=by omega
  have j2:wo<H1.length:=by omega
  have j3:mo<H1.length:=by omega
  have j4:H.length<H1.length:=by omega
  have y0:¬tb=H1.length:=by omega
  have y1:¬H1.length=tb:=by omega
  have y2:¬tb=H1.length+1:=by omega
  have y3:¬H1.length+1=tb:=by omega
  have y4:¬wb=H1.length:=by omega
  have y5:¬H1.length=wb:=by omega
  have y6:¬wb=H1.length+1:=by omega
  have y7:¬H1.length+1=wb:=by omega
  have y8:¬wo=H1.length:=by omega
  have y9:¬H1.length=wo:=by omega
  have y10:¬wo=H1.length+1:=by omega
  have y11:¬H1.length+1=wo:=by omega
  have y12:¬H.length=H1.length:=by omega
  have y13:¬H1.length=H.length:=by omega
  have y14:¬H.length=H1.length+1:=by omega
  have y15:¬H1.length+1=H.length:=by omega
  by_cases hlt:k<v.drift.length
  · have q2:k<v.feeds.length:=by omega
    have q3:k<v.dips.length:=by omega
    have q4:k<t.drift.length:=by rw [hIs.dl];exact hlt
    have k0:(0:Int)≤k:=by omega
    have e4:IntKind.i64.wrap ((k:Int)+1)=((k+1:Nat):Int):=wrap_succ (n:=3000) (by omega) (by decide)
    obtain ⟨fd,hfd⟩:∃fd,fd=v.feeds.getD k default:=⟨_,rfl⟩
    have bfd:=hv.feedAt hlt
    have hfa:feedAt v k=fd:=hfd.symm
    rw [hfa] at bfd
    have bdr:=hIs.drift hv hlt
    have bst:=stAt_bd hv hIs (d:=k) (by omega)
    obtain ⟨st,hst⟩:∃st,st=stAt v t k:=⟨_,rfl⟩
    rw [←hst] at hsb bst
    obtain ⟨dr,hdr⟩:∃dr,dr=t.drift.getD k 0:=⟨_,rfl⟩
    rw [←hdr] at bdr
    have bm:=mul_bd bfd.2.2 hv.gain
    have hnx:stAt v t (k+1)=⟨st.bal+(fd.lime-fd.bran+dr),dipN v.take (dipAt v k) (st.blue+fd.madder*v.gain)⟩:=by rw [stAt,hfa,←hst,←hdr]
    obtain ⟨bal,hbal⟩:∃bal,bal=st.bal+(fd.lime-fd.bran+dr):=⟨_,rfl⟩
    obtain ⟨b0,hb0⟩:∃b0,b0=st.blue+fd.madder*v.gain:=⟨_,rfl⟩
    rw [←hbal,←hb0] at hnx
    have w1:IntKind.i64.wrap (fd.lime-fd.bran)=fd.lime-fd.bran:=wrapB (by omega) (by omega)
    have w2:IntKind.i64.wrap (fd.lime-fd.bran+dr)=fd.lime-fd.bran+dr:=wrapB (by omega) (by omega)
    have w3:IntKind.i64.wrap (st.bal+(fd.lime-fd.bran+dr))=bal:=by rw [←hbal];exact wrapB (by omega) (by omega)
    have w4:IntKind.i64.wrap (fd.madder*v.gain)=fd.madder*v.gain:=wrapB (by omega) (by omega)
    have w5:IntKind.i64.wrap (st.blue+fd.madder*v.gain)=b0:=by rw [←hb0];exact wrapB (by omega) (by omega)
    have bb0:0≤b0∧b0≤1000000:=by omega
    have hc:=hrd H1 hK
    obtain ⟨ea,he⟩:=hc.el (i:=(k:Int)) k0 (by exact_mod_cast q4)
    have hda:atI t.drift (k:Int)=dr:=by rw [atI_nat,hdr];rfl
    have he1:=fun Y=>(he Y).1
    have he2:=fun Y=>(he Y).2
    rw [hda] at he2
    -- the store of the balance goes to another object than the list
    have hc':∀x,RdI (setH H1 H.length x) c1 t.drift:=fun x=>hc.set fun fr ver rows h=>by rw [hsb] at h;cases h
    have bdp:=hv.dipAt hlt
    have hdp:v.dips.getD k default=((dipAt v k:Nat):Int):=by
      show v.dips.getD k 0=_
      unfold dipAt;omega
    have bdn:dipAt v k≤20:=by unfold dipAt;omega
    generalize dipAt v k=dn at hnx hdp bdn
    obtain ⟨H2,hH2⟩:∃H2,H2=setH H1 H.length (.cells [.int .i64 bal,.int .i64 st.blue])++[.cells [.int .i64 fd.lime,.int .i64 fd.bran,.int .i64 fd.madder],.cells [.int .i64 b0,.bool (ordB v bal)]]:=⟨_,rfl⟩
    have l2:H2.length=H1.length+2:=by rw [hH2];simp [length_setH]
    have gH2:∀o,o<H1.length→o≠H.length→getH H2 o=getH H1 o:=fun o h h'=>by rw [hH2,getH_left (by rw [length_setH];exact h),getH_setH,if_neg (fun e=>h' e.1)]
    have hK2:Keep (fun o=>o=mo∨o=H.length) H1 H2:=⟨by omega,fun o ho hl=>by rw [gH2 o hl (fun e=>ho (.inr e))]⟩
    have x1:getH H2 (H1.length+1) = .cells [.int .i64 (dipN v.take 0 b0),.bool (ordB v bal)]:=by
      rw [hH2];simp only [go_sem,getH_atL,length_setH,dipN]
    have x2:getH H2 H.length = .cells [.int .i64 bal,.int .i64 st.blue]:=by
      rw [hH2,getH_left (by rw [length_setH];exact hlen),getH_setH,if_pos ⟨rfl,hlen⟩]
    have d2:=(gH2 wb (by omega) (by omega)).trans e2
    have d3:=(gH2 wo (by omega) (by omega)).trans e3
    have M2:MapOk mo H2:=by
      obtain ⟨es,a,b⟩:=hM1
      exact ⟨es,a,(gH2 mo (by omega) (by omega)).trans b⟩
    have RH2:=hR _ _ _ hRs hK2
    simp only [go_sem,hlt,q2,atI_nat,←hfd,getH_left,setH_left,getH_setH,length_setH,j0,j1,j2,j3,j4,y0,y1,y2,y3,y4,y5,y6,y7,y8,y9,y10,y11,y12,y13,y14,y15,z0,z1,z2,z3,z4,z5,e1,e2,e3,hsb,he1,↓he2,w1,w2,w3,w4,w5,disj_nil,corder' hv,q3,getH_atL,getH_atL0,setH_atL,setH_atL0,isHole_atL,isHole_atL0,hdp]
    rw [←hH2]
    refine RX_whileU (α:=Nat × List Obj) (fun x=>[(66,.c (.int .i64 x.1))]) (fun x=>x.2) (fun x=>x.1≤dn∧Keep (fun o=>o=mo∨o=H1.length+1) H2 x.2∧getH x.2 (H1.length+1) = .cells [.int .i64 (dipN v.take x.1 b0),.bool (ordB v bal)]∧MapOk mo x.2) (fun x=>dn-x.1) (0,H2) ⟨Nat.zero_le _,Keep.refl,x1,M2⟩ (by simp only [go_sem]<;>rfl) ?_
    rintro ⟨i,H3⟩ ⟨hi,K3,y1,M3⟩
    simp only at hi K3 y1 M3
    have l3:=K3.1
    have f2:=K3.get (by omega) d2 (by simp)
    have f3:=K3.get (by omega) d3 (by simp)
    have f5:=K3.get (by omega) x2 (by simp)
    by_cases hi2:i<dn
    · have hi3:(i:Int)<dn:=by omega
      have e5:IntKind.i64.wrap ((i:Int)+1)=((i+1:Nat):Int):=wrap_succ (n:=3000) (by omega) (by decide)
      have bd:=dipN_bd hv.take.1 (n:=i) bb0.1
      have bt:=hv.take
      have w6:IntKind.i64.wrap (dipN v.take i b0-v.take)=dipN v.take i b0-v.take:=wrapB (by omega) (by omega)
      simp only [go_sem,hi3,f2,y1]
      refine (Fdip (g1:=g1) (g2:=g2) (g3:=g3) (g4:=g4) (v:=v) (n:=dipN v.take i b0) (b:=ordB v bal) f3 M3).mono ?_
      rintro r H4 ⟨rfl,K4,M4⟩
      have l4:=K4.1
      have y4:=K4.get (o:=H1.length+1) (by omega) y1 (by simp)
      have ly:=lt_of_getH (h:=H4) (o:=H1.length+1) (by rw [y4];simp)
      simp only [go_sem,y4,e5,w6,getH_setH,length_setH,ly]
      refine ⟨(i+1,_),⟨by simp only;omega,hi2,?_,by simp only [go_sem,getH_setH,length_setH,ly,dipN],?_⟩,rfl,rfl⟩
      · exact K3.trans ⟨by rw [length_setH];exact l4,fun o ho hl=>by rw [getH_setH,if_neg (fun e=>ho (.inr e.1)),K4.2 o (fun e=>ho (.inl e)) hl]⟩
      · exact M4.keep (own:=fun o=>o=H1.length+1) ⟨by rw [length_setH];exact Nat.le_refl _,fun o ho hl=>by rw [getH_setH,if_neg (fun e=>ho e.1)]⟩ (by omega)
    · have:i=dn:=by omega
      subst this
      have hi3:¬(i:Int)<i:=by omega
      have ly:=lt_of_getH (h:=H3) (o:=H1.length+1) (by rw [y1];simp)
      have lz:=lt_of_getH (h:=H3) (o:=H.length) (by rw [f5];simp)
      obtain ⟨H5,hH5⟩:∃H5,H5=setH H3 H.length (.cells [.int .i64 bal,.int .i64 (dipN v.take i b0)]):=⟨_,rfl⟩
      have K5:Keep (fun o=>o=mo∨o=H.length) H1 H5:=by
        refine ⟨by rw [hH5,length_setH];omega,fun o ho hl=>?_⟩
        rw [hH5,getH_setH,if_neg (fun e=>ho (.inr e.1)),K3.2 o (by omega) (by omega),hK2.2 o ho hl]
      have M5:MapOk mo H5:=by
        rw [hH5]
        exact M3.keep (own:=fun o=>o=H.length) ⟨by rw [length_setH];exact Nat.le_refl _,fun o ho hl=>by rw [getH_setH,if_neg (fun e=>ho e.1)]⟩ (by omega)
      have y5:getH H5 H.length = .cells [.int .i64 bal,.int .i64 (dipN v.take i b0)]:=by rw [hH5,getH_setH,if_pos ⟨rfl,lz⟩]
      have hk5:=K5.1
      simp only [go_sem,hi3,y1,f5,getH_setH,length_setH,lz]
      rw [←hH5]
      refine (hF _ H5 ⟨bal,dipN v.take i b0⟩ (by omega) (hC k hlt) (hR _ _ _ hRs K5)).mono ?_
      rintro r H6 ⟨rfl,K6,R6⟩
      have hk6:=K6.1
      simp only [go_sem,e4]
      refine ⟨(k+1,H6),⟨by simp only;omega,hlt,?_,by simp only;omega,?_,M5.keep K6 h4,?_⟩,rfl,rfl⟩
      · exact hK.trans ((K5.mono fun o h=>.inr h).trans (K6.mono fun o h=>.inl h))
      · simp only [hnx]
        exact K6.get h5 y5 (by simp)
      · simp only
        rw [take_getD (by rw [playL_len];exact hlt) default,List.foldl_append,playL_get hlt,hnx]
        exact R6
  · have:k=v.drift.length:=by omega
    subst this
    have hfl:¬v.drift.length<v.feeds.length:=by omega
    rw [List.take_of_length_le (by rw [playL_len];omega)] at hRs
    simp only [go_sem,hfl]
    exact ⟨hK,hM1,hRs⟩
end
end Am.Vt
namespace Am.Vt
open Go Am
set_option maxRecDepth 100000
set_option maxHeartbeats 4000000
set_option linter.unusedSimpArgs false
set_option linter.unusedVariables false
variable {g1 g2 g3 g4:Bool × Bool} {v:Vat} {t:Truth}
theorem Fstates {wo:Nat} {a b c:C} {H:List Obj} (hk:known [a,b,c]=true) {Q:V→List Obj→Prop}:Fn tab (.f 85 [.c (.ptr wo 0),.agg [a,b,c]] H) Q↔Q (.c (.fn 117 false [] [.ptr (H.length+1) 0,.ptr H.length 0])) (H++[.cells [.ptr wo 0],.cells [a,b,c]]):=by
  refine Fn_iff (Fn_X (fn:=f85) rfl rfl ?_)
  simp only [go_sem,f85,hk]
def apAssign : ACode:=(.region 1 [] [
        ⟨(some 5),.alloc [(.int .i64 0),(.int .i64 0)],none,0⟩,
        ⟨none,.store (some 2) (.tmp 5) (.tmp 7),none,1⟩])
def apBody : ACode:=(.block 1 (.region 2 [] [
          ⟨(some 8),.load none (.tmp 2),none,0⟩,
          ⟨(some 9),.load (some 2) (.tmp 5),none,0⟩,
          ⟨(some 10),.bslice 2 1 [(.int .i64 0),(.int .i64 0)] [(0,(.tmp 9))],none,0⟩,
          ⟨(some 11),.append 2 16 (.tmp 8) (.tmp 10),none,1⟩,
          ⟨none,.store none (.tmp 2) (.tmp 11),none,2⟩]))
def SLst (B:Nat) (H:List Obj) (c:C) (s:List St):Prop:=(s=[]∧c = .nils)∨∃o ver,c = .sl o ver 0 s.length∧getH H o = .arr false ver 2 (s.map Row.row)∧B<o
structure apR (m:Nat) (lp:ALoop) (s:List St) (H:List Obj):Prop where
  tc:∃c,getH H m = .cells [c]∧SLst (m+2) H c s
  lp:getH H (m+1) = .loop lp
abbrev apOwn (m:Nat) (o:Nat):Prop:=o=m∨o=m+1∨m+3≤o
theorem ap_yield {m:Nat} {lp:ALoop} {v0 v1 v3 v4 v5 v6 v7 v8 v9 v10 v11 v12:V}
    (hlp:lp=⟨.ready,.normal,[v0,v1,.c (.ptr m 0),v3,v4,v5,v6,v7,v8,v9,v10,v11,v12],[7],apAssign,apBody⟩) :
    SYield (m+3) (fun s=>s.length<1000) (apOwn m) (.yld (m+1)) (apR m lp) (fun s st=>s++[st]):=by
  intro s H st hlen hC hR
  rw [CallV_y]
  have l1:=lt_of_getH (h:=H) (o:=m+1) (by rw [hR.lp];simp)
  refine Fn_y hR.lp (by rw [hlp];rfl) ?_
  rw [show lp.assign=apAssign by rw [hlp],show lp.params=[7] by rw [hlp],show lp.slots=_ by rw [hlp]]
  have k0:m<H.length:=by omega
  have k1:m+1<H.length:=by omega
  simp only [go_sem,apAssign,setParams,assignX,hR.lp,getH_left,setH_left,k0,k1]
  refine ⟨lp,rfl,by rw [hlp],rfl,?_⟩
  generalize hlb:ALoop.mk .busy _ _ _ _ _=lb
  rw [show lp.body=apBody by rw [hlp]]
  have hlb1:∀l:ALoop,Obj.loop lb = .loop l→({ l with state:=.ready,pending:=.normal }:ALoop)=lp:=fun l h=>by cases h;rw [←hlb,hlp]
  clear hlb
  obtain ⟨H1,hH1⟩:∃H1,H1=setH H (m+1) (.loop lb):=⟨_,rfl⟩
  rw [←hH1]
  have len:H1.length=H.length:=by rw [hH1,length_setH]
  have g':∀o,o≠m+1→getH H1 o=getH H o:=fun o ho=>by rw [hH1,getH_setH,if_neg (fun h=>ho h.1)]
  obtain ⟨ct,e1,e2⟩:=hR.tc
  have e1:=(g' m (by omega)).trans e1
  have e5:getH H1 (m+1) = .loop lb:=by rw [hH1,getH_setH,if_pos ⟨rfl,l1⟩]
  have hq:=hlb1 lb rfl
  rw [←len]
  have k0:m<H1.length:=by omega
  have k1:m+1<H1.length:=by omega
  have z0:¬m=H1.length:=by omega
  have z1:¬H1.length=m:=by omega
  have z2:¬m=H1.length+1:=by omega
  have z3:¬H1.length+1=m:=by omega
  have z4:¬m=H1.length+2:=by omega
  have z5:¬H1.length+2=m:=by omega
  have z6:¬m+1=H1.length:=by omega
  have z7:¬H1.length=m+1:=by omega
  have z8:¬m+1=H1.length+1:=by omega
  have z9:¬H1.length+1=m+1:=by omega
  have z10:¬m+1=H1.length+2:=by omega
  have z11:¬H1.length+2=m+1:=by omega
  rcases e2 with ⟨rfl,rfl⟩ | ⟨o,ver,rfl,e2,e3⟩
  · simp only [go_sem,apBody,getH_left,setH_left,getH_setH,length_setH,getH_atL,getH_atL0,setH_atL,setH_atL0,isHole_atL,isHole_atL0,disj_nil,k0,k1,z0,z1,z2,z3,z4,z5,z6,z7,z8,z9,z10,z11,e1,e5,bodyX]
    refine ⟨lb,rfl,?_⟩
    rw [hq]
    refine ⟨⟨by simp [length_setH];omega,fun o ho hl=>?_⟩,⟨⟨_,?_,.inr ⟨H1.length+2,0,rfl,?_,by omega⟩⟩,?_⟩⟩
    · simp only [apOwn,not_or] at ho
      simp only [getH_left,length_setH,show o<H1.length by omega,getH_setH,ho,false_and,if_false]
      rw [g' o ho.2.1]
    · simp only [go_sem,getH_left,length_setH,getH_setH,k0,k1,z0,z1,z2,z3,z4,z5,z6,z7,z8,z9,z10,z11,false_and]
    · simp only [go_sem,getH_atL,getH_atL0,length_setH]
    · simp only [go_sem,getH_left,length_setH,getH_setH,k0,k1,z0,z1,z2,z3,z4,z5,z6,z7,z8,z9,z10,z11,false_and]
  · have e2:=(g' o (by omega)).trans e2
    have lo:=lt_of_getH (h:=H1) (o:=o) (by rw [e2];simp)
    have w0:¬o=m:=by omega
    have w1:¬m=o:=by omega
    have w2:¬o=m+1:=by omega
    have w3:¬m+1=o:=by omega
    have w4:¬o=H1.length:=by omega
    have w5:¬H1.length=o:=by omega
    have w6:¬o=H1.length+1:=by omega
    have w7:¬H1.length+1=o:=by omega
    have w8:¬o=H1.length+2:=by omega
    have w9:¬H1.length+2=o:=by omega
    have y3:(s.length+1)*16≤2^40:=by omega
    simp only [go_sem,apBody,getH_left,setH_left,getH_setH,length_setH,getH_atL,getH_atL0,setH_atL,setH_atL0,isHole_atL,isHole_atL0,disj_nil,k0,k1,z0,z1,z2,z3,z4,z5,z6,z7,z8,z9,z10,z11,e1,e5,bodyX,e2,lo,w0,w1,w2,w3,w4,w5,w6,w7,w8,w9,y3]
    refine ⟨lb,rfl,?_⟩
    rw [hq]
    refine ⟨⟨by simp [length_setH];omega,fun o' ho hl=>?_⟩,⟨⟨.sl o (ver+1) 0 (s.length+1),?_,.inr ⟨o,ver+1,by simp,?_,e3⟩⟩,?_⟩⟩
    · simp only [apOwn,not_or] at ho
      have:¬o'=o:=by omega
      simp only [getH_left,length_setH,show o'<H1.length by omega,getH_setH,ho,this,false_and,if_false]
      rw [g' o' ho.2.1]
    · simp only [go_sem,getH_left,length_setH,getH_setH,k0,k1,z0,z1,z2,z3,z4,z5,z6,z7,z8,z9,z10,z11,w0,w1,w2,w3,w4,w5,w6,w7,w8,w9,false_and]
    · simp only [go_sem,getH_left,length_setH,getH_setH,k0,k1,z0,z1,z2,z3,z4,z5,z6,z7,z8,z9,z10,z11,w0,w1,w2,w3,w4,w5,w6,w7,w8,w9,lo,false_and,List.map_append]
    · simp only [go_sem,getH_left,length_setH,getH_setH,k0,k1,z0,z1,z2,z3,z4,z5,z6,z7,z8,z9,z10,z11,w0,w1,w2,w3,w4,w5,w6,w7,w8,w9,false_and]
theorem foldl_snoc {α:Type}:∀{l s:List α},l.foldl (fun s x=>s++[x]) s=s++l
  | [],s=>by simp
  | x::l,s=>by rw [List.foldl_cons,foldl_snoc];simp
theorem Fplay (hv:v.Valid) (hIs:IsT v t) {H:List Obj} {wo mo:Nat} {c1:C} (hw:getH H wo = .cells (workC g1 g2 g3 g4 v mo)) (hM:MapOk mo H) (hrd:RdI H c1 t.drift) :
    Fn tab (.f 43 [.c (.ptr wo 0),.agg [.int .i64 t.start,.int .i64 t.blue,c1]] H) fun r H'=>∃o ver,r = .c (.sl o ver 0 v.drift.length)∧getH H' o = .arr false ver 2 ((playL v t).map Row.row)∧H.length≤o∧Keep (fun o=>o=mo) H H'∧MapOk mo H':=by
  refine Fn_X (fn:=f43) rfl rfl ?_
  have hk:known [.int .i64 t.start,.int .i64 t.blue,c1]=true:=hrd.kn []
  have hk1:known [c1]=true:=hk
  have lwo:=lt_of_getH (h:=H) (o:=wo) (by rw [hw];simp)
  have lmo:=lt_of_getH (h:=H) (o:=mo) (by obtain ⟨es,_,h⟩:=hM;rw [h];simp)
  have v1:=hv.drift
  have v4:=hv.last7
  have v5:=hv.last0
  simp only [go_sem,f43,hk,hk1,Fstates]
  refine Fn_X (fn:=f84) rfl rfl ?_
  simp only [go_sem,f84]
  refine Fn_X (fn:=f116) rfl rfl ?_
  simp only [go_sem,f116]
  refine RX_range ?_
  generalize hlp:ALoop.mk .ready _ _ _ _ _=lp
  simp only [Opd.ev,getS,CallV_fn,firstV,List.length_append,List.length_cons,List.length_nil,List.append_assoc,List.cons_append,List.nil_append,List.map_cons,List.map_nil,Nat.zero_add,Nat.reduceAdd,Nat.add_assoc,Bool.false_eq_true,if_false]
  have hy:=ap_yield (m:=H.length+3) (lp:=lp) hlp.symm
  have pl:=playL_len (v:=v) (t:=t)
  obtain ⟨G,hG⟩:∃G,G=H++[.cells [.int .i64 t.start,.int .i64 t.blue,c1],.cells [.ptr wo 0],.cells [.int .i64 t.start,.int .i64 t.blue,c1],.cells [.nils],.loop lp]:=⟨_,rfl⟩
  rw [←hG]
  have lG:G.length=H.length+5:=by rw [hG];simp
  refine (states1_ok (F:=.yld (H.length+4)) (own:=apOwn (H.length+3)) (R:=apR (H.length+3) lp) (C0:=fun s=>s.length<1000) (step:=fun s st=>s++[st]) (wo:=wo) (mo:=mo) (tb:=H.length+2) (wb:=H.length+1) (c1:=c1) (g1:=g1) (g2:=g2) (g3:=g3) (g4:=g4) hv hIs (H:=G) rfl (by omega) (by omega) (by omega) (by omega) (by omega) (fun s H1 H2 hr hk=>?_) (by rw [lG];exact hy) ?_ ?_ ?_ ?_ ?_ (s:=[]) (fun k hk=>by rw [foldl_snoc];simp;omega) ?_).mono ?_
  · obtain ⟨c,q1,q2⟩:=hr.tc
    refine ⟨⟨c,hk.get (by omega) q1 (by simp),?_⟩,hk.get (by omega) hr.lp (by simp)⟩
    rcases q2 with h | ⟨o,ver,h1,h2,h3⟩
    · exact .inl h
    · exact .inr ⟨o,ver,h1,hk.get (by omega) h2 (by simp),h3⟩
  · rw [hG];simp only [go_sem]
  · rw [hG];simp only [go_sem]
  · rw [hG];exact getH_keep hw (by simp)
  · rw [hG];exact hM.keep (own:=fun _=>False) Keep.append id
  · intro H' hk'
    refine hrd.agree fun o fr ver rows hg=>?_
    have:=lt_of_getH (h:=H) (o:=o) (by rw [hg];simp)
    have nm:o≠mo:=by rintro rfl;obtain ⟨es,_,h⟩:=hM;rw [h] at hg;cases hg
    rw [hk'.2 o (by simp only [sOwn,apOwn];omega) (by omega),hG,getH_left this]
  · exact ⟨⟨.nils,by rw [hG];simp only [go_sem],.inl ⟨rfl,rfl⟩⟩,by rw [hG];simp only [go_sem]⟩
  · rintro r H' ⟨hk',hM',hr⟩
    rw [foldl_snoc,List.nil_append] at hr
    have l4:=lt_of_getH (h:=H') (o:=H.length+4) (by rw [hr.lp];simp)
    refine ⟨lp,hr.lp,by rw [←hlp];simp,?_⟩
    rw [show lp.pending = .normal by rw [←hlp]]
    obtain ⟨c,q1,q2⟩:=hr.tc
    rcases q2 with ⟨q2,_⟩ | ⟨o,ver,rfl,q2,q3⟩
    · exfalso
      rw [q2,List.length_nil] at pl;omega
    simp only [go_sem,getH_setH,q1,false_and]
    refine ⟨o,ver,by rw [pl],by rw [if_neg (by omega)];exact q2,by omega,⟨?_,fun p hp hl=>?_⟩,?_⟩
    · rw [length_setH];omega
    · rw [getH_setH,if_neg (by omega),hk'.2 p (by simp only [sOwn,apOwn];omega) (by omega),hG,getH_left hl]
    · exact hM'.keep (own:=fun o=>o=H.length+4) ⟨by rw [length_setH];exact Nat.le_refl _,fun o ho hl=>by rw [getH_setH,if_neg (fun e=>ho e.1)]⟩ (by omega)
end Am.Vt
namespace Am.Vt
open Go Am
set_option maxRecDepth 100000
set_option maxHeartbeats 4000000
set_option linter.unusedSimpArgs false
set_option linter.unusedVariables false
variable {g1 g2 g3 g4:Bool × Bool} {v:Vat}
instance : Scal St:=⟨fun _=>rfl⟩
theorem cright {g:Bool × Bool} {k:Lk} {l:List St} (h0:0≤k.day) (h1:k.day<l.length) {Q:V→Prop}:CallP tab 121 [.agg [.int .i64 k.day,.bool k.bal,.int .i64 k.n.lo,.int .i64 k.n.hi],.c (L g l)] Q↔Q (.c (.bool (rightK k l))):=CallP_of (by
  refine Val_X (fn:=f121) rfl ?_
  cases hb:k.bal with
  | true=>simp only [go_sem,f121,h0,h1,chas,rightK,hb]
  | false=>simp only [go_sem,f121,h0,h1,chas,rightK,hb])
def truthsAssign : ACode:=(.region 0 [] [
        ⟨(some 4),.mov (.tmp 16),none,0⟩])
def truthsBody : ACode:=(.block 1 (.seq (.region 1 [(0,3),(1,3),(2,3),(0,4),(1,4),(2,4),(0,5),(1,5),(2,5),(0,6),(1,6),(2,6),(3,6),(4,6),(5,6),(0,7),(1,7),(2,7),(3,7),(4,7),(5,7),(0,9),(1,9),(2,9),(3,9),(4,9),(5,9),(6,9),(7,9),(8,9)] [
          ⟨(some 17),.mov (.tmp 4),none,0⟩,
          ⟨(some 18),.iaddr 1 (.tmp 17) (.cst (.c (.int .i64 0))),none,0⟩,
          ⟨(some 19),.load none (.tmp 18),none,0⟩,
          ⟨(some 20),.mov (.tmp 4),none,0⟩,
          ⟨(some 21),.iaddr 1 (.tmp 20) (.cst (.c (.int .i64 1))),none,0⟩,
          ⟨(some 22),.load none (.tmp 21),none,0⟩,
          ⟨(some 23),.mov (.tmp 4),none,0⟩,
          ⟨(some 24),.slice 1 (.tmp 23) (some (.cst (.c (.int .i64 2)))) none,none,0⟩,
          ⟨(some 25),.build [(.int .i64 0),(.int .i64 0),.nils] [(0,1,(.tmp 19)),(1,1,(.tmp 22)),(2,1,(.tmp 24))],none,0⟩,
          ⟨(some 5),.alloc [(.int .i64 0),(.int .i64 0),.nils],none,0⟩,
          ⟨none,.store (some 3) (.tmp 5) (.tmp 25),none,1⟩])
        (.seq (.region 0 [] [
          ⟨(some 26),.load none (.tmp 1),none,0⟩,
          ⟨(some 27),.load (some 3) (.tmp 5),none,0⟩,
          ⟨(some 28),.call 43 false [(.tmp 26),(.tmp 27)],none,0⟩,
          ⟨(some 6),.mov (.tmp 28),none,0⟩])
        (.seq (.region 0 [] [
          ⟨(some 7),.mov (.cst (.c (.bool true))),none,0⟩])
        (.seq (.seq (.region 0 [] [
          ⟨(some 29),.load none (.tmp 1),none,0⟩,
          ⟨(some 30),.nilchk (.tmp 29),none,0⟩,
          ⟨(some 31),.faddr 0 (.tmp 30),none,0⟩,
          ⟨(some 32),.faddr 11 (.tmp 31),none,0⟩,
          ⟨(some 33),.load none (.tmp 32),none,0⟩,
          ⟨(some 34),.len (.tmp 33),none,0⟩,
          ⟨(some 35),.mov (.cst (.c (.int .i64 0))),none,0⟩])
        (.block 2 (.loop ⟨[8,9,36,37,38,39,40,41,42,43,44,45,46,47,48,49,50,51],false,[]⟩
            (.seq (.region 0 [] [
              ⟨(some 36),.bin .lss (.tmp 35) (.tmp 34),none,0⟩])
            (.seq (.cond (.tmp 36)
              .skip
              (.exit 2))
            (.seq (.block 3 (.seq (.region 1 [] [
                ⟨(some 37),.mov (.tmp 35),none,0⟩,
                ⟨(some 38),.iaddr 4 (.tmp 33) (.tmp 35),none,0⟩,
                ⟨(some 39),.load (some 4) (.tmp 38),none,0⟩,
                ⟨(some 9),.alloc [(.int .i64 0),(.bool false),(.int .i64 0),(.int .i64 0)],none,0⟩,
                ⟨(some 8),.mov (.tmp 37),none,1⟩,
                ⟨none,.store (some 4) (.tmp 9) (.tmp 39),none,1⟩])
              (.region 0 [] [
                ⟨(some 40),.mov (.tmp 7),none,0⟩,
                ⟨(some 41),.mov (.tmp 40),none,0⟩,
                ⟨(some 42),.load none (.tmp 2),some (41,true),0⟩,
                ⟨(some 43),.mov (.tmp 8),some (41,true),0⟩,
                ⟨(some 44),.call 120 true [(.tmp 42),(.tmp 43)],some (41,true),0⟩,
                ⟨(some 45),.mov (.tmp 44),some (41,true),0⟩,
                ⟨(some 46),.load (some 4) (.tmp 9),some (45,false),0⟩,
                ⟨(some 47),.mov (.tmp 6),some (45,false),0⟩,
                ⟨(some 48),.call 121 true [(.tmp 46),(.tmp 47)],some (45,false),0⟩,
                ⟨(some 49),.pick (.tmp 45) (.cst (.c (.bool true))) (.tmp 48),some (41,true),0⟩,
                ⟨(some 50),.pick (.tmp 41) (.tmp 49) (.cst (.c (.bool false))),none,0⟩,
                ⟨(some 7),.mov (.tmp 50),none,0⟩])))
            (.region 0 [] [
              ⟨(some 51),.bin .add (.tmp 35) (.cst (.c (.int .i64 1))),none,0⟩,
              ⟨(some 35),.mov (.tmp 51),none,0⟩])))))))
        (.seq (.region 0 [] [
          ⟨(some 52),.mov (.tmp 7),none,0⟩,
          ⟨(some 53),.mov (.tmp 52),none,0⟩,
          ⟨(some 54),.load none (.tmp 3),some (53,true),0⟩,
          ⟨(some 55),.load (some 3) (.tmp 5),some (53,true),0⟩,
          ⟨(some 56),.mov (.tmp 6),some (53,true),0⟩,
          ⟨(some 57),.callv (.tmp 54) [(.tmp 55),(.tmp 56)],some (53,true),0⟩,
          ⟨(some 58),.not (.tmp 57),some (53,true),0⟩,
          ⟨(some 59),.pick (.tmp 53) (.tmp 58) (.cst (.c (.bool false))),none,0⟩])
        (.cond (.tmp 59)
          .ret
          .skip)))))))
section
variable {σ:Type} {own:Nat→Prop} {F:C} {R RS:σ→List Obj→Prop} {step:σ→Truth→σ × Bool} {C0:σ→Truth→Prop} {n wb ob wo mo:Nat} {out:List Int} {oc:C}
def TYield (v:Vat) (N:Nat) (C0:σ→Truth→Prop) (own:Nat→Prop) (F:C) (R RS:σ→List Obj→Prop) (step:σ→Truth→σ × Bool):Prop:=
  ∀s H t c1 so ver,N≤H.length→C0 s t→IsT v t→RdI H c1 t.drift→getH H so = .arr false ver 2 ((playL v t).map Row.row)→N≤so→R s H→CallV tab (.c F) [.agg [.int .i64 t.start,.int .i64 t.blue,c1],.c (.sl so ver 0 v.drift.length)] H (yQ own H R RS (step s t))
abbrev tOwn (n mo:Nat) (own:Nat→Prop) (o:Nat):Prop:=own o∨o=mo∨o=n+2
def tstep (v:Vat) (out:List Int) (step:σ→Truth→σ × Bool) (s:σ) (w:List Int):σ × Bool:=if rightL v out (playL v (tOf w))=true then step s (tOf w) else (s,true)
theorem foldY_t {s:σ} {ws:List (List Int)}:foldY (tstep v out step) s ws=foldY step s ((ws.map tOf).filter fun t=>rightL v out (playL v t)):=by
  induction ws generalizing s with
  | nil=>rfl
  | cons w ws ih=>
    by_cases hr:rightL v out (playL v (tOf w))=true
    · have e:tstep v out step s w=step s (tOf w):=if_pos hr
      simp only [List.map_cons,List.filter_cons,hr,if_true,foldY,e]
      split
      · exact ih
      · rfl
    · have e:tstep v out step s w=(s,true):=if_neg hr
      simp only [List.map_cons,List.filter_cons,hr,if_false,foldY,e,if_true,Bool.false_eq_true]
      exact ih
theorem FoldC_t {s:σ} {ws:List (List Int)} (h:FoldC C0 step s ((ws.map tOf).filter fun t=>rightL v out (playL v t))):FoldC (fun s w=>rightL v out (playL v (tOf w))=true→C0 s (tOf w)) (tstep v out step) s ws:=by
  induction ws generalizing s with
  | nil=>trivial
  | cons w ws ih=>
    by_cases hr:rightL v out (playL v (tOf w))=true
    · have e:tstep v out step s w=step s (tOf w):=if_pos hr
      simp only [List.map_cons,List.filter_cons,hr,if_true] at h
      exact ⟨fun _=>h.1,fun hs=>by rw [e] at hs ⊢;exact ih (h.2 hs)⟩
    · have e:tstep v out step s w=(s,true):=if_neg hr
      simp only [List.map_cons,List.filter_cons,hr,if_false,Bool.false_eq_true] at h
      exact ⟨fun h'=>absurd h' hr,fun _=>by rw [e];exact ih h⟩
structure tR (n mo:Nat) (F:C) (own:Nat→Prop) (H0:List Obj) (lp:ALoop) (R:σ→List Obj→Prop) (s:σ) (H:List Obj):Prop where
  k:Keep (fun o=>own o∨o=mo) H0 H
  yb:getH H n = .cells [F]
  lp:getH H (n+2) = .loop lp
  r:R s H
theorem setK {H:List Obj} {o:Nat} {x:Obj} {own:Nat→Prop} (h:own o):Keep own H (setH H o x):=⟨by rw [length_setH];exact Nat.le_refl _,fun p hp hl=>by rw [getH_setH,if_neg (fun e=>hp (by rw [e.1];exact h))]⟩
theorem truths_yield (hv:v.Valid) {H0:List Obj} (hn:H0.length=n) (hoB:out.length<Big) (hkn:known [F]=true) (h1:¬own wb) (h2:¬own ob) (h3:¬own wo) (hown:∀o,n≤o→o<n+7→¬own o)
    (hR:∀s H H',R s H→Keep (fun o=>(n≤o∧o<n+7)∨o=mo) H H'→MapOk mo H'→R s H') (hRS:∀s H H',RS s H→Keep (fun o=>n≤o∧o<n+7) H H'→RS s H') (hRm:∀s H,R s H→MapOk mo H) (hF:TYield v (n+7) C0 own F R RS step)
    (hwb:getH H0 wb = .cells [.ptr wo 0]) (hob:getH H0 ob = .cells [oc]) (hw:getH H0 wo = .cells (workC g1 g2 g3 g4 v mo)) (hmo:mo<n) (nwm:wo≠mo) (nbm:wb≠mo) (nom:ob≠mo) (ho:∀H,Keep (fun o=>own o∨o=mo) H0 H→RdI H oc out) {v0 v4 v5 v6 v7 v8 v9 v10 v11 v12 v13 v14 v15:V} {vs:List V} (hvs:vs=List.replicate 44 (.c .any)) {lp lpd:ALoop}
    (hlp:lp=⟨.ready,.normal,[v0,.c (.ptr wb 0),.c (.ptr ob 0),.c (.ptr n 0),v4,v5,v6,v7,v8,v9,v10,v11,v12,v13,v14,v15]++vs,[16],truthsAssign,truthsBody⟩) (hlpd:lpd={ lp with state:=.done,pending:=.ret }) :
    LYield tab (rangesL v) (n+7) (fun s w=>rightL v out (playL v (tOf w))=true→C0 s (tOf w)) (tOwn n mo own) (n+4) (.yld (n+2)) (tR n mo F own H0 lp R) (tR n mo F own H0 lpd RS) (tstep v out step):=by
  subst hvs
  intro s H w hlen hCw hwl hin hRr hg
  rw [CallV_y]
  change Fn tab _ (yQ (tOwn n mo own) H (tR n mo F own H0 lp R) (tR n mo F own H0 lpd RS) (tstep v out step s w))
  refine Fn_y hRr.lp (by rw [hlp];rfl) ?_
  rw [show lp.assign=truthsAssign by rw [hlp],show lp.params=[16] by rw [hlp],show lp.slots=_ by rw [hlp]]
  have l2:=lt_of_getH (h:=H) (o:=n+2) (by rw [hRr.lp];simp)
  have l4:=lt_of_getH (h:=H) (o:=n+4) (by rw [hg];simp)
  simp only [go_sem,truthsAssign,setParams,assignX,hRr.lp]
  refine ⟨lp,rfl,by rw [hlp],rfl,?_⟩
  generalize hlb:ALoop.mk .busy _ _ _ _ _=lb
  rw [show lp.body=truthsBody by rw [hlp]]
  have hlb1:∀l:ALoop,Obj.loop lb = .loop l→({ l with state:=.ready,pending:=.normal }:ALoop)=lp:=fun l h=>by cases h;rw [←hlb,hlp]
  have hlb2:∀l:ALoop,Obj.loop lb = .loop l→({ l with state:=.done,pending:=.ret }:ALoop)=lpd:=fun l h=>by cases h;rw [←hlb,hlpd]
  clear hlb
  have q1:=hlb1 lb rfl
  have q2:=hlb2 lb rfl
  obtain ⟨H1,hH1⟩:∃H1,H1=setH H (n+2) (.loop lb):=⟨_,rfl⟩
  rw [←hH1]
  have len:H1.length=H.length:=by rw [hH1,length_setH]
  have g:∀o,o≠n+2→getH H1 o=getH H o:=fun o ho=>by rw [hH1,getH_setH,if_neg (fun h=>ho h.1)]
  have lt0:∀{o x},getH H0 o=x→x ≠ .none→o<n:=fun {o x} h hne=>by rw [←hn];exact lt_of_getH (by rw [h];exact hne)
  have lwb:=lt0 hwb (by simp)
  have lob:=lt0 hob (by simp)
  have lwo:=lt0 hw (by simp)
  have e1:=(g wb (by omega)).trans (hRr.k.get (fun h=>h.elim h1 nbm) hwb (by simp))
  have e2:=(g ob (by omega)).trans (hRr.k.get (fun h=>h.elim h2 nom) hob (by simp))
  have e3:=(g wo (by omega)).trans (hRr.k.get (fun h=>h.elim h3 nwm) hw (by simp))
  have e0:=(g n (by omega)).trans hRr.yb
  have e4:=(g (n+4) (by omega)).trans hg
  have e5:getH H1 (n+2) = .loop lb:=by rw [hH1,getH_setH,if_pos ⟨rfl,l2⟩]
  have hKH:Keep (fun o=>(n≤o∧o<n+7)∨o=mo) H H1:=by rw [hH1];exact setK (.inl ⟨by omega,by omega⟩)
  have M1:MapOk mo H1:=(hRm _ _ hRr.r).keep (own:=fun o=>o=n+2) (by rw [hH1];exact setK rfl) (by omega)
  have R1:=hR _ _ _ hRr.r hKH M1
  have hrl:=rangesL_len (v:=v)
  have v1:=hv.drift
  have v4:=hv.last7
  have v5:=hv.last0
  have vl:=hv.looks5
  have hIs:=isT_of (v:=v) hwl hin
  obtain ⟨t,ht⟩:∃t,t=tOf w:=⟨_,rfl⟩
  rw [←ht] at hIs
  have p0:(0:Int)<w.length:=by omega
  have p1:(1:Int)<w.length:=by omega
  have p2:(2:Nat)≤w.length:=by omega
  have n0:nth (w.map (Row.row (α:=Int))) 0=some [.int .i64 t.start]:=by rw [nth_row (by omega),ht];rfl
  have n1:nth (w.map (Row.row (α:=Int))) 1=some [.int .i64 t.blue]:=by rw [nth_row (by omega),ht];rfl
  have k0:wb<H1.length:=by omega
  have k1:ob<H1.length:=by omega
  have k2:wo<H1.length:=by omega
  have k3:n<H1.length:=by omega
  have k4:n+2<H1.length:=by omega
  have k5:n+4<H1.length:=by omega
  have u0:¬wb=n:=by omega
  have u1:¬n=wb:=by omega
  have u2:¬wb=n+2:=by omega
  have u3:¬n+2=wb:=by omega
  have u4:¬wb=n+4:=by omega
  have u5:¬n+4=wb:=by omega
  have u6:¬ob=n:=by omega
  have u7:¬n=ob:=by omega
  have u8:¬ob=n+2:=by omega
  have u9:¬n+2=ob:=by omega
  have u10:¬ob=n+4:=by omega
  have u11:¬n+4=ob:=by omega
  have u12:¬wo=n:=by omega
  have u13:¬n=wo:=by omega
  have u14:¬wo=n+2:=by omega
  have u15:¬n+2=wo:=by omega
  have u16:¬wo=n+4:=by omega
  have u17:¬n+4=wo:=by omega
  have z0:¬wb=H1.length:=by omega
  have z1:¬H1.length=wb:=by omega
  have z2:¬ob=H1.length:=by omega
  have z3:¬H1.length=ob:=by omega
  have z4:¬wo=H1.length:=by omega
  have z5:¬H1.length=wo:=by omega
  have z6:¬n=H1.length:=by omega
  have z7:¬H1.length=n:=by omega
  have z8:¬n+2=H1.length:=by omega
  have z9:¬H1.length=n+2:=by omega
  have z10:¬n+4=H1.length:=by omega
  have z11:¬H1.length=n+4:=by omega
  simp only [go_sem,truthsBody,getH_left,setH_left,getH_setH,length_setH,getH_atL,getH_atL0,disj_nil,k0,k1,k2,k3,k4,k5,u0,u1,u2,u3,u4,u5,u6,u7,u8,u9,u10,u11,u12,u13,u14,u15,u16,u17,z0,z1,z2,z3,z4,z5,z6,z7,z8,z9,z10,z11,e0,e1,e2,e3,e4,e5,p0,p1,p2,n0,n1]
  obtain ⟨Ht,hHt⟩:∃Ht,Ht=H1++[.cells [.int .i64 t.start,.int .i64 t.blue,.sl (n+4) 0 2 (w.length-2)]]:=⟨_,rfl⟩
  rw [←hHt]
  have lt1:Ht.length=H1.length+1:=by rw [hHt];simp
  have hc1:∀Hx,getH Hx (n+4) = .arr false 0 1 (w.map Row.row)→RdI Hx (.sl (n+4) 0 2 (w.length-2)) t.drift:=fun Hx h=>by
    have:=RdI.sl (H:=Hx) (n+4) 0 false 2 (w.length-2) w h (by omega)
    rw [List.take_of_length_le (by simp)] at this
    rw [ht];exact this
  have t3:getH Ht wo = .cells (workC g1 g2 g3 g4 v mo):=by rw [hHt];exact getH_keep e3 (by simp)
  have tM:MapOk mo Ht:=by rw [hHt];exact M1.keep (own:=fun _=>False) Keep.append id
  refine (Fplay (g1:=g1) (g2:=g2) (g3:=g3) (g4:=g4) hv hIs t3 tM (hc1 _ (by rw [hHt];exact getH_keep e4 (by simp)))).mono ?_
  rintro r H2 ⟨so,ver,rfl,hso,hge,K2,M2⟩
  have k2:=K2.1
  have hx:∀o x,o<H1.length→o≠mo→getH H1 o=x→x ≠ .none→getH H2 o=x:=fun o x h h' hx hne=>K2.get h' (by rw [hHt];exact getH_keep hx hne) hne
  have f0:=hx n _ (by omega) (by omega) e0 (by simp)
  have f1:=hx wb _ (by omega) nbm e1 (by simp)
  have f2:=hx ob _ (by omega) nom e2 (by simp)
  have f3:=hx wo _ (by omega) nwm e3 (by simp)
  have f4:=hx (n+4) _ (by omega) (by omega) e4 (by simp)
  have f5:=hx (n+2) _ (by omega) (by omega) e5 (by simp)
  have f6:getH H2 H1.length = .cells [.int .i64 t.start,.int .i64 t.blue,.sl (n+4) 0 2 (w.length-2)]:=K2.get (by omega) (by rw [hHt];exact getH_atL0 rfl) (by simp)
  have lso:=lt_of_getH (h:=H2) (o:=so) (by rw [hso];simp)
  have K12:Keep (fun o=>o=mo) H1 H2:=⟨by omega,fun o h h'=>by rw [K2.2 o h (by omega),hHt,getH_left h']⟩
  have KX:∀X,Keep (fun o=>o=mo∨o=n+2) H (H2++X):=fun X=>⟨by simp;omega,fun o h h'=>by rw [getH_left (by omega),K12.2 o (fun e=>h (.inl e)) (by omega),g o (fun e=>h (.inr e))]⟩
  have MX:∀X,MapOk mo (H2++X):=fun X=>M2.keep (own:=fun _=>False) Keep.append id
  have RXk:∀X,R s (H2++X):=fun X=>hR _ _ _ hRr.r ((KX X).mono fun o h=>by rcases h with h | h;exact .inr h;exact .inl ⟨by omega,by omega⟩) (MX X)
  obtain ⟨go,hgo⟩:=(ho _ hRr.k).arg2
  have hKo:∀X,Keep (fun o=>own o∨o=mo) H0 (H2++X):=fun X=>⟨by have:=hRr.k.1;have:=(KX X).1;omega,fun o h h'=>by rw [(KX X).2 o (fun e=>by rcases e with e | e;exact h (.inr e);omega) (by have:=hRr.k.1;omega),hRr.k.2 o h h']⟩
  have hOc:∀X,toArgC (H2++X) oc=some (L go out):=fun X=>hgo _ (ho _ (hKo X))
  have pl:=playL_len (v:=v) (t:=t)
  have xp:takeN v.drift.length ((playL v t).map (Row.row (α:=St)))=some ((playL v t).map Row.row):=takeN_map pl
  have hts:tstep v out step s w=if rightL v out (playL v t)=true then step s t else (s,true):=by rw [ht];rfl
  -- behind a round
  have fin:∀(Hx:List Obj) (lp':ALoop) (s':σ) (R':σ→List Obj→Prop),Keep own (H2++[]) Hx∨(∃X,Keep own (H2++X) Hx)→R' s' (setH Hx (n+2) (.loop lp'))→Keep (tOwn n mo own) H (setH Hx (n+2) (.loop lp'))∧tR n mo F own H0 lp' R' s' (setH Hx (n+2) (.loop lp')):=by
    intro Hx lp' s' R' hKx hr
    obtain ⟨X,hKx⟩:∃X,Keep own (H2++X) Hx:=by rcases hKx with h | h;exact ⟨[],h⟩;exact h
    have l1:=hKx.1
    simp only [List.length_append] at l1
    have hK:Keep (tOwn n mo own) H (setH Hx (n+2) (.loop lp')):=by
      refine ⟨by rw [length_setH];omega,fun o h h'=>?_⟩
      simp only [tOwn,not_or] at h
      rw [getH_setH,if_neg (fun e=>h.2.2 e.1),hKx.2 o h.1 (by simp;omega),(KX X).2 o (by omega) h']
    refine ⟨hK,⟨?_,?_,?_,hr⟩⟩
    · refine ⟨by have:=hK.1;have:=hRr.k.1;omega,fun o h h'=>?_⟩
      rw [hK.2 o (fun e=>by rcases e with e | e | e;exact h (.inl e);exact h (.inr e);omega) (by have:=hRr.k.1;omega),hRr.k.2 o h h']
    · rw [getH_setH,if_neg (by omega)]
      exact hKx.get (hown n (Nat.le_refl _) (by omega)) (getH_keep f0 (by simp)) (by simp)
    · rw [getH_setH,if_pos ⟨rfl,by omega⟩]
  simp only [go_sem,getH_left,setH_left,getH_setH,length_setH,f1,f3,show wb<H2.length by omega,show wo<H2.length by omega]
  refine RX_whileU (α:=Nat × List Obj) (fun x=>[(7,.c (.bool ((List.range x.1).all (rightAt v out (playL v t))))),(35,.c (.int .i64 x.1))]) (fun x=>H2++x.2) (fun x=>x.1≤v.looks.length) (fun x=>v.looks.length-x.1) (0,[]) (Nat.zero_le _) (by simp only [go_sem]<;>rfl) ?_
  rintro ⟨i,X⟩ hi
  simp only at hi
  have i0:(0:Int)≤i:=by omega
  have e6:IntKind.i64.wrap ((i:Int)+1)=((i+1:Nat):Int):=wrap_succ (n:=3000) (by omega) (by decide)
  have j0:wb<H2.length:=by omega
  have j1:ob<H2.length:=by omega
  have j2:wo<H2.length:=by omega
  have j3:n<H2.length:=by omega
  have j4:n+2<H2.length:=by omega
  have j5:n+4<H2.length:=by omega
  have j6:H1.length<H2.length:=by omega
  have j7:so<H2.length:=by omega
  by_cases hlt:i<v.looks.length
  · have i1:(i:Int)<v.looks.length:=by omega
    obtain ⟨lk,hlk⟩:∃lk,lk=v.looks.getD i default:=⟨_,rfl⟩
    have hlv:=hv.looks lk (by rw [hlk];exact getD_mem hlt)
    have hro:rightAt v out (playL v t) i=(decide ((i:Int)∈out)||rightK lk (playL v t)):=by rw [rightAt,←hlk]
    have hrk:(List.range (i+1)).all (rightAt v out (playL v t))=((List.range i).all (rightAt v out (playL v t))&&rightAt v out (playL v t) i):=by rw [List.range_succ,List.all_append];simp
    have hC:=fun {g:Bool × Bool} {Q:V→Prop}=>CallP_of (Contains_ok (G:=tab) (k:=120) rfl rfl (g:=g) (l:=out) (v:=(i:Int)) hoB) (Q:=Q)
    have hRt:=fun {g:Bool × Bool} {Q:V→Prop}=>cright (g:=g) (k:=lk) (l:=playL v t) hlv.1.1 (by omega) (Q:=Q)
    have hat:atI v.looks (i:Int)=lk:=by rw [atI_nat,hlk]
    cases hb:(List.range i).all (rightAt v out (playL v t)) with
    | false=>
      simp only [go_sem,getH_left,setH_left,getH_setH,length_setH,getH_atL,getH_atL0,setH_atL,setH_atL0,isHole_atL,isHole_atL0,j0,j1,j2,j3,j4,j5,j6,j7,i0,i1,hlt,hat,hb,e6]
      exact ⟨(i+1,X++[.cells [.int .i64 lk.day,.bool lk.bal,.int .i64 lk.n.lo,.int .i64 lk.n.hi]]),⟨by simp only;omega,hlt⟩,⟨by simp only [hrk,hb,Bool.false_and],rfl⟩,rfl⟩
    | true=>
      by_cases hm:(i:Int)∈out
      · simp only [go_sem,getH_left,setH_left,getH_setH,length_setH,getH_atL,getH_atL0,setH_atL,setH_atL0,isHole_atL,isHole_atL0,j0,j1,j2,j3,j4,j5,j6,j7,i0,i1,hlt,hat,hb,e6,f2,hOc,hC,hm]
        exact ⟨(i+1,X++[.cells [.int .i64 lk.day,.bool lk.bal,.int .i64 lk.n.lo,.int .i64 lk.n.hi]]),⟨by simp only;omega,hlt⟩,⟨by simp only [hrk,hb,hro,hm,Bool.true_and,decide_true,Bool.true_or],rfl⟩,rfl⟩
      · simp only [go_sem,getH_left,setH_left,getH_setH,length_setH,getH_atL,getH_atL0,setH_atL,setH_atL0,isHole_atL,isHole_atL0,j0,j1,j2,j3,j4,j5,j6,j7,i0,i1,hlt,hat,hb,e6,f2,hOc,hC,hm,hso,xp,pl,hRt]
        exact ⟨(i+1,X++[.cells [.int .i64 lk.day,.bool lk.bal,.int .i64 lk.n.lo,.int .i64 lk.n.hi]]),⟨by simp only;omega,hlt⟩,⟨by simp only [hrk,hb,hro,hm,Bool.true_and,decide_false,Bool.false_or],rfl⟩,rfl⟩
  · have:i=v.looks.length:=by omega
    subst this
    have hrr:(List.range v.looks.length).all (rightAt v out (playL v t))=rightL v out (playL v t):=rfl
    rw [hrr]
    have l5:n+2<H2.length:=by omega
    have lX:∀Y:List Obj,n+2<(H2++Y).length:=fun Y=>by simp;omega
    cases hr:rightL v out (playL v t) with
    | false=>
      simp only [go_sem,getH_left,setH_left,getH_setH,length_setH,getH_atL,getH_atL0,setH_atL,setH_atL0,isHole_atL,isHole_atL0,j0,j1,j2,j3,j4,j5,j6,j7,hlt,hr,bodyX,f5]
      refine ⟨lb,rfl,?_⟩
      rw [q1,←setH_left l5,hts,if_neg (by rw [hr];decide)]
      have hf:=fin (H2++X) lp s R (.inr ⟨X,Keep.refl⟩) (hR _ _ _ (RXk X) (setK (.inl ⟨by omega,by omega⟩)) ((MX X).keep (own:=fun o=>o=n+2) (setK rfl) (by omega)))
      exact yQ_true rfl hf.1 hf.2
    | true=>
      simp only [go_sem,getH_left,setH_left,getH_setH,length_setH,getH_atL,getH_atL0,setH_atL,setH_atL0,isHole_atL,isHole_atL0,j0,j1,j2,j3,j4,j5,j6,j7,hlt,hr,bodyX,f0,f5,f6]
      refine (hF s (H2++X) t _ so ver (by simp;omega) (by rw [ht];exact hCw (by rw [←ht];exact hr)) hIs (hc1 _ (by rw [getH_left (by omega)];exact f4)) (by rw [getH_left lso];exact hso) (by omega) (RXk X)).mono ?_
      rintro r H3 ⟨rfl,K3,hr3⟩
      have f7:=K3.get (hown (n+2) (by omega) (by omega)) (getH_keep f5 (by simp)) (by simp)
      rcases hr3 with ⟨a,b⟩ | ⟨a,b⟩
      · simp only [go_sem,a,f7,bodyX]
        refine ⟨lb,rfl,?_⟩
        rw [q1,hts,if_pos hr]
        have hf:=fin H3 lp (step s t).1 R (.inr ⟨X,K3⟩) (hR _ _ _ b (setK (.inl ⟨by omega,by omega⟩)) ((hRm _ _ b).keep (own:=fun o=>o=n+2) (setK rfl) (by omega)))
        exact yQ_true a hf.1 hf.2
      · simp only [go_sem,a,f7,bodyX]
        refine ⟨lb,rfl,?_⟩
        rw [q2,hts,if_pos hr]
        have hf:=fin H3 lpd (step s t).1 RS (.inr ⟨X,K3⟩) (hRS _ _ _ b (setK ⟨by omega,by omega⟩))
        exact yQ_false a hf.1 hf.2
end
end Am.Vt
namespace Am.Vt
open Go Am
set_option maxRecDepth 100000
set_option maxHeartbeats 4000000
set_option linter.unusedSimpArgs false
set_option linter.unusedVariables false
variable {g1 g2 g3 g4:Bool × Bool} {v:Vat}
section
variable {σ:Type} {own:Nat→Prop} {F:C} {R RS:σ→List Obj→Prop} {step:σ→Truth→σ × Bool} {C0:σ→Truth→Prop} {n wb ob wo mo:Nat} {out:List Int} {oc:C}
theorem truths1_ok (hv:v.Valid) {H:List Obj} (hn:H.length=n) (hoB:out.length<Big) (hkn:known [F]=true) (h1:¬own wb) (h2:¬own ob) (h3:¬own wo) (hown:∀o,n≤o→o<n+7→¬own o)
    (hR:∀s H H',R s H→Keep (fun o=>(n≤o∧o<n+7)∨o=mo) H H'→MapOk mo H'→R s H') (hRS:∀s H H',RS s H→Keep (fun o=>n≤o∧o<n+7) H H'→RS s H') (hRm:∀s H,R s H→MapOk mo H) (hF:TYield v (n+7) C0 own F R RS step)
    (hwb:getH H wb = .cells [.ptr wo 0]) (hob:getH H ob = .cells [oc]) (hw:getH H wo = .cells (workC g1 g2 g3 g4 v mo)) (ho:∀H',Keep (fun o=>own o∨o=mo) H H'→RdI H' oc out) {s:σ} (hRs:R s H) (hC:FoldC C0 step s (truthsL v out)) :
    Fn tab (.f 118 [.c F,.c (.ptr wb 0),.c (.ptr ob 0)] H) fun _ H'=>Keep (fun o=>own o∨o=mo) H H'∧(((foldY step s (truthsL v out)).2=true∧R (foldY step s (truthsL v out)).1 H')∨((foldY step s (truthsL v out)).2=false∧RS (foldY step s (truthsL v out)).1 H')):=by
  refine Fn_X (fn:=f118) rfl rfl ?_
  have lwb:=lt_of_getH (h:=H) (o:=wb) (by rw [hwb];simp)
  have lob:=lt_of_getH (h:=H) (o:=ob) (by rw [hob];simp)
  have lwo:=lt_of_getH (h:=H) (o:=wo) (by rw [hw];simp)
  have hM:=hRm _ _ hRs
  obtain ⟨es,hes,hmo⟩:=hM
  have lmo:=lt_of_getH (h:=H) (o:=mo) (by rw [hmo];simp)
  have nwm:wo≠mo:=by rintro rfl;rw [hw] at hmo;cases hmo
  have nbm:wb≠mo:=by rintro rfl;rw [hwb] at hmo;cases hmo
  have nom:ob≠mo:=by rintro rfl;rw [hob] at hmo;cases hmo
  have v1:=hv.drift
  have v4:=hv.last7
  have hP:=fun {Q:V→Prop}=>cranges (g1:=g1) (g2:=g2) (g3:=g3) (g4:=g4) (v:=v) (show v.drift.length≤1000 by omega) (Q:=Q)
  subst hn
  have z0:¬wb=H.length:=by omega
  have z1:¬H.length=wb:=by omega
  have z2:¬wb=H.length+1:=by omega
  have z3:¬H.length+1=wb:=by omega
  have z4:¬wb=H.length+2:=by omega
  have z5:¬H.length+2=wb:=by omega
  have z6:¬ob=H.length:=by omega
  have z7:¬H.length=ob:=by omega
  have z8:¬ob=H.length+1:=by omega
  have z9:¬H.length+1=ob:=by omega
  have z10:¬ob=H.length+2:=by omega
  have z11:¬H.length+2=ob:=by omega
  have z12:¬wo=H.length:=by omega
  have z13:¬H.length=wo:=by omega
  have z14:¬wo=H.length+1:=by omega
  have z15:¬H.length+1=wo:=by omega
  have z16:¬wo=H.length+2:=by omega
  have z17:¬H.length+2=wo:=by omega
  have hLs:=fun {g:Bool × Bool} {H:List Obj} {Q:V→List Obj→Prop}=>lists_ok (G:=tab) (k:=119) (kL:=133) rfl (rs:=rangesL v) (g:=g) (H:=H) (Q:=Q)
  simp only [go_sem,f118,hkn,getH_left,lwb,lob,lwo,z0,z1,z2,z3,z4,z5,z6,z7,z8,z9,z10,z11,z12,z13,z14,z15,z16,z17,hwb,hob,hw,hP,hLs]
  refine RX_range ?_
  generalize hlp:ALoop.mk .ready _ _ _ _ _=lp
  simp only [Opd.ev,getS,CallV_fn,firstV,List.length_append,List.length_cons,List.length_nil,List.append_assoc,List.cons_append,List.nil_append,List.map_cons,List.map_nil,Nat.zero_add,Nat.reduceAdd,Nat.add_assoc,Bool.false_eq_true,if_false]
  have hy:=truths_yield (F:=F) (out:=out) (oc:=oc) (R:=R) (RS:=RS) (step:=step) (g1:=g1) (g2:=g2) (g3:=g3) (g4:=g4) (n:=H.length) (mo:=mo) hv (H0:=H) rfl hoB hkn h1 h2 h3 hown hR hRS hRm hF hwb hob hw lmo nwm nbm nom ho (vs:=List.replicate 44 (.c .any)) rfl (lp:=lp) (lpd:={ lp with state:=.done,pending:=.ret }) hlp.symm rfl
  refine (lists1_ok (G:=tab) (F:=.yld (H.length+2)) (kL:=133) (kC:=134) (kS:=82) rfl rfl csize hv.rgs (g:=(false,false)) (lb:=H.length+1) (own:=tOwn H.length mo own) (R:=tR H.length mo F own H lp R) (RS:=tR H.length mo F own H { lp with state:=.done,pending:=.ret } RS) (step:=tstep v out step) rfl (fun h=>by rcases h with h | h | h;exact hown _ (by omega) (by omega) h;all_goals omega) (s:=s) (fun o ho ho2 h=>?_) (fun s' H1 H2 hr hk=>?_) ?_ (FoldC_t hC) ?_ ?_).mono ?_
  · simp only [List.length_append,List.length_cons,List.length_nil] at ho ho2
    rcases h with h | h | h
    · exact hown _ (by omega) (by omega) h
    all_goals omega
  · simp only [List.length_append,List.length_cons,List.length_nil] at hk
    have hk1:=hk.1
    have l0:=lt_of_getH (h:=H1) (o:=H.length+2) (by rw [hr.lp];simp)
    refine ⟨⟨by have:=hr.k.1;omega,fun o ho hl=>by rw [hk.2 o (by omega) (by omega),hr.k.2 o ho hl]⟩,hk.get (by omega) hr.yb (by simp),hk.get (by omega) hr.lp (by simp),hR _ _ _ hr.r (hk.mono fun o h=>.inl (by omega)) ((hRm _ _ hr.r).keep hk (by omega))⟩
  · simp only [List.length_append,List.length_cons,List.length_nil,Nat.zero_add,Nat.reduceAdd,Nat.add_assoc]
    exact hy
  · refine ⟨Keep.append,?_,?_,hR _ _ _ hRs Keep.append ((hRm _ _ hRs).keep (own:=fun _=>False) Keep.append id)⟩
    · simp only [go_sem]
    · simp only [go_sem]
  · simp only [go_sem]
  · rintro r H' ⟨hk,hr⟩
    rw [show listsF (rangesL v) []=listsA v from rfl,foldY_t] at hr
    have fin:∀lp',Keep (fun o=>own o∨o=mo) H H'→Keep (fun o=>own o∨o=mo) H (setH H' (H.length+2) (.loop lp')):=fun lp' k=>⟨by rw [length_setH];exact k.1,fun o ho hl=>by rw [getH_setH,if_neg (fun h=>by omega),k.2 o ho hl]⟩
    rcases hr with ⟨a,b⟩ | ⟨a,b⟩
    · refine ⟨lp,b.lp,by rw [←hlp];simp,?_⟩
      rw [show lp.pending = .normal by rw [←hlp]]
      simp only [go_sem]
      exact ⟨fin _ b.k,.inl ⟨a,hR _ _ _ b.r (setK (.inl ⟨by omega,by omega⟩)) ((hRm _ _ b.r).keep (own:=fun o=>o=H.length+2) (setK rfl) (by omega))⟩⟩
    · refine ⟨_,b.lp,by simp,?_⟩
      simp only [go_sem]
      exact ⟨fin _ b.k,.inr ⟨a,hRS _ _ _ b.r (setK ⟨by omega,by omega⟩)⟩⟩
end
theorem Ftruths {wo:Nat} {oc:C} {H:List Obj} (hk:known [oc]=true) {Q:V→List Obj→Prop}:Fn tab (.f 91 [.c (.ptr wo 0),.c oc] H) Q↔Q (.c (.fn 118 false [] [.ptr H.length 0,.ptr (H.length+1) 0])) (H++[.cells [.ptr wo 0],.cells [oc]]):=by
  refine Fn_iff (Fn_X (fn:=f91) rfl rfl ?_)
  simp only [go_sem,f91,hk]
def posBody : ACode:=(.block 1 (.seq (.region 0 [] [
          ⟨none,.store none (.tmp 4) (.cst (.c (.bool true))),none,0⟩])
        .ret))
structure posR (n mo:Nat) (b:Bool) (lp:ALoop) (u:Unit) (H:List Obj):Prop where
  c:getH H n = .cells [.bool b]
  lp:getH H (n+3) = .loop lp
  m:MapOk mo H
theorem pos_yield {n mo:Nat} {own:Nat→Prop} (ho:own=fun o=>o=n∨o=n+3) (hmo:mo≠n∧mo≠n+3) {lp lpd:ALoop} {v0 v1 v2 v3 v5 v6 v7 v8 v9:V} (hlp:lp=⟨.ready,.normal,[v0,v1,v2,v3,.c (.ptr n 0),v5,v6,v7,v8,v9],[8,9],.skip,posBody⟩) (hlpd:lpd={ lp with state:=.done,pending:=.ret }) :
    TYield v (n+11) (fun _ _=>True) own (.yld (n+3)) (posR n mo false lp) (posR n mo true lpd) (fun _ _=>((),false)):=by
  intro s H t c1 so ver hlen _ hIs r1 hso hge hR
  rw [CallV_y]
  have l3:=lt_of_getH (h:=H) (o:=n+3) (by rw [hR.lp];simp)
  refine Fn_y hR.lp (by rw [hlp];rfl) ?_
  rw [show lp.assign = .skip by rw [hlp],show lp.params=[8,9] by rw [hlp],show lp.slots=_ by rw [hlp]]
  simp only [go_sem,setParams,assignX,hR.lp]
  refine ⟨lp,rfl,by rw [hlp],rfl,?_⟩
  generalize hlb:ALoop.mk .busy _ _ _ _ _=lb
  rw [show lp.body=posBody by rw [hlp]]
  have hlb2:∀l:ALoop,Obj.loop lb = .loop l→({ l with state:=.done,pending:=.ret }:ALoop)=lpd:=fun l h=>by cases h;rw [←hlb,hlpd]
  clear hlb
  have k0:n<H.length:=by omega
  have e0:=hR.c
  simp only [go_sem,posBody,bodyX,getH_setH,length_setH,l3,k0,e0]
  refine ⟨lb,rfl,?_⟩
  have hq:=hlb2 lb rfl
  rw [hq]
  have hK:Keep own H (setH (setH (setH H (n+3) (.loop lb)) n (.cells [.bool true])) (n+3) (.loop lpd)):=by
    subst ho
    refine ⟨by simp [length_setH],fun o h hl=>?_⟩
    simp only [not_or] at h
    simp only [getH_setH,h,false_and,if_false]
  refine yQ_false rfl hK ⟨?_,?_,hR.m.keep hK (by subst ho;omega)⟩
  · simp only [go_sem,getH_setH,length_setH,k0,l3]
  · simp only [go_sem,getH_setH,length_setH,k0,l3]
theorem Fpossible (hv:v.Valid) {H:List Obj} {wo mo:Nat} {oc:C} {out:List Int} (hoB:out.length<Big) (hw:getH H wo = .cells (workC g1 g2 g3 g4 v mo)) (hM:MapOk mo H) (ho:RdI H oc out) :
    Fn tab (.f 89 [.c (.ptr wo 0),.c oc] H) fun r H'=>r = .c (.bool (posB v out))∧Keep (fun o=>o=mo) H H'∧MapOk mo H':=by
  refine Fn_X (fn:=f89) rfl rfl ?_
  have lwo:=lt_of_getH (h:=H) (o:=wo) (by rw [hw];simp)
  have lmo:=lt_of_getH (h:=H) (o:=mo) (by obtain ⟨es,_,h⟩:=hM;rw [h];simp)
  have hk:=ho.kn []
  simp only [go_sem,f89,Ftruths hk]
  refine RX_range ?_
  generalize hlp:ALoop.mk .ready _ _ _ _ _=lp
  simp only [Opd.ev,getS,CallV_fn,firstV,List.length_append,List.length_cons,List.length_nil,List.append_assoc,List.cons_append,List.nil_append,List.map_cons,List.map_nil,Nat.zero_add,Nat.reduceAdd,Nat.add_assoc,Bool.false_eq_true,if_false]
  have hy:=pos_yield (v:=v) (n:=H.length) (mo:=mo) rfl ⟨by omega,by omega⟩ (lp:=lp) hlp.symm rfl
  refine (truths1_ok (n:=H.length+4) (wb:=H.length+1) (ob:=H.length+2) (oc:=oc) (out:=out) (wo:=wo) (mo:=mo) (g1:=g1) (g2:=g2) (g3:=g3) (g4:=g4) hv (by simp) hoB rfl (by omega) (by omega) (by omega) (fun o h _=>by omega) (fun s H H' hr hk hm=>⟨hk.get (by omega) hr.c (by simp),hk.get (by omega) hr.lp (by simp),hm⟩) (fun s H H' hr hk=>⟨hk.get (by omega) hr.c (by simp),hk.get (by omega) hr.lp (by simp),hr.m.keep hk (by omega)⟩) (fun s H hr=>hr.m) hy (by simp only [go_sem]) (by simp only [go_sem]) (getH_keep hw (by simp)) ?_ (s:=()) ⟨by simp only [go_sem],by simp only [go_sem],hM.keep (own:=fun _=>False) Keep.append id⟩ FoldC_true).mono ?_
  · intro H' hk'
    refine ho.agree fun o fr ver rows hg=>?_
    have:=lt_of_getH (h:=H) (o:=o) (by rw [hg];simp)
    have nm:o≠mo:=by rintro rfl;obtain ⟨es,_,h⟩:=hM;rw [h] at hg;cases hg
    rw [hk'.2 o (by omega) (by simp;omega),getH_left this]
  · rintro r H' ⟨hk',hr⟩
    have hf:(foldY (fun (_:Unit) (_:Truth)=>((),false)) () (truthsL v out)).2 = !(posB v out):=by
      unfold posB
      cases truthsL v out<;>rfl
    rw [hf] at hr
    have l3:H.length+3<H'.length:=by rcases hr with ⟨_,h⟩ | ⟨_,h⟩<;>exact lt_of_getH (by rw [h.lp];simp)
    have l0:H.length<H'.length:=by omega
    have hK:∀W X,Keep (fun o=>o=mo) H (setH (setH H' (H.length+3) W) H.length X):=fun W X=>⟨by simp only [length_setH];omega,fun o _ hl=>by rw [getH_setH,if_neg (by omega),getH_setH,if_neg (by omega),hk'.2 o (by omega) (by simp;omega),getH_left hl]⟩
    have hK2:∀W,Keep (fun o=>o=mo) H (setH H' (H.length+3) W):=fun W=>⟨by simp only [length_setH];omega,fun o _ hl=>by rw [getH_setH,if_neg (by omega),hk'.2 o (by omega) (by simp;omega),getH_left hl]⟩
    have hMM:MapOk mo H':=by rcases hr with ⟨_,h⟩ | ⟨_,h⟩<;>exact h.m
    have hM1:∀W,MapOk mo (setH H' (H.length+3) W):=fun W=>hMM.keep (own:=fun o=>o=H.length+3) (setK rfl) (by omega)
    have hM2:∀W X,MapOk mo (setH (setH H' (H.length+3) W) H.length X):=fun W X=>(hM1 W).keep (own:=fun o=>o=H.length) (setK rfl) (by omega)
    rcases hr with ⟨a,b⟩ | ⟨a,b⟩
    · have hb:posB v out=false:=by simpa using a
      refine ⟨lp,b.lp,by rw [←hlp];simp,?_⟩
      rw [show lp.pending = .normal by rw [←hlp]]
      have e0:=b.c
      simp only [go_sem,getH_setH,length_setH,l0,l3,e0,hb]
      exact ⟨hK _ _,hM2 _ _⟩
    · have hb:posB v out=true:=by simpa using a
      refine ⟨_,b.lp,by simp,?_⟩
      have e0:=b.c
      simp only [go_sem,getH_setH,length_setH,l0,l3,e0,hb]
      exact ⟨hK2 _,hM1 _⟩
theorem Fwork {H:List Obj} {Q:V→List Obj→Prop}:Fn tab (.f 42 [vatV g1 g2 g3 g4 v] H) Q↔Q (.c (.ptr (H.length+2) 0)) (H++[.cells (vatC g1 g2 g3 g4 v),mapO [],.cells (workC g1 g2 g3 g4 v (H.length+1))]):=by
  refine Fn_iff (Fn_X (fn:=f42) rfl rfl ?_)
  simp only [go_sem,f42]
def askE (v:Vat) (b:Bool):Int:=if checkVat v≠0 then checkVat v else if b=false then 2 else if posB v []=false then 11 else 0
def AskRes (g1 g2 g3 g4:Bool × Bool) (v:Vat) (b:Bool) (H:List Obj) (r:V) (H':List Obj):Prop:=
  Keep (fun _=>False) H H'∧((askE v b≠0∧r = .tup [.c .nilp,.c (.int .i64 (askE v b))])∨(askE v b=0∧∃wo mo,H.length≤wo∧H.length≤mo∧r = .tup [.c (.ptr wo 0),.c (.int .i64 0)]∧getH H' wo = .cells (workC g1 g2 g3 g4 v mo)∧MapOk mo H'))
theorem Fasked (hf:v.Fits) {b:Bool} {H:List Obj}:Fn tab (.f 49 [vatV g1 g2 g3 g4 v,.c (.bool b)] H) (AskRes g1 g2 g3 g4 v b H):=by
  refine Fn_X (fn:=f49) rfl rfl ?_
  by_cases h0:checkVat v=0
  · have hv:=valid_of h0
    cases b with
    | false=>
      simp only [go_sem,f49,cCheckVat hf,h0]
      have:askE v false=2:=by simp [askE,h0]
      exact ⟨Keep.append,.inl (by rw [this];exact ⟨by decide,rfl⟩)⟩
    | true=>
      simp only [go_sem,f49,cCheckVat hf,h0,Fwork]
      refine (Fpossible (v:=v) (g1:=g1) (g2:=g2) (g3:=g3) (g4:=g4) (wo:=H.length+3) (mo:=H.length+2) (out:=[]) hv (by decide) (by simp only [go_sem]) ⟨[],EsOk.nil,by simp only [go_sem]⟩ (.lst (true,false) [])).mono ?_
      rintro r H' ⟨rfl,hk',hM⟩
      have l1:=hk'.1
      simp only [List.length_append,List.length_cons,List.length_nil] at l1
      have hK:Keep (fun _=>False) H H':=⟨by omega,fun o _ hl=>by rw [hk'.2 o (by omega) (by simp;omega),getH_left hl]⟩
      cases hb:posB v [] with
      | false=>
        simp only [go_sem]
        have:askE v true=11:=by simp [askE,h0,hb]
        exact ⟨hK,.inl (by rw [this];exact ⟨by decide,rfl⟩)⟩
      | true=>
        simp only [go_sem]
        have:askE v true=0:=by simp [askE,h0,hb]
        exact ⟨hK,.inr (by rw [this];exact ⟨rfl,H.length+3,H.length+2,by omega,by omega,rfl,hk'.get (by omega) (by simp only [go_sem]) (by simp),hM⟩)⟩
  · simp only [go_sem,f49,cCheckVat hf,h0]
    have:askE v b=checkVat v:=by simp [askE,h0]
    exact ⟨Keep.append,.inl (by rw [this];exact ⟨h0,rfl⟩)⟩
theorem ask_ok {b:Bool} (h:askE v b=0):checkVat v=0∧b=true∧posB v []=true:=by
  unfold askE at h
  split at h
  · rename_i h';exact absurd h h'
  · rename_i h'
    split at h
    · cases h
    · split at h
      · cases h
      · rename_i a b;exact ⟨by simpa using h',by simpa using a,by simpa using b⟩
end Am.Vt
