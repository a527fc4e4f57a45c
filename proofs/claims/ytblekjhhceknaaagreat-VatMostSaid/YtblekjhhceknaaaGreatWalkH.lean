/-
  A part of the proof: the texts Y4, Y6, Y7, Y11, Y12, Y13 of this seat, joined.
-/
import Derived.Test.YtblekjhhceknaaaGreatWalkG
namespace Am.Vt
open Go Am
set_option maxRecDepth 100000
set_option maxHeartbeats 4000000
set_option linter.unusedSimpArgs false
set_option linter.unusedVariables false
variable {g1 g2 g3 g4 gt:Bool × Bool} {v:Vat} {t:Truth}
theorem ask_f (h0:checkVat v=0):askE v false=2:=by simp [askE,h0]
theorem ask_t (h0:checkVat v=0) (hp:posB v []=true):askE v true=0:=by simp [askE,h0,hp]
theorem ask_n (h0:checkVat v=0) (hp:posB v []=false):askE v true=11:=by simp [askE,h0,hp]
theorem pos_ref (hv:v.Valid):posB v []=false↔refTruths v=[]:=by
  rw [refTruths_nil hv,posB]
  cases truthsL v []<;>simp
end Am.Vt
namespace Am.Vt
open Go Am
set_option maxRecDepth 100000
set_option maxHeartbeats 4000000
set_option linter.unusedSimpArgs false
set_option linter.unusedVariables false
variable {g1 g2 g3 g4 gt g:Bool × Bool} {v:Vat} {t:Truth} {l:List Int}
theorem pk_eq (h0:checkVat v=0) (hp:posB v []=true):provesKeep v l=(keepAsk v l&&keepsB v l):=by
  rw [provesKeep]
  cases keepAsk v l with
  | true=>rw [ask_t h0 hp];rfl
  | false=>rw [ask_f h0];rfl
end Am.Vt
namespace Am.Vt
open Go Am
set_option maxRecDepth 100000
set_option maxHeartbeats 4000000
set_option linter.unusedSimpArgs false
set_option linter.unusedVariables false
variable {g1 g2 g3 g4 gt g ga gb:Bool × Bool} {v:Vat} {t:Truth} {l:List Int} {p:Prf}
theorem ps_eq (h0:checkVat v=0):provesShow v p=refShows v p:=by
  rw [provesShow,refShows,provesTruth_eq h0,provesTruth_eq h0]
  congr 2
  rw [Bool.eq_iff_iff]
  simp
  omega
end Am.Vt
namespace Am.Vt
open Go Am
set_option maxRecDepth 100000
set_option maxHeartbeats 4000000
set_option linter.unusedSimpArgs false
set_option linter.unusedVariables false
variable {g1 g2 g3 g4 gt:Bool × Bool} {v:Vat} {t:Truth}
structure Wd where
  n:Nat
  h:n<65536
instance : Inhabited Wd:=⟨⟨0,by decide⟩⟩
instance : Row Wd:=⟨1,fun s=>[.int .u16 s.n],fun _=>rfl⟩
instance : Scal Wd:=⟨fun _=>rfl⟩
@[go_sem] theorem sz_wd : Row.sz Wd=1:=rfl
@[go_sem] theorem row_wd {s:Wd}:Row.row s=[.int .u16 s.n]:=rfl
def wordN (ws:List Wd) (a:Nat):Nat:=if ws=[] then 0 else (ws.getD (a % ws.length) default).n
theorem wordN_lt {ws:List Wd} {a:Nat}:wordN ws a<65536:=by
  unfold wordN
  split
  · decide
  · exact (ws.getD (a % ws.length) default).h
theorem lword {g:Bool × Bool} {ws:List Wd} {a:Nat} (ha:a≤1000) {Q:V→Prop}:CallP tab 118 [.c (L g ws),.c (.int .i64 a)] Q↔Q (.c (.int .i64 (wordN ws a:Nat))):=CallP_of (by
  refine Val_X (fn:=f118) rfl ?_
  by_cases h:ws=[]
  · subst h
    simp only [go_sem,f118,wordN,List.length_nil]
  · have hl:=List.length_pos_iff.2 h
    have hz:¬((ws.length:Nat):Int)=0:=by omega
    obtain ⟨m,hm⟩:∃m,m=a % ws.length:=⟨_,rfl⟩
    have hml:m<ws.length:=by rw [hm];exact Nat.mod_lt _ hl
    have e1:(a:Int).tmod ((ws.length:Nat):Int)=(m:Int):=by rw [hm];rfl
    have hw:wordN ws a=(ws.getD m default).n:=by rw [wordN,if_neg h,hm]
    have hb:=(ws.getD m default).h
    have e2:IntKind.i64.wrap ((ws.getD m default).n:Int)=((ws.getD m default).n:Int):=wrapB (by omega) (by omega)
    simp only [go_sem,f118,hz,e1,hml,atI_nat,hw,e2])
def feedN (v:Vat) (ws:List Wd):Nat:=wordN ws 0 / 8 % (v.drift.length+1)
def feedK (ws:List Wd) (k:Nat):List Int:=(List.range k).map fun i=>((wordN ws (i+1) / 4 % 19:Nat):Int)-9
def feedL (v:Vat) (ws:List Wd):List Int:=feedK ws (feedN v ws)
theorem feedK_succ {ws:List Wd} {k:Nat}:feedK ws (k+1)=feedK ws k++[((wordN ws (k+1) / 4 % 19:Nat):Int)-9]:=by simp [feedK,List.range_succ]
theorem feedK_len {ws:List Wd} {k:Nat}:(feedK ws k).length=k:=by simp [feedK]
theorem feedL_le {ws:List Wd}:(feedL v ws).length≤v.drift.length:=by
  rw [feedL,feedK_len,feedN]
  have:=Nat.mod_lt (wordN ws 0 / 8) (show v.drift.length+1>0 by omega)
  omega
theorem feedL_ask {ws:List Wd}:keepAsk v (feedL v ws)=true:=by
  rw [keepAsk,Bool.and_eq_true,decide_eq_true_eq,List.all_eq_true]
  refine ⟨feedL_le,fun x hx=>?_⟩
  simp only [feedL,feedK,List.mem_map,List.mem_range] at hx
  obtain ⟨i,_,rfl⟩:=hx
  rw [inR_iff];omega
theorem lfeeding (hv:v.Valid) {g:Bool × Bool} {ws:List Wd} {Q:V→Prop}:CallP tab 61 [vatV g1 g2 g3 g4 v,.c (L g ws)] Q↔Q (.c (L (false,false) (feedL v ws))):=CallP_of (by
  refine Val_X (fn:=f61) rfl ?_
  have v1:=hv.drift
  have v4:=hv.last7
  have v0:=hv.last0
  have w1:IntKind.i64.wrap (v.last+2)=((v.drift.length+1:Nat):Int):=by rw [wrapB (by omega) (by omega)];omega
  have w2:¬((v.drift.length+1:Nat):Int)=0:=by omega
  have b0:=wordN_lt (ws:=ws) (a:=0)
  have w3:((wordN ws 0:Nat):Int).tdiv 8=((wordN ws 0 / 8:Nat):Int):=rfl
  have w4:IntKind.i64.wrap ((wordN ws 0 / 8:Nat):Int)=((wordN ws 0 / 8:Nat):Int):=wrapB (by omega) (by omega)
  have w5:((wordN ws 0 / 8:Nat):Int).tmod ((v.drift.length+1:Nat):Int)=((feedN v ws:Nat):Int):=rfl
  have hle:=feedL_le (v:=v) (ws:=ws)
  rw [feedL,feedK_len] at hle
  have k0:=fun {g:Bool × Bool} {Q:V→Prop}=>lword (g:=g) (ws:=ws) (a:=0) (by omega) (Q:=Q)
  rw [show ((0:Nat):Int)=0 from rfl] at k0
  simp only [go_sem,f61]
  refine RX_for (feedN v ws) (fun k=>[(5,.c (.sl 1 k 0 k)),(6,.c (.int .i64 k))]) (fun k=>[.cells (vatC g1 g2 g3 g4 v),.arr false k 1 ((feedK ws k).map Row.row)]) (fun _=>True) trivial (by simp only [go_sem]<;>first | rfl | exact ⟨rfl,rfl⟩) ?_
  intro k hk _
  have fl:=feedK_len (ws:=ws) (k:=k)
  by_cases hlt:k<feedN v ws
  · have hlt':(k:Int)<((feedN v ws:Nat):Int):=by omega
    have e4:IntKind.i64.wrap ((k:Int)+1)=((k+1:Nat):Int):=wrap_succ (n:=3000) (by omega) (by decide)
    have k1:=fun {g:Bool × Bool} {Q:V→Prop}=>lword (g:=g) (ws:=ws) (a:=k+1) (by omega) (Q:=Q)
    have b1:=wordN_lt (ws:=ws) (a:=k+1)
    have x3:((wordN ws (k+1):Nat):Int).tdiv 4=((wordN ws (k+1) / 4:Nat):Int):=rfl
    have x4:IntKind.i64.wrap ((wordN ws (k+1) / 4:Nat):Int)=((wordN ws (k+1) / 4:Nat):Int):=wrapB (by omega) (by omega)
    have x5:((wordN ws (k+1) / 4:Nat):Int).tmod 19=((wordN ws (k+1) / 4 % 19:Nat):Int):=rfl
    have x6:IntKind.i64.wrap (((wordN ws (k+1) / 4 % 19:Nat):Int)-9)=((wordN ws (k+1) / 4 % 19:Nat):Int)-9:=wrapB (by omega) (by omega)
    have q1:(k+1)*8≤2^40:=by omega
    simp only [go_sem,k0,w1,w2,w3,w4,w5,hlt,hlt',e4,k1,x3,x4,x5,x6,fl,q1,feedK_succ,List.map_append,disj_nil]
  · have:k=feedN v ws:=by omega
    subst this
    have hlt':¬((feedN v ws:Nat):Int)<((feedN v ws:Nat):Int):=by omega
    simp only [go_sem,k0,w1,w2,w3,w4,w5,hlt',fl,feedL,disj_nil])
end Am.Vt
namespace Am.Vt
open Go Am
set_option maxRecDepth 100000
set_option maxHeartbeats 4000000
set_option linter.unusedSimpArgs false
set_option linter.unusedVariables false
variable {g1 g2 g3 g4 gt g ga gb:Bool × Bool} {v:Vat} {t:Truth} {l:List Int} {p:Prf}
end Am.Vt
namespace Am.Vt
open Go Am
set_option maxRecDepth 100000
set_option maxHeartbeats 4000000
set_option linter.unusedSimpArgs false
set_option linter.unusedVariables false
variable {g1 g2 g3 g4 gt g ga gb:Bool × Bool} {v:Vat} {t:Truth} {l:List Int} {p:Prf}
theorem ask_take {k:Nat} (h:keepAsk v l=true):keepAsk v (l.take k)=true:=by
  simp only [keepAsk,Bool.and_eq_true,decide_eq_true_eq,List.all_eq_true] at h ⊢
  exact ⟨by rw [List.length_take];omega,fun x hx=>h.2 x (List.mem_of_mem_take hx)⟩
theorem keeps_take {k:Nat} (h:keepsB v l=true):keepsB v (l.take k)=true:=by
  simp only [keepsB,List.all_eq_true,List.mem_range] at h ⊢
  intro d hd
  rw [List.length_take] at hd
  rw [List.take_take,Nat.min_eq_left (by omega)]
  exact h d (by omega)
def goOn (a b:List Int) (n:Nat):List Int:=a++(b.drop a.length).take n
theorem goOn_succ {a b:List Int} {n:Nat} (h:a.length+n<b.length):goOn a b (n+1)=goOn a b n++[b.getD (a.length+n) default]:=by
  unfold goOn
  have hl:n<(b.drop a.length).length:=by rw [List.length_drop];omega
  rw [take_getD hl default,List.append_assoc]
  congr 3
  rw [getD_lt _ _ _ hl,getD_lt _ _ _ h,List.getElem_drop]
theorem goOn_len {a b:List Int} {n:Nat} (h:a.length+n≤b.length):(goOn a b n).length=a.length+n:=by
  unfold goOn
  rw [List.length_append,List.length_take,List.length_drop];omega
theorem FlistH {g:Bool × Bool} {a:List Int} {H:List Obj} {Q:V→List Obj→Prop} (ha:a.length≤1000):Fn tab (.f 40 [.c (L g a)] H) Q↔Q (.c (.sl H.length 0 0 a.length)) (H++[.arr false 0 1 (a.map Row.row)]):=Fn_iff (by
  have hb:a.length*8≤2^40:=by omega
  refine Fn_X (fn:=f40) rfl rfl ?_
  simp only [go_sem,f40,hb])
theorem goOn_ask {a b:List Int} {n:Nat} (h:a.length+n≤b.length) (ha:keepAsk v a=true) (hb:keepAsk v b=true):keepAsk v (goOn a b n)=true:=by
  have hl:=goOn_len h
  simp only [keepAsk,Bool.and_eq_true,decide_eq_true_eq,List.all_eq_true] at ha hb ⊢
  refine ⟨by omega,fun x hx=>?_⟩
  rcases List.mem_append.1 hx with h | h
  · exact ha.2 x h
  · exact hb.2 x (List.mem_of_mem_drop (List.mem_of_mem_take h))
theorem long_no (ha:keepAsk v l=true) (h:(reachL v).length<l.length):keepsB v l=false:=by
  cases hk:keepsB v l with
  | false=>rfl
  | true=>have:=feed_le ha hk;omega
theorem keep_truth (hv:v.Valid) (hp:posB v []=true) (ht:t∈truthsL v []) {d:Nat} (hd:d<(keepL v).length):inR (bareS t (d+1)+sumI ((keepL v).take (d+1))) (-v.band) v.band=true:=by
  have hkl:=keepL_len (v:=v)
  have hle:=reachL_len (v:=v)
  have hk:=keeps_eq hv (ts:=truthsL v []) (fun t=>Iff.rfl) hp (l:=keepL v) (by omega)
  rw [keep_keeps,keepsR,List.all_eq_true] at hk
  have:=hk d (List.mem_range.2 hd)
  rw [keptB,List.all_eq_true] at this
  exact this t ht
theorem ps_found (hv:v.Valid) (h0:checkVat v=0) (hp:posB v []=true) (h:(reachL v).length<v.drift.length):provesShow v (showP v)=true:=by
  obtain ⟨a,b,c,d,e⟩:=showP_ok hv hp h
  have t1:=(isTruth_iff hv).2 c
  have t2:=(isTruth_iff hv).2 d
  have o1:=inR_iff.2 b.o
  have o2:=inR_iff.2 b.u
  have hn:(decide ((showP v).over<0)&&decide ((showP v).under<0))=false:=by
    rw [Bool.and_eq_false_iff,decide_eq_false_iff_not,decide_eq_false_iff_not];omega
  rw [ps_eq h0,refShows,t1,t2,o1,o2,hn,a]
  rfl
theorem VatMost_val {which some_:Int} {ws:List Wd} (w0:0≤which) (w1:which≤65535) (s0:0≤some_) (s1:some_≤255):Val tab 11 [vatV g1 g2 g3 g4 v,.c (.int .u16 which),.c (L g ws),.c (.int .u8 some_)] (.c (.bool true)):=by
  obtain ⟨wn,rfl⟩:∃n:Nat,which=n:=⟨which.toNat,by omega⟩
  obtain ⟨sn,rfl⟩:∃n:Nat,some_=n:=⟨some_.toNat,by omega⟩
  refine Val_X (fn:=f11) rfl ?_
  cases hr:readyB v with
  | false=>simp only [go_sem,f11,lready,hr,lawake]
  | true=>
    obtain ⟨hs,hv,h0,h150⟩:=ready_of hr
    have hf:=hs.fits
    have kV:=fun {Q:V→Prop}=>lVat (g1:=g1) (g2:=g2) (g3:=g3) (g4:=g4) hs (Q:=Q)
    have k1:=fun {g1 g2 g3 g4:Bool × Bool} {Q:V→Prop}=>cKeep (g1:=g1) (g2:=g2) (g3:=g3) (g4:=g4) hf (Q:=Q)
    have k2:=fun {g1 g2 g3 g4:Bool × Bool} {Q:V→Prop}=>cShow (g1:=g1) (g2:=g2) (g3:=g3) (g4:=g4) hf (Q:=Q)
    have k3:=fun {g1 g2 g3 g4:Bool × Bool} {Q:V→Prop}=>rTruths (g1:=g1) (g2:=g2) (g3:=g3) (g4:=g4) hv (Q:=Q)
    simp only [vatV] at kV k1 k2 k3
    cases hp:posB v [] with
    | false=>
      have hz:(((refTruths v).length:Nat):Int)=0:=by rw [(pos_ref hv).1 hp];rfl
      have hR1:KeepR v = .tup [.c .nils,.c (.int .i64 11)]:=by rw [KeepR,ask_n h0 hp,if_neg (by decide)]
      have hR2:ShowR v = .tup [proofG (true,false) (true,false) ⟨0,0,T0,T0⟩,.c (.int .i64 11)]:=by rw [ShowR,ask_n h0 hp,if_neg (by decide)]
      rw [hR1] at k1
      rw [hR2] at k2
      simp only [go_sem,f11,lready,hr,kV,k1,k2,k3,hz,lawake,disj_nil]
    | true=>
      have hne:refTruths v≠[]:=fun h=>by have:=(pos_ref hv).2 h;rw [hp] at this;cases this
      have v1:=hv.drift
      have v4:=hv.last7
      have v0:=hv.last0
      have bb:=hv.band
      have hl0:=List.length_pos_iff.2 hne
      have hl1:=refTruths_len hv
      have hz:¬(((refTruths v).length:Nat):Int)=0:=by omega
      have e1:IntKind.i64.wrap (v.last+1)=((v.drift.length:Nat):Int):=by rw [wrapB (by omega) (by omega)];omega
      have e5:IntKind.i64.wrap (wn:Int)=(wn:Int):=wrapB (by omega) (by omega)
      have e6:IntKind.i64.wrap (sn:Int)=(sn:Int):=wrapB (by omega) (by omega)
      obtain ⟨a,ha⟩:∃m,m=wn % (refTruths v).length:=⟨_,rfl⟩
      have al:a<(refTruths v).length:=by rw [ha];exact Nat.mod_lt _ hl0
      have e11:(wn:Int).tmod (((refTruths v).length:Nat):Int)=(a:Int):=by rw [ha];rfl
      obtain ⟨t,ht⟩:∃t,t=(refTruths v).getD a default:=⟨_,rfl⟩
      have tm:t∈truthsL v []:=(mem_refTruths hv).1 (by rw [ht];exact getD_mem al)
      have hT:=truths_isT hv _ tm
      have hkl:=keepL_len (v:=v)
      have hle:=reachL_len (v:=v)
      have hka:=keep_ask (v:=v)
      have hkk:=keep_keeps (v:=v)
      have kT:=fun d hd=>keep_truth hv hp tm (d:=d) hd
      have hR1:KeepR v = .tup [.c (L (false,false) (keepL v)),.c (.int .i64 0)]:=by rw [KeepR,if_pos (ask_t h0 hp)]
      rw [hR1] at k1
      obtain ⟨m,hm⟩:∃m,m=sn % ((keepL v).length+1):=⟨_,rfl⟩
      have ml:m<(keepL v).length+1:=by rw [hm];exact Nat.mod_lt _ (by omega)
      have e12:IntKind.i64.wrap (((keepL v).length:Int)+1)=(((keepL v).length+1:Nat):Int):=by rw [wrapB (by omega) (by omega)];omega
      have e13:(sn:Int).tmod (((keepL v).length+1:Nat):Int)=(m:Int):=by rw [hm];rfl
      have e14:¬(((keepL v).length+1:Nat):Int)=0:=by omega
      have m0:(0:Int)≤(m:Int):=by omega
      have m1:m≤(keepL v).length:=by omega
      have hL:L (false,false) (keepL v) = .lst false ((keepL v).map Row.row):=rfl
      have hpt:takeN m ((keepL v).map (Row.row (α:=Int)))=some (((keepL v).take m).map Row.row):=by
        rw [takeN_take (by rw [List.length_map];omega),List.map_take]
      have hL':C.lst false (((keepL v).take m).map (Row.row (α:=Int)))=L (false,false) ((keepL v).take m):=rfl
      have hh:headLen 1 ((keepL v).map (Row.row (α:=Int)))=true:=headLen_map (sz:=1) rfl
      have kl1:=fun {g:Bool × Bool} {Q:V→Prop}=>llist (g:=g) (a:=keepL v) (by omega) (Q:=Q)
      have kl2:=fun {g:Bool × Bool} {Q:V→Prop}=>llist (g:=g) (a:=(keepL v).take m) (by rw [List.length_take];omega) (Q:=Q)
      have kp1:=fun {g1 g2 g3 g4 g:Bool × Bool} {Q:V→Prop}=>cProveKeep (g1:=g1) (g2:=g2) (g3:=g3) (g4:=g4) (gt:=g) (l:=keepL v) hf (big_of (by omega)) (Q:=Q)
      have kp2:=fun {g1 g2 g3 g4 g:Bool × Bool} {Q:V→Prop}=>cProveKeep (g1:=g1) (g2:=g2) (g3:=g3) (g4:=g4) (gt:=g) (l:=(keepL v).take m) hf (big_of (by rw [List.length_take];omega)) (Q:=Q)
      rw [pk_eq h0 hp,hka,hkk] at kp1
      rw [pk_eq h0 hp,ask_take hka,keeps_take hkk] at kp2
      simp only [vatV] at kp1 kp2
      have c1:¬((keepL v).length:Int)>(v.drift.length:Nat):=by omega
      obtain ⟨PC,hPC⟩:∃PC:List C,PC=if (reachL v).length=v.drift.length then proofC (true,false) (true,false) ⟨0,0,T0,T0⟩ else proofC (false,false) (false,false) (showP v):=⟨_,rfl⟩
      obtain ⟨ef,hef⟩:∃ef:Int,ef=if (reachL v).length=v.drift.length then 7 else 0:=⟨_,rfl⟩
      have hR2:ShowR v = .tup [.agg PC,.c (.int .i64 ef)]:=by
        rw [ShowR,if_pos (ask_t h0 hp),hPC,hef]
        split<;>rfl
      have pl:PC.length=8:=by rw [hPC];split<;>rfl
      have pk:known PC=true:=by rw [hPC];split<;>simp only [go_sem]
      rw [hR2] at k2
      have hsp:=splice_eq (xs:=PC) (l:=[.int .i64 0,.int .i64 0,.int .i64 0,.int .i64 0,.nils,.int .i64 0,.int .i64 0,.nils]) pl
      simp only [go_sem,f11,lready,hr,kV,k1,k2,k3,hz,e1,e5,e6,e11,e12,e13,e14,al,atI_nat,←ht,m0,m1,hpt,hh,kl1,kl2,kp1,kp2,c1,pl,pk,hsp,disj_nil,List.length_map]
      refine RX_forC (keepL v).length (fun k=>[(15,.c (.int .i64 (sumI ((keepL v).take k)))),(16,.c (.int .i64 k))]) (fun _=>True) rfl trivial (by simp only [go_sem]<;>first | rfl | exact ⟨rfl,rfl⟩) ?_
      intro k hk _
      by_cases hlt:k<(keepL v).length
      · have e4:IntKind.i64.wrap ((k:Int)+1)=((k+1:Nat):Int):=wrap_succ (n:=3000) (by omega) (by decide)
        have hkb:=hka
        simp only [keepAsk,Bool.and_eq_true,decide_eq_true_eq,List.all_eq_true] at hkb
        have x9:=hkb.2 _ (getD_mem (d:=default) hlt)
        have hst:sumI ((keepL v).take (k+1))=sumI ((keepL v).take k)+(keepL v).getD k default:=by rw [take_getD hlt default,sumI_snoc]
        have hb1:=sumI_bd (M:=9) (l:=(keepL v).take (k+1)) fun x hx=>by have:=hkb.2 x (List.mem_of_mem_take hx);rw [inR_iff] at this;omega
        have hlen:((keepL v).take (k+1)).length≤8:=by rw [List.length_take];omega
        have x1:IntKind.i64.wrap (sumI ((keepL v).take k)+(keepL v).getD k default)=sumI ((keepL v).take (k+1)):=by rw [←hst];exact wrapB (by omega) (by omega)
        have kB:=fun {g:Bool × Bool} {Q:V→Prop}=>rBare (gt:=g) hv hT (d:=k) (by omega) (Q:=Q)
        simp only [truthG] at kB
        have hb:bareI t k=bareS t (k+1):=by rw [bareI,if_neg (by omega)];rfl
        rw [hb] at kB
        have b1:=bareS_bd hv hT (k:=k+1) (by omega)
        have x2:IntKind.i64.wrap (bareS t (k+1)+sumI ((keepL v).take (k+1)))=bareS t (k+1)+sumI ((keepL v).take (k+1)):=wrapB (by omega) (by omega)
        have x3:IntKind.i64.wrap (0-v.band) = -v.band:=by rw [wrapB (by omega) (by omega)];omega
        have x4:=kT k hlt
        simp only [go_sem,hlt,atI_nat,x1,x2,x3,x4,x9,rIn,kB,e4,disj_nil]
      · have:k=(keepL v).length:=by omega
        subst this
        rw [List.take_length]
        have kF:=fun {g1 g2 g3 g4 g:Bool × Bool} {Q:V→Prop}=>lfeeding (g1:=g1) (g2:=g2) (g3:=g3) (g4:=g4) (g:=g) (ws:=ws) hv (Q:=Q)
        simp only [vatV] at kF
        have hun:∀b,C.underL b PC=true:=fun b=>by rw [hPC];split<;>simp only [go_sem]
        have fle:=feedL_le (v:=v) (ws:=ws)
        have fa:=feedL_ask (v:=v) (ws:=ws)
        have kl4:=fun {g:Bool × Bool} {H:List Obj} {Q:V→List Obj→Prop}=>FlistH (g:=g) (a:=keepL v) (H:=H) (Q:=Q) (by omega)
        have kl5:=fun {g:Bool × Bool} {Q:V→Prop}=>llist (g:=g) (a:=feedL v ws) (by omega) (Q:=Q)
        have kp3:=fun {g1 g2 g3 g4 g:Bool × Bool} {Q:V→Prop}=>cProveKeep (g1:=g1) (g2:=g2) (g3:=g3) (g4:=g4) (gt:=g) (l:=feedL v ws) hf (big_of (by omega)) (Q:=Q)
        simp only [vatV] at kp3
        simp only [go_sem,hlt,kF,kl4]
        have hkr:(keepL v).length=(reachL v).length:=hkl
        generalize keepL v=kp at *
        generalize feedL v ws=fe at *
        have n1:∀n,kp.length+n≤fe.length→0<n→provesKeep v (goOn kp fe n)=false:=fun n hn h0'=>by
          have gl:=goOn_len hn
          rw [pk_eq h0 hp,long_no (goOn_ask hn hka fa) (by omega),Bool.and_false]
        have n2:kp.length<fe.length→provesKeep v fe=false:=fun h=>by
          rw [pk_eq h0 hp,long_no fa (by omega),Bool.and_false]
        have g0:goOn kp fe 0=kp:=by simp [goOn]
        refine RX_whileU (α:=Nat × List Obj) (fun x=>[(18,.c (.sl 3 x.1 0 (kp.length+x.1)))]) (fun x=>.cells (vatC g1 g2 g3 g4 v) :: .cells PC :: .cells [.int .i64 t.start,.int .i64 t.blue,L (false,false) t.drift] :: .arr false x.1 1 ((goOn kp fe x.1).map Row.row)::x.2) (fun x=>x.1=0∨kp.length+x.1≤fe.length) (fun x=>fe.length-(kp.length+x.1)) (0,[]) (.inl rfl) (by simp only [go_sem,hun,g0]<;>exact 1) ?_
        rintro ⟨n,X⟩ hn
        have hn:n=0∨kp.length+n≤fe.length:=hn
        have gl:(goOn kp fe n).length=kp.length+n:=by
          rcases hn with rfl | hn
          · rw [g0];rfl
          · exact goOn_len hn
        by_cases hc:kp.length+n<fe.length
        · have c2:((kp.length+n:Nat):Int)<((v.drift.length:Nat):Int):=by omega
          have c3:((kp.length+n:Nat):Int)<((fe.length:Nat):Int):=by omega
          have c4:(0:Int)≤((kp.length+n:Nat):Int):=by omega
          have gs:=goOn_succ (n:=n) hc
          have b1:(kp.length+(n+1))*8≤2^40:=by omega
          have b2:kp.length+(n+1)≤fe.length:=by omega
          have b3:fe.length-(kp.length+(n+1))<fe.length-(kp.length+n):=by omega
          have gm:(goOn kp fe n).map (Row.row (α:=Int))++[[.int .i64 (fe.getD (kp.length+n) default)]]=(goOn kp fe (n+1)).map Row.row:=by rw [gs,List.map_append];rfl
          simp (maxSteps:=1000000) only [go_sem,e1,c2,c3,c4,hc,atI_nat,gl,b1,b2,gm,hun]
          exact ⟨(n+1,X++[.arr false 0 1 [[.int .i64 (fe.getD (kp.length+n) default)]],.none]),⟨b3,.inr b2⟩,rfl,rfl,rfl⟩
        · have c3:¬((kp.length+n:Nat):Int)<((fe.length:Nat):Int):=by omega
          have T:takeN (kp.length+n) ((goOn kp fe n).map (Row.row (α:=Int)))=some ((goOn kp fe n).map Row.row):=by rw [←gl,takeN_L (Nat.le_refl _),List.take_length]
          have kp4:=fun {g1 g2 g3 g4 g:Bool × Bool} {Q:V→Prop}=>cProveKeep (g1:=g1) (g2:=g2) (g3:=g3) (g4:=g4) (gt:=g) (l:=goOn kp fe n) hf (big_of (by omega)) (Q:=Q)
          simp only [vatV] at kp4
          by_cases hfe:kp.length<fe.length
          · have hn':kp.length+n≤fe.length:=by omega
            rw [n1 n hn' (by omega)] at kp4
            rw [n2 hfe] at kp3
            have c5:((fe.length:Nat):Int)>((kp.length:Nat):Int):=by omega
            have c6:((kp.length+n:Nat):Int)>((kp.length:Nat):Int):=by omega
            by_cases hre:(reachL v).length=v.drift.length
            · rw [if_pos hre] at hef
              subst hef
              have c7:((kp.length:Nat):Int)=((v.drift.length:Nat):Int):=by omega
              simp (maxSteps:=1000000) only [go_sem,e1,c3,gl,hun,T,c5,c6,kV,kl5,kp3,kp4,c7,lawake]
            · rw [if_neg hre] at hef hPC
              subst hef
              subst hPC
              obtain ⟨z1,z2,z3,z4,z5⟩:=showP_ok hv hp (by omega)
              have kS:=fun {g1 g2 g3 g4:Bool × Bool} {Q:V→Prop}=>cProveShow (g1:=g1) (g2:=g2) (g3:=g3) (g4:=g4) (ga:=(false,false)) (gb:=(false,false)) hf (p:=showP v) (Q:=Q)
              rw [ps_found hv h0 hp (by omega)] at kS
              simp only [vatV,proofG] at kS
              rw [←hkr] at z5
              have c7:((kp.length:Nat):Int)≤v.last:=by omega
              simp (maxSteps:=1000000) only [go_sem,e1,c3,gl,hun,T,c5,c6,kV,kl5,kp3,kp4,kS,z5,c7,lawake]
          · have hn0:n=0:=by omega
            subst hn0
            have c5:¬((fe.length:Nat):Int)>((kp.length:Nat):Int):=by omega
            have c6:¬((kp.length+0:Nat):Int)>((kp.length:Nat):Int):=by omega
            by_cases hre:(reachL v).length=v.drift.length
            · rw [if_pos hre] at hef
              subst hef
              have c7:((kp.length:Nat):Int)=((v.drift.length:Nat):Int):=by omega
              have c10:¬v.drift.length<fe.length:=by omega
              simp (maxSteps:=1000000) only [go_sem,e1,c3,gl,hun,T,c5,c6,kV,kl5,kp3,kp4,c7,c10,Nat.lt_irrefl,lawake]
            · rw [if_neg hre] at hef hPC
              subst hef
              subst hPC
              obtain ⟨z1,z2,z3,z4,z5⟩:=showP_ok hv hp (by omega)
              have kS:=fun {g1 g2 g3 g4:Bool × Bool} {Q:V→Prop}=>cProveShow (g1:=g1) (g2:=g2) (g3:=g3) (g4:=g4) (ga:=(false,false)) (gb:=(false,false)) hf (p:=showP v) (Q:=Q)
              rw [ps_found hv h0 hp (by omega)] at kS
              simp only [vatV,proofG] at kS
              rw [←hkr] at z5
              have c7:((kp.length:Nat):Int)≤v.last:=by omega
              simp (maxSteps:=1000000) only [go_sem,e1,c3,gl,hun,T,c5,c6,kV,kl5,kp3,kp4,kS,z5,c7,Nat.lt_irrefl,lawake]
end Am.Vt
