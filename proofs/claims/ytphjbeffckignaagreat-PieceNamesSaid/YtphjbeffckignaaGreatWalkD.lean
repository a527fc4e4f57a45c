/-
  A part of the proof: the texts P1, P2, P3, P4, PA, P5, P6 of this seat, joined.
-/
import Derived.Test.YtphjbeffckignaaGreatAmK
import Derived.Test.YtphjbeffckignaaGreatWalkC
namespace Am.Vt
open Go Am
set_option maxRecDepth 100000
set_option maxHeartbeats 4000000
set_option linter.unusedSimpArgs false
set_option linter.unusedVariables false
structure Job where
  vat:Vat
  day:Int
  pieces:List Rg
  eye:Int
  old:Rg
  deriving Inhabited,DecidableEq
structure Stp where
  piece:Int
  dips:Int
  deriving Inhabited,DecidableEq
instance : Row Stp:=⟨2,fun s=>[.int .i64 s.piece,.int .i64 s.dips],fun _=>rfl⟩
@[go_sem] theorem sz_stp : Row.sz Stp=2:=rfl
@[go_sem] theorem row_stp {s:Stp}:Row.row s=[.int .i64 s.piece,.int .i64 s.dips]:=rfl
instance : Scal Stp:=⟨fun _=>rfl⟩
def elemStp : Elem Stp 2 (some 2):=⟨fun _ s=>.agg [.int .i64 s.piece,.int .i64 s.dips],rfl,fun _ _ _=>rfl,fun _ _=>rfl⟩
structure Sh where
  l:List Int
  h:l.length=20
  deriving DecidableEq
instance : Inhabited Sh:=⟨⟨List.replicate 20 0,by simp⟩⟩
instance : Row Sh:=⟨20,fun s=>s.l.map fun x=>.int .i64 x,fun s=>by rw [List.length_map,s.h]⟩
@[go_sem] theorem sz_sh : Row.sz Sh=20:=rfl
theorem row_sh {s:Sh}:Row.row s=s.l.map fun x=>.int .i64 x:=rfl
theorem scal_ints : ∀{l:List Int},scalRow (l.map fun x=>D.int .i64 x)=true
  | []=>rfl
  | _::l=>scal_ints (l:=l)
instance : Scal Sh:=⟨fun _=>scal_ints⟩
theorem ofD_ints {t:Bool}:∀{l:List Int},(l.map fun x=>D.int .i64 x).map (C.ofD t)=l.map intC
  | []=>rfl
  | a::l=>by simp only [List.map_cons,ofD_ints (l:=l)];rfl
def elemSh : Elem Sh 20 (some 20):=⟨fun _ s=>.agg (s.l.map intC),rfl,fun h s t=>by
  have h1:(Row.row s:List D).length=20:=by rw [row_sh,List.length_map,s.h]
  have h2:part 0 20 (Row.row s:List D)=some (Row.row s):=by
    have:=takeN_whole (Row.row s:List D)
    rw [h1] at this;exact this
  show (part 0 20 (Row.row s)).map _=some (s.l.map intC)
  rw [h2,Option.map_some,row_sh,ofD_ints],fun s t=>by
  show (if (s.l.map intC).length=20 then some (V.agg (s.l.map intC)) else none)=_
  rw [if_pos (by rw [List.length_map,s.h])]⟩
variable {g1 g2 g3 g4 g5 g:Bool × Bool} {j:Job} {v:Vat} {plan:List Stp}
abbrev jobC (g1 g2 g3 g4 g5:Bool × Bool) (j:Job):List C:=[.int .i64 j.vat.last,.int .i64 j.vat.band,.int .i64 j.vat.start.lo,.int .i64 j.vat.start.hi,.int .i64 j.vat.blue.lo,.int .i64 j.vat.blue.hi,.int .i64 j.vat.gain,.int .i64 j.vat.take,L g1 j.vat.drift,L g2 j.vat.feeds,L g3 j.vat.dips,L g4 j.vat.looks,.int .i64 j.day,L g5 j.pieces,.int .i64 j.eye,.int .i64 j.old.lo,.int .i64 j.old.hi]
abbrev jobV (g1 g2 g3 g4 g5:Bool × Bool) (j:Job):V:=.agg [.int .i64 j.vat.last,.int .i64 j.vat.band,.int .i64 j.vat.start.lo,.int .i64 j.vat.start.hi,.int .i64 j.vat.blue.lo,.int .i64 j.vat.blue.hi,.int .i64 j.vat.gain,.int .i64 j.vat.take,L g1 j.vat.drift,L g2 j.vat.feeds,L g3 j.vat.dips,L g4 j.vat.looks,.int .i64 j.day,L g5 j.pieces,.int .i64 j.eye,.int .i64 j.old.lo,.int .i64 j.old.hi]
theorem pwithin {n low high:Int} {Q:V→Prop}:CallP tab 69 [.c (.int .i64 n),.c (.int .i64 low),.c (.int .i64 high)] Q↔Q (.c (.bool (inR n low high))):=CallP_of (by
  refine Val_X (fn:=f69) rfl ?_
  simp only [go_sem,f69,ge_iff_le]
  constructor<;>intro h<;>simp [h,inR])
theorem phas {lo hi n:Int} {Q:V→Prop}:CallP tab 127 [.agg [.int .i64 lo,.int .i64 hi],.c (.int .i64 n)] Q↔Q (.c (.bool (inR n lo hi))):=CallP_of (by
  refine Val_X (fn:=f127) rfl ?_
  simp only [go_sem,f127,pwithin])
def shadeR (r:Rg):Bool:=rgOf r.lo r.hi 0 9999
theorem pshade {lo hi:Int} {Q:V→Prop}:CallP tab 71 [.agg [.int .i64 lo,.int .i64 hi]] Q↔Q (.c (.bool (rgOf lo hi 0 9999))):=CallP_of (by
  refine Val_X (fn:=f71) rfl ?_
  simp only [go_sem,f71]
  refine ⟨fun h=>⟨fun h'=>?_,fun h'=>?_⟩,fun h=>?_⟩<;>simp [rgOf, *])
theorem pshadeF {lo hi:Int} {H:List Obj}:Fn tab (.f 71 [.agg [.int .i64 lo,.int .i64 hi]] H) fun r H'=>r = .c (.bool (rgOf lo hi 0 9999))∧Keep K0 H H':=by
  refine Fn_X (fn:=f71) rfl rfl ?_
  simp only [go_sem,f71]
  refine ⟨fun h=>⟨fun h'=>⟨?_,Keep.append⟩,fun h'=>⟨?_,Keep.append⟩⟩,fun h=>⟨?_,Keep.append⟩⟩<;>simp [rgOf, *]
theorem pshades {l:List Rg} (hl:l.length<Big) {c:C} {H:List Obj} (hr:Rd 2 H c l):Fn tab (.f 70 [.c c,.c (.fn 71 false [] [])] H) fun r H'=>r = .c (.bool (l.all shadeR))∧Keep K0 H H':=by
  refine All_rdS elemRg (fun _ z=>⟨_,rfl,rfl,rfl⟩) (kN:=123) (kC:=122) (kI:=161) rfl rfl rfl rfl hl hr shadeR ?_
  intro z hz t H' hk
  rw [CallV_fn]
  exact pshadeF
theorem pisPiece {n:Int} (h4:j.pieces.length≤1000) {Q:V→Prop}:CallP tab 76 [jobV g1 g2 g3 g4 g5 j,.c (.int .i64 n)] Q↔Q (.c (.bool (inR n 0 ((j.pieces.length:Int)-1)))):=CallP_of (by
  refine Val_X (fn:=f76) rfl ?_
  have e:IntKind.i64.wrap ((j.pieces.length:Int)-1)=(j.pieces.length:Int)-1:=wrapB (by omega) (by omega)
  simp only [go_sem,f76,pwithin,e])
def pieceOk (j:Job) (n:Int):Bool:=inR n 0 ((j.pieces.length:Int)-1)
theorem pisPieceF {n:Int} (h4:j.pieces.length≤1000) {H:List Obj}:Fn tab (.f 76 [jobV g1 g2 g3 g4 g5 j,.c (.int .i64 n)] H) fun r H'=>r = .c (.bool (pieceOk j n))∧Keep K0 H H':=by
  refine Fn_X (fn:=f76) rfl rfl ?_
  have e:IntKind.i64.wrap ((j.pieces.length:Int)-1)=(j.pieces.length:Int)-1:=wrapB (by omega) (by omega)
  simp only [go_sem,f76,pwithin,e]
  exact ⟨rfl,Keep.append⟩
def stepOk (j:Job) (s:Stp):Bool:=pieceOk j s.piece&&inR s.dips 0 20
theorem pisStepF {a b:Int} (h4:j.pieces.length≤1000) {H:List Obj}:Fn tab (.f 109 [jobV g1 g2 g3 g4 g5 j,.agg [.int .i64 a,.int .i64 b]] H) fun r H'=>r = .c (.bool (stepOk j ⟨a,b⟩))∧Keep K0 H H':=by
  refine Fn_X (fn:=f109) rfl rfl ?_
  cases hp:inR a 0 ((j.pieces.length:Int)-1) with
  | true=>
    simp only [go_sem,f109,pisPiece h4,hp,pwithin]
    exact ⟨by simp [stepOk,pieceOk,hp],Keep.append⟩
  | false=>
    simp only [go_sem,f109,pisPiece h4,hp]
    exact ⟨by simp [stepOk,pieceOk,hp],Keep.append⟩
theorem psteps {l:List Stp} (hl:l.length<Big) (h4:j.pieces.length≤1000) {c:C} {H:List Obj} (hr:Rd 2 H c l):Fn tab (.f 110 [.c c,.c (.fn 109 true (jobC g1 g2 g3 g4 g5 j) [])] H) fun r H'=>r = .c (.bool (l.all (stepOk j)))∧Keep K0 H H':=by
  refine All_rdS elemStp (fun _ z=>⟨_,rfl,rfl,rfl⟩) (kN:=158) (kC:=111) (kI:=129) rfl rfl rfl rfl hl hr (stepOk j) ?_
  intro z hz t H' hk
  rw [CallV_fn]
  exact pisStepF h4
theorem ppieces {l:List Int} (hl:l.length<Big) (h4:j.pieces.length≤1000) {c:C} {H:List Obj} (hr:Rd 1 H c l):Fn tab (.f 132 [.c c,.c (.fn 76 true (jobC g1 g2 g3 g4 g5 j) [])] H) fun r H'=>r = .c (.bool (l.all (pieceOk j)))∧Keep K0 H H':=by
  refine All_rd elemInt (fun _ z=>⟨_,rfl⟩) (kN:=168) (kC:=167) (kI:=188) rfl rfl rfl rfl hl hr (pieceOk j) ?_
  intro z hz t H' hk
  rw [CallV_fn]
  exact pisPieceF h4
def checkJob (j:Job):Int:=
  if (j.pieces.length:Int)>4 then 3 else if askE j.vat true≠0 then askE j.vat true else
    if (inR j.day 0 j.vat.last&&(j.pieces.all shadeR&&(inR j.eye 0 9999&&shadeR j.old)))=true then 0 else 1
structure Job.Fits (j:Job):Prop where
  vat:j.vat.Fits
  pieces:j.pieces.length≤1000
theorem pCheckJob (hf:j.Fits) {Q:V→Prop}:CallP tab 22 [jobV g1 g2 g3 g4 g5 j] Q↔Q (.c (.int .i64 (checkJob j))):=CallP_of (by
  refine Val_X (fn:=f22) rfl ?_
  have k1:=fun {g1 g2 g3 g4:Bool × Bool} {Q:V→Prop}=>cBounds (v:=j.vat) (g1:=g1) (g2:=g2) (g3:=g3) (g4:=g4) hf.vat (Q:=Q)
  simp only [vatV] at k1
  by_cases h1:(j.pieces.length:Int)>4
  · simp only [go_sem,f22,h1,checkJob]
  · by_cases h2:askE j.vat true=0
    · have hR:BoundsR j.vat = .tup [.c (L (false,false) (boundsL j.vat)),.c (.int .i64 0)]:=if_pos h2
      rw [hR] at k1
      generalize boundsL j.vat=bl at k1
      cases h3:inR j.day 0 j.vat.last with
      | false=>
        simp only [go_sem,f22,h1,h2,h3,k1,pwithin,checkJob]
      | true=>
        have hrd:∀H,Rd 2 H (L g5 j.pieces) j.pieces:=fun H=>.lst g5 _ rfl
        have big:j.pieces.length<Big:=big_of hf.pieces
        simp only [go_sem,f22,h1,h2,h3,k1,pwithin]
        refine (pshades big (hrd _)).mono ?_
        rintro r H' ⟨rfl,hk⟩
        have h0:getH H' 0 = .cells (jobC g1 g2 g3 g4 g5 j):=hk.get id rfl (by simp)
        cases h4:j.pieces.all shadeR with
        | false=>
          simp only [go_sem,h1,h2,h3,h4,pwithin,checkJob]
        | true=>
          cases h5:inR j.eye 0 9999 with
          | false=>
            simp only [go_sem,h0,h1,h2,h3,h4,h5,pwithin,checkJob]
          | true=>
            cases h6:rgOf j.old.lo j.old.hi 0 9999 with
            | false=>
              simp only [go_sem,h0,h1,h2,h3,h4,h5,h6,pwithin,pshade,checkJob,shadeR]
            | true=>
              simp only [go_sem,h0,h1,h2,h3,h4,h5,h6,pwithin,pshade,checkJob,shadeR]
    · have hR:BoundsR j.vat = .tup [.c .nils,.c (.int .i64 (askE j.vat true))]:=if_neg h2
      rw [hR] at k1
      simp only [go_sem,f22,h1,h2,k1,checkJob])
structure Job.Valid (j:Job):Prop where
  vat:j.vat.Valid
  check:checkVat j.vat=0
  pos:posB j.vat []=true
  pieces4:j.pieces.length≤4
  day:0≤j.day∧j.day≤j.vat.last
  eye:0≤j.eye∧j.eye≤9999
  old:0≤j.old.lo∧j.old.lo≤j.old.hi∧j.old.hi≤9999
  pcs:∀r∈j.pieces,0≤r.lo∧r.lo≤r.hi∧r.hi≤9999
theorem jvalid_of (h:checkJob j=0):j.Valid:=by
  unfold checkJob at h
  split at h
  · cases h
  · rename_i h1
    split at h
    · rename_i h2;exact absurd h h2
    · rename_i h2
      have h2:=Decidable.not_not.1 h2
      split at h
      · rename_i h3
        simp only [Bool.and_eq_true,inR_iff,List.all_eq_true,shadeR,rgOf,decide_eq_true_eq] at h3
        obtain ⟨a,b,c⟩:=ask_ok h2
        exact ⟨valid_of a,a,c,by omega,h3.1,h3.2.2.1,h3.2.2.2,fun r hr=>h3.2.1 r hr⟩
      · cases h
theorem Job.Valid.fits (h:j.Valid):j.Fits:=⟨h.vat.fits,by have:=h.pieces4;omega⟩
end Am.Vt
namespace Am.Vt
open Go Am
set_option maxRecDepth 100000
set_option maxHeartbeats 4000000
set_option linter.unusedSimpArgs false
set_option linter.unusedVariables false
variable {g1 g2 g3 g4 g5 g gt:Bool × Bool} {j:Job} {v:Vat} {plan:List Stp} {t:Truth} {s:Sh}
theorem splice_eq {xs l:List C} (h:xs.length=l.length):splice 0 xs l=some xs:=by
  induction xs generalizing l with
  | nil=>cases l<;>simp at h;rfl
  | cons x xs ih=>cases l with
    | nil=>simp at h
    | cons y l=>simp only [splice];rw [ih (by simpa using h)];rfl
theorem takeN20 {l:List Int} (h:l.length=20):takeN 20 (l.map intC)=some (l.map intC):=by
  have:=takeN_whole (l.map intC)
  rwa [List.length_map,h] at this
abbrev shC (s:Sh):List C:=s.l.map intC
abbrev shV (s:Sh):V:=.agg (s.l.map intC)
def shadesT (j:Job) (t:Truth):Sh:=⟨shadesL j.vat (stAt j.vat t (j.day.toNat+1)) 20,shadesL_len⟩
def dipOk (j:Job) (t:Truth):Bool:=decide (checkVat j.vat=0)&&(listedB j.vat t&&(inR j.day 0 j.vat.last&&inR 20 0 20))
def dipS (j:Job) (t:Truth):Sh:=if dipOk j t=true then shadesT j t else default
theorem pdip (hf:j.Fits) {Q:V→Prop}:CallP tab 62 [jobV g1 g2 g3 g4 g5 j,truthG gt t] Q↔Q (.tup [shV (dipS j t),.c (.bool (dipOk j t))]):=CallP_of (by
  refine Val_X (fn:=f62) rfl ?_
  have k1:=fun {g1 g2 g3 g4 gt:Bool × Bool} {Q:V→Prop}=>cShades (v:=j.vat) (t:=t) (day:=j.day) (many:=20) (g1:=g1) (g2:=g2) (g3:=g3) (g4:=g4) (gt:=gt) hf.vat (Q:=Q)
  simp only [vatV,truthG] at k1
  have hz:([.int .i64 0,.int .i64 0,.int .i64 0,.int .i64 0,.int .i64 0,.int .i64 0,.int .i64 0,.int .i64 0,.int .i64 0,.int .i64 0,.int .i64 0,.int .i64 0,.int .i64 0,.int .i64 0,.int .i64 0,.int .i64 0,.int .i64 0,.int .i64 0,.int .i64 0,.int .i64 0]:List C)=(default:Sh).l.map intC:=rfl
  by_cases h0:checkVat j.vat=0
  · cases hl:(listedB j.vat t&&(inR j.day 0 j.vat.last&&inR 20 0 20)) with
    | false=>
      have hR:ShadesR j.vat t j.day 20 = .tup [.c .nils,.c (.int .i64 2)]:=by rw [ShadesR,if_neg (by rw [h0];simp),if_pos hl]
      rw [hR] at k1
      have hb:dipOk j t=false:=by rw [dipOk,hl,Bool.and_false]
      have hS:dipS j t=default:=by rw [dipS,hb];rfl
      rw [hb,hS]
      have hd:(default:Sh).l.length=20:=(default:Sh).h
      have h1:=takeN20 (l:=(default:Sh).l) hd
      have h2:=splice_eq (xs:=(default:Sh).l.map intC) (l:=(default:Sh).l.map intC) rfl
      simp only [go_sem,f62,hz,k1,disj_nil]
      have h1l:((default:Sh).l.map intC).length=20:=by rw [List.length_map];exact hd
      simp only [go_sem,List.flatMap_nil,hd,h1,h2,h1l,disj_nil]
    | true=>
      have hR:ShadesR j.vat t j.day 20 = .tup [.c (L (false,false) (shadesT j t).l),.c (.int .i64 0)]:=by rw [ShadesR,if_neg (by rw [h0];simp),if_neg (by rw [hl];decide)];rfl
      rw [hR] at k1
      have hb:dipOk j t=true:=by rw [dipOk,hl,h0];rfl
      have hS:dipS j t=shadesT j t:=by rw [dipS,if_pos hb]
      rw [hb,hS]
      have hd:=(shadesT j t).h
      have h1:=takeN20 (l:=(shadesT j t).l) hd
      have h2:=splice_eq (xs:=(shadesT j t).l.map intC) (l:=(default:Sh).l.map intC) (by rw [List.length_map,List.length_map,hd];rfl)
      have h3:=splice_eq (xs:=(shadesT j t).l.map intC) (l:=(shadesT j t).l.map intC) rfl
      simp only [go_sem,f62,hz,k1,disj_nil]
      have h1l:((shadesT j t).l.map intC).length=20:=by rw [List.length_map];exact hd
      simp only [go_sem,hd,h1,h2,h3,h1l,disj_nil]
  · have hR:ShadesR j.vat t j.day 20 = .tup [.c .nils,.c (.int .i64 (checkVat j.vat))]:=if_pos h0
    rw [hR] at k1
    have hb:dipOk j t=false:=by rw [dipOk,decide_eq_false h0,Bool.false_and]
    have hS:dipS j t=default:=by rw [dipS,hb];rfl
    rw [hb,hS]
    have hd:(default:Sh).l.length=20:=(default:Sh).h
    have h1:=takeN20 (l:=(default:Sh).l) hd
    have h2:=splice_eq (xs:=(default:Sh).l.map intC) (l:=(default:Sh).l.map intC) rfl
    simp only [go_sem,f62,hz,k1,disj_nil]
    have h1l:((default:Sh).l.map intC).length=20:=by rw [List.length_map];exact hd
    simp only [go_sem,List.flatMap_nil,hd,h1,h2,h1l,h0,disj_nil])
def Sh.Ok (s:Sh):Prop:=∀x∈s.l,0≤x∧x≤5000
def sumS (s:Sh) (b d:Nat):Int:=sumI ((s.l.drop b).take d)
theorem sumS_bd (hs:s.Ok) {b d:Nat}:0≤sumS s b d∧sumS s b d≤100000:=by
  have hm:∀x∈(s.l.drop b).take d,0≤x∧x≤5000:=fun x hx=>hs x (List.mem_of_mem_drop (List.mem_of_mem_take hx))
  have hl:((s.l.drop b).take d).length≤20:=by rw [List.length_take,List.length_drop,s.h];omega
  have h0:∀{l:List Int},(∀x∈l,0≤x∧x≤5000)→0≤sumI l∧sumI l≤((l.length*5000:Nat):Int):=by
    intro l
    induction l with
    | nil=>intro _;exact ⟨by decide,by decide⟩
    | cons a l ih=>
      intro h
      rw [sumI_cons]
      have h1:=h a (by simp)
      have h2:=ih fun x hx=>h x (by simp [hx])
      simp only [List.length_cons]
      omega
  have:=h0 hm
  unfold sumS
  omega
theorem psum (hs:s.Ok) {b d:Nat} (hb:b+d≤20) {Q:V→Prop}:CallP tab 113 [shV s,.c (.int .i64 (b:Int)),.c (.int .i64 (d:Int))] Q↔Q (.c (.int .i64 (sumS s b d))):=CallP_of (by
  refine Val_X (fn:=f113) rfl ?_
  have hd:=s.h
  have e1:IntKind.i64.wrap ((b:Int)+d)=((b+d:Nat):Int):=by rw [wrapB (by omega) (by omega)];omega
  have e2:(0:Int)≤((b+d:Nat):Int):=by omega
  have e3:b≤b+d∧b+d≤20:=by omega
  have e4:b+d-b=d:=by omega
  have kn:=known_ints (l:=s.l)
  simp only [go_sem,f113,e1,e2,e3,e4,kn]
  refine RX_forC d (fun k=>[(6,.c (.int .i64 (sumS s b k))),(15,.c (.int .i64 k))]) (fun _=>True) rfl trivial (by simp only [go_sem]<;>first | rfl | exact ⟨rfl,rfl⟩) ?_
  intro k hk _
  by_cases hlt:k<d
  · have hi:b+k<s.l.length:=by omega
    have h1:=takeN_ints1 (l:=s.l) hi
    have hst:sumS s b (k+1)=sumS s b k+s.l.getD (b+k) default:=by
      unfold sumS
      have hk':k<(s.l.drop b).length:=by rw [List.length_drop];omega
      rw [take_getD hk' default,sumI_snoc]
      congr 1
      rw [getD_lt _ _ _ hk',getD_lt _ _ _ hi,List.getElem_drop]
    have bd:=sumS_bd hs (b:=b) (d:=k+1)
    have e5:IntKind.i64.wrap (sumS s b k+s.l.getD (b+k) default)=sumS s b (k+1):=by rw [←hst];exact wrapB (by omega) (by omega)
    have e6:IntKind.i64.wrap ((k:Int)+1)=((k+1:Nat):Int):=wrap_succ (n:=3000) (by omega) (by decide)
    simp only [go_sem,hlt,h1,e5,e6]
  · have:k=d:=by omega
    subst this
    simp only [go_sem,hlt])
end Am.Vt
namespace Am.Vt
open Go Am
set_option maxRecDepth 100000
set_option maxHeartbeats 4000000
set_option linter.unusedSimpArgs false
set_option linter.unusedVariables false
variable {g1 g2 g3 g4 g5 g gt:Bool × Bool} {j:Job} {v:Vat} {plan:List Stp} {t:Truth} {s:Sh}
def freshB (plan:List Stp) (i:Nat):Bool:=!(plan.take i).any fun x=>decide (x.piece=(plan.getD i default).piece)
def distinctB (plan:List Stp):Bool:=(List.range plan.length).all (freshB plan)
def planOkB (j:Job) (plan:List Stp):Bool:=decide (plan.length≤j.pieces.length)&&(plan.all (stepOk j)&&distinctB plan)
def sumD (plan:List Stp):Int:=sumI (plan.map (·.dips))
def totalD (j:Job) (plan:List Stp):Int:=if planOkB j plan=true then sumD plan else 0
def totalB (j:Job) (plan:List Stp):Bool:=planOkB j plan&&decide (sumD plan≤20)
theorem sumD_bd (h:plan.all (stepOk j)=true):0≤sumD plan∧sumD plan≤((plan.length*20:Nat):Int):=by
  induction plan with
  | nil=>exact ⟨by decide,by decide⟩
  | cons a l ih=>
    rw [List.all_cons,Bool.and_eq_true] at h
    have h1:=ih h.2
    have h2:=h.1
    simp only [stepOk,Bool.and_eq_true,inR_iff] at h2
    unfold sumD at h1 ⊢
    rw [List.map_cons,sumI_cons]
    simp only [List.length_cons]
    omega
theorem ptotal (h4:j.pieces.length≤1000) (hp:plan.length<Big) {Q:V→Prop}:CallP tab 63 [jobV g1 g2 g3 g4 g5 j,.c (L g plan)] Q↔Q (.tup [.c (.int .i64 (totalD j plan)),.c (.bool (totalB j plan))]):=CallP_of (by
  refine Val_X (fn:=f63) rfl ?_
  by_cases h1:((plan.length:Nat):Int)>(j.pieces.length:Nat)
  · have e1:planOkB j plan=false:=by rw [planOkB,decide_eq_false (by omega),Bool.false_and]
    simp only [go_sem,f63,h1,totalD,totalB,e1]
  · have hrd:∀H,Rd 2 H (L g plan) plan:=fun H=>.lst g _ rfl
    simp only [go_sem,f63,h1]
    refine (psteps (g1:=g1) (g2:=g2) (g3:=g3) (g4:=g4) (g5:=g5) hp h4 (hrd _)).mono ?_
    rintro r H' ⟨rfl,hk⟩
    cases h2:plan.all (stepOk j) with
    | false=>
      have e1:planOkB j plan=false:=by rw [planOkB,h2,Bool.false_and,Bool.and_false]
      simp only [go_sem,totalD,totalB,e1]
    | true=>
      have hl:plan.length≤1000:=by omega
      simp only [go_sem]
      refine RX_whileU (α:=Nat × List Obj) (fun x=>[(4,.c (.int .i64 (sumD (plan.take x.1)))),(25,.c (.int .i64 (x.1:Nat)))]) (fun x=>x.2) (fun x=>x.1≤plan.length∧∀i,i<x.1→freshB plan i=true) (fun x=>plan.length-x.1) (0,H') ⟨Nat.zero_le _,fun i h=>by omega⟩ (by simp only [go_sem]<;>first | rfl | exact ⟨rfl,rfl⟩) ?_
      rintro ⟨k,H2⟩ ⟨hk2,hP⟩
      simp only at hk2 hP
      by_cases hlt:k<plan.length
      · have e4:IntKind.i64.wrap ((k:Int)+1)=((k+1:Nat):Int):=wrap_succ (n:=3000) (by omega) (by decide)
        have k0:(0:Int)≤(k:Int):=by omega
        have k1:k≤plan.length:=by omega
        have hh:headLen 2 (plan.map (Row.row (α:=Stp)))=true:=headLen_map (sz:=2) rfl
        obtain ⟨z,hz⟩:∃z,z=plan.getD k default:=⟨_,rfl⟩
        have key:∀(c:C) (hrd2:Rd 2 (H2++[.cells [.int .i64 z.piece,.int .i64 z.dips]]) c (plan.take k)),Fn tab (.f 111 [.c c,.c (.fn 112 false [] [.ptr H2.length 0])] (H2++[.cells [.int .i64 z.piece,.int .i64 z.dips]])) fun r H3=>r = .c (.bool (!freshB plan k))∧Keep K0 (H2++[.cells [.int .i64 z.piece,.int .i64 z.dips]]) H3:=fun c hrd2=>by
          refine (ContainsFunc_rd elemStp (kI:=129) rfl rfl (big_of (by rw [List.length_take];omega)) hrd2 (fun x=>decide (x.piece=z.piece)) ?_).mono ?_
          · intro y hy t H3 hk3
            rw [CallV_fn]
            refine Fn_X (fn:=f112) rfl rfl ?_
            have g0:getH H3 H2.length = .cells [.int .i64 z.piece,.int .i64 z.dips]:=hk3.get id (getH_at0 H2 _) (by simp)
            have l0:=lt_of_getH (h:=H3) (o:=H2.length) (by rw [g0];simp)
            simp only [go_sem,f112,elemStp,getH_left,l0,g0]
            exact Keep.append
          · rintro r H3 ⟨rfl,hk3⟩
            exact ⟨by rw [freshB,Bool.not_not,hz],hk3⟩
        have hLg:L g plan=L (false,g.2) plan:=by
          rcases L_cases g plan with ⟨_,h,_⟩ | h
          · subst h;simp at hlt
          · rw [h];rfl
        have t1:=sumD_bd (j:=j) (plan:=plan.take (k+1)) (by
          rw [List.all_eq_true] at h2 ⊢
          exact fun x hx=>h2 x (List.mem_of_mem_take hx))
        have t2:(plan.take (k+1)).length≤1000:=by rw [List.length_take];omega
        have t3:sumD (plan.take (k+1))=sumD (plan.take k)+z.dips:=by
          unfold sumD
          rw [take_getD hlt default,List.map_append,←hz]
          exact sumI_snoc
        have e5:IntKind.i64.wrap (sumD (plan.take k)+z.dips)=sumD (plan.take (k+1)):=by rw [←t3];exact wrapB (by omega) (by omega)
        rw [hLg]
        simp only [go_sem,hlt,k0,k1,hh,atI_nat,←hz,takeN_L k1]
        have hL2:C.lst g.2 ((plan.take k).map (Row.row (α:=Stp)))=L (false,g.2) (plan.take k):=rfl
        refine (key _ (.lst (false,g.2) _ rfl)).mono ?_
        rintro r H3 ⟨rfl,hk3⟩
        have g0:getH H3 H2.length = .cells [.int .i64 z.piece,.int .i64 z.dips]:=hk3.get id (getH_at0 H2 _) (by simp)
        cases hfr:freshB plan k with
        | false=>
          have e1:planOkB j plan=false:=by
            have:distinctB plan=false:=by
              rw [distinctB,List.all_eq_false]
              exact ⟨k,List.mem_range.2 hlt,by rw [hfr];decide⟩
            rw [planOkB,this,Bool.and_false,Bool.and_false]
          simp only [go_sem,totalD,totalB,e1]
        | true=>
          simp only [go_sem,g0,e4,e5]
          refine ⟨(k+1,H3),⟨by simp only;omega,by simp only;omega,fun i hi=>?_⟩,⟨rfl,rfl⟩,rfl⟩
          simp only at hi
          by_cases hik:i=k
          · subst hik;exact hfr
          · exact hP i (by omega)
      · have:k=plan.length:=by omega
        subst this
        have e1:planOkB j plan=true:=by
          have:distinctB plan=true:=by
            rw [distinctB,List.all_eq_true]
            exact fun i hi=>hP i (List.mem_range.1 hi)
          rw [planOkB,this,h2,decide_eq_true (by omega)];rfl
        have hn:¬((plan.length:Nat):Int)<(plan.length:Nat):=by omega
        simp only [go_sem,hn,List.take_length,totalD,totalB,e1])
end Am.Vt
namespace Am.Vt
open Go Am
set_option maxRecDepth 100000
set_option maxHeartbeats 4000000
set_option linter.unusedSimpArgs false
set_option linter.unusedVariables false
variable {g1 g2 g3 g4 g5 g gt:Bool × Bool} {j:Job} {v:Vat} {plan:List Stp} {t:Truth} {s:Sh}
def ofK (j:Job) (s:Sh) (plan:List Stp):Nat→List Int × Nat
  | 0=>(List.replicate j.pieces.length 0,0)
  | k+1=>((ofK j s plan k).1.set (plan.getD k default).piece.toNat (sumS s (ofK j s plan k).2 (plan.getD k default).dips.toNat),(ofK j s plan k).2+(plan.getD k default).dips.toNat)
def ofS (j:Job) (s:Sh) (plan:List Stp):List Int:=(ofK j s plan plan.length).1
theorem ofK_len : ∀{k:Nat},(ofK j s plan k).1.length=j.pieces.length
  | 0=>by simp [ofK]
  | k+1=>by rw [ofK,List.length_set,ofK_len]
theorem step_at (h:plan.all (stepOk j)=true) {k:Nat} (hk:k<plan.length):0≤(plan.getD k default).piece∧(plan.getD k default).piece<j.pieces.length∧0≤(plan.getD k default).dips∧(plan.getD k default).dips≤20:=by
  rw [List.all_eq_true] at h
  have:=h _ (getD_mem (d:=default) hk)
  simp only [stepOk,pieceOk,Bool.and_eq_true,inR_iff] at this
  omega
theorem ofK_sum (h:plan.all (stepOk j)=true):∀{k:Nat},k≤plan.length→(((ofK j s plan k).2:Nat):Int)=sumD (plan.take k)
  | 0,_=>rfl
  | k+1,hk=>by
    have:=step_at h (k:=k) (by omega)
    have ih:=ofK_sum h (k:=k) (by omega)
    unfold sumD at ih ⊢
    rw [take_getD (by omega:k<plan.length) default,List.map_append]
    show (((ofK j s plan k).2+(plan.getD k default).dips.toNat:Nat):Int)=sumI (_++[(plan.getD k default).dips])
    rw [sumI_snoc,←ih]
    omega
theorem total_parts (h:totalB j plan=true):plan.length≤j.pieces.length∧plan.all (stepOk j)=true∧distinctB plan=true∧sumD plan≤20:=by
  simp only [totalB,planOkB,Bool.and_eq_true,decide_eq_true_eq] at h
  exact ⟨h.1.1,h.1.2.1,h.1.2.2,h.2⟩
theorem sumD_take (h:plan.all (stepOk j)=true) {k:Nat}:sumD (plan.take k)≤sumD plan:=by
  have e:sumD plan=sumD (plan.take k)+sumD (plan.drop k):=by
    unfold sumD
    rw [←List.take_append_drop k plan,List.map_append]
    conv=>lhs;unfold sumI
    rw [List.foldl_append,foldl_add]
    simp only [List.take_append_drop]
    rfl
  have:=(sumD_bd (j:=j) (plan:=plan.drop k) (by
    rw [List.all_eq_true] at h ⊢
    exact fun x hx=>h x (List.mem_of_mem_drop hx))).1
  omega
theorem ofK_le (h:totalB j plan=true) {k:Nat} (hk:k≤plan.length):(ofK j s plan k).2≤20:=by
  obtain ⟨_,h2,_,h4⟩:=total_parts h
  have:=ofK_sum (s:=s) h2 hk
  have:=sumD_take h2 (k:=k)
  omega
theorem pof (hs:s.Ok) (h4:j.pieces.length≤1000) (h:totalB j plan=true) {Q:V→Prop}:CallP tab 64 [shV s,jobV g1 g2 g3 g4 g5 j,.c (L g plan)] Q↔Q (.c (L (false,false) (ofS j s plan))):=CallP_of (by
  refine Val_X (fn:=f64) rfl ?_
  obtain ⟨p1,p2,p3,p4⟩:=total_parts h
  have hd:=s.h
  have h1:=takeN20 (l:=s.l) hd
  have hlk:(s.l.map intC).length=20:=by rw [List.length_map];exact hd
  have kn:=known_ints (l:=s.l)
  have b1:(j.pieces.length:Int)*8≤2^40:=by omega
  have b0:(0:Int)≤(j.pieces.length:Nat):=by omega
  have hrep:List.replicate j.pieces.length [D.int .i64 0]=(List.replicate j.pieces.length (0:Int)).map Row.row:=by rw [List.map_replicate];rfl
  simp only [go_sem,f64,kn,h1,hlk,b1,b0,hrep]
  refine RX_for plan.length (fun k=>[(8,.c (.int .i64 ((ofK j s plan k).2:Nat))),(17,.c (.int .i64 k))]) (fun k=>[.cells (shC s),.cells (jobC g1 g2 g3 g4 g5 j),.arr false 0 1 ((ofK j s plan k).1.map Row.row)]) (fun _=>True) trivial (by simp only [go_sem,underL_ints]<;>first | rfl | exact ⟨rfl,rfl⟩ | exact ⟨⟨rfl,rfl⟩,rfl⟩) ?_
  intro k hk _
  by_cases hlt:k<plan.length
  · have e4:IntKind.i64.wrap ((k:Int)+1)=((k+1:Nat):Int):=wrap_succ (n:=3000) (by omega) (by decide)
    obtain ⟨q1,q2,q3,q4⟩:=step_at p2 hlt
    have l1:=ofK_le (s:=s) h (k:=k+1) (by omega)
    obtain ⟨z,hz⟩:∃z,z=plan.getD k default:=⟨_,rfl⟩
    have ho1:(ofK j s plan (k+1)).1=(ofK j s plan k).1.set z.piece.toNat (sumS s (ofK j s plan k).2 z.dips.toNat):=by rw [hz];rfl
    have ho2:(ofK j s plan (k+1)).2=(ofK j s plan k).2+z.dips.toNat:=by rw [hz];rfl
    have hl:=ofK_len (j:=j) (s:=s) (plan:=plan) (k:=k)
    rw [←hz] at q1 q2 q3 q4
    rw [ho1,ho2]
    rw [ho2] at l1
    generalize (ofK j s plan k).1=w at *
    generalize (ofK j s plan k).2=b at *
    obtain ⟨dn,hdn⟩:∃dn:Nat,z.dips=dn:=⟨z.dips.toNat,by omega⟩
    obtain ⟨pn,hpn⟩:∃pn:Nat,z.piece=pn:=⟨z.piece.toNat,by omega⟩
    have e5:z.dips.toNat=dn:=by omega
    have e6:z.piece.toNat=pn:=by omega
    have hw:pn<w.length:=by omega
    have e7:IntKind.i64.wrap ((b:Int)+dn)=((b+dn:Nat):Int):=by rw [wrapB (by omega) (by omega)];omega
    have hS:=fun {Q:V→Prop}=>psum hs (b:=b) (d:=dn) (by omega) (Q:=Q)
    have e8:(0:Int)≤(pn:Int):=by omega
    have e9:(pn:Int)<(j.pieces.length:Nat):=by omega
    have ta:=fun h=>toArgCs_ints (h:=h) (l:=s.l)
    simp only [go_sem,hlt,atI_nat,←hz,h1,hlk,hdn,hpn,e5,e6,e7,e8,e9,hS,e4,nth_row hw,setNth_map,underL_ints,ta]
  · have:k=plan.length:=by omega
    subst this
    have hl:=ofK_len (j:=j) (s:=s) (plan:=plan) (k:=plan.length)
    have hp:=part_map (l:=(ofK j s plan plan.length).1) (n:=j.pieces.length) hl
    simp only [part,dropN] at hp
    simp only [go_sem,hlt,ofS,hp])
end Am.Vt
namespace Am.Vt
open Go Am
set_option maxRecDepth 100000
set_option maxHeartbeats 4000000
set_option linter.unusedSimpArgs false
set_option linter.unusedVariables false
structure Res where
  many:Int
  dips:Int
  piece:Int
  sd:Int
  deriving DecidableEq,Inhabited
abbrev res0 : Res:=⟨0,0,-1,0⟩
def betterB (r x:Res):Bool:=decide (r.many>x.many)||(decide (r.many=x.many)&&decide (r.dips<x.dips))
def pickR (best r:Res):Res:=if betterB r best=true then r else best
abbrev Gn := Nat→Nat→Nat→Bool
def gainI (b:Bool):Int:=if b=true then 1 else 0
def candR (g:Gn) (r:Res) (i b d:Nat):Res:=⟨r.many+gainI (g i b d),r.dips+d,i,d⟩
def candI (g:Gn) (fr:Nat→Nat→Res) (most i done b:Nat):List Res:=(List.range (most+1-b)).map fun d=>candR g (fr (done ||| 2^i) (b+d)) i b d
def fromI (g:Gn) (fr:Nat→Nat→Res) (most done b:Nat) (best:Res) (i:Nat):Res:=if done.testBit i=true then best else (candI g fr most i done b).foldl pickR best
def fromF (g:Gn) (n most:Nat):Nat→Nat→Nat→Res
  | 0,_,_=>res0
  | f+1,done,b=>(List.range n).foldl (fromI g (fromF g n most f) most done b) res0
def und : Nat→Nat→Nat
  | 0,_=>0
  | n+1,done=>und n done+(if done.testBit n=true then 0 else 1)
theorem und_le : ∀{n done:Nat},und n done≤n
  | 0,_=>Nat.le_refl _
  | n+1,done=>by have:=und_le (n:=n) (done:=done);simp only [und];split<;>omega
theorem or_bit {done i k:Nat}:(done ||| 2^i).testBit k=(done.testBit k||decide (i=k)):=by
  rw [Nat.testBit_or,Nat.testBit_two_pow]
theorem und_congr : ∀{n a b:Nat},(∀i,i<n→a.testBit i=b.testBit i)→und n a=und n b
  | 0,_,_,_=>rfl
  | n+1,a,b,h=>by simp only [und,h n (by omega),und_congr (n:=n) fun i hi=>h i (by omega)]
theorem und_or : ∀{n done i:Nat},i<n→done.testBit i=false→und n (done ||| 2^i)+1=und n done
  | 0,_,_,h,_=>by omega
  | n+1,done,i,h,hb=>by
    simp only [und]
    by_cases hi:i=n
    · subst hi
      rw [und_congr (n:=i) (a:=done ||| 2^i) (b:=done) fun k hk=>by rw [or_bit,decide_eq_false (by omega),Bool.or_false],or_bit,hb]
      simp
    · have:=und_or (n:=n) (i:=i) (by omega) hb
      rw [or_bit,decide_eq_false hi,Bool.or_false]
      omega
theorem und_zero : ∀{n done:Nat},und n done=0→∀i,i<n→done.testBit i=true
  | 0,_,_,i,h=>by omega
  | n+1,done,h,i,hi=>by
    simp only [und] at h
    by_cases hin:i=n
    · subst hin
      cases hb:done.testBit i with
      | true=>rfl
      | false=>rw [hb] at h;simp at h
    · exact und_zero (n:=n) (by omega) i (by omega)
theorem und_0 : ∀{n:Nat},und n 0=n
  | 0=>rfl
  | n+1=>by simp [und,und_0 (n:=n)]
def fromS (g:Gn) (n most done b:Nat):Res:=fromF g n most (und n done) done b
theorem foldl_congrR {L:List Nat} {f f':Res→Nat→Res}:∀{b:Res},(∀b,∀i∈L,f b i=f' b i)→L.foldl f b=L.foldl f' b:=by
  induction L with
  | nil=>intro b _;rfl
  | cons i L ih=>
    intro b h
    rw [List.foldl_cons,List.foldl_cons,h b i (by simp)]
    exact ih fun b k hk=>h b k (by simp [hk])
theorem fromI_congr {g:Gn} {fr fr':Nat→Nat→Res} {most done b i:Nat} {best:Res} (h:done.testBit i=false→∀d,fr (done ||| 2^i) (b+d)=fr' (done ||| 2^i) (b+d)):fromI g fr most done b best i=fromI g fr' most done b best i:=by
  unfold fromI
  cases hb:done.testBit i with
  | true=>rfl
  | false=>
    simp only [Bool.false_eq_true,if_false,candI]
    congr 1
    exact List.map_congr_left fun d _=>by rw [h hb d]
theorem fromS_eq {g:Gn} {n most done b:Nat}:fromS g n most done b=(List.range n).foldl (fromI g (fromS g n most) most done b) res0:=by
  unfold fromS
  cases hu:und n done with
  | zero=>
    rw [foldl_congrR (f':=fun b _=>b)]
    · show res0=_
      generalize res0=r
      induction (List.range n) with
      | nil=>rfl
      | cons i L ih=>exact ih
    · intro best i hi
      unfold fromI
      rw [if_pos (und_zero hu i (List.mem_range.1 hi))]
  | succ f=>
    show (List.range n).foldl _ _=_
    refine foldl_congrR fun best i hi=>fromI_congr fun hb d=>?_
    have:=und_or (List.mem_range.1 hi) hb
    rw [show und n (done ||| 2^i)=f by omega]
theorem pick_mem {best r:Res}:pickR best r=best∨pickR best r=r:=by unfold pickR;split<;>simp
theorem fold_mem : ∀{L:List Res} {best:Res},L.foldl pickR best=best∨L.foldl pickR best∈L
  | [],best=>.inl rfl
  | r::L,best=>by
    rw [List.foldl_cons]
    rcases fold_mem (L:=L) (best:=pickR best r) with h | h
    · rw [h]
      rcases pick_mem (best:=best) (r:=r) with h' | h'
      · exact .inl h'
      · exact .inr (by rw [h'];simp)
    · exact .inr (by simp [h])
theorem fromI_mem {g:Gn} {fr:Nat→Nat→Res} {most done b:Nat}:∀{L:List Nat} {best:Res},L.foldl (fromI g fr most done b) best=best∨∃i∈L,done.testBit i=false∧∃d,b+d≤most∧L.foldl (fromI g fr most done b) best=candR g (fr (done ||| 2^i) (b+d)) i b d
  | [],best=>.inl rfl
  | i::L,best=>by
    rw [List.foldl_cons]
    rcases fromI_mem (L:=L) (best:=fromI g fr most done b best i) with h | ⟨k,hk,h⟩
    · rw [h]
      unfold fromI
      cases hb:done.testBit i with
      | true=>exact .inl rfl
      | false=>
        simp only [Bool.false_eq_true,if_false]
        rcases fold_mem (L:=candI g fr most i done b) (best:=best) with h' | h'
        · exact .inl h'
        · right
          rw [candI,List.mem_map] at h'
          obtain ⟨d,hd,h'⟩:=h'
          rw [List.mem_range] at hd
          exact ⟨i,by simp,hb,d,by omega,h'.symm⟩
    · exact .inr ⟨k,by simp [hk],h⟩
theorem fromF_mem {g:Gn} {n most f done b:Nat}:fromF g n most (f+1) done b=res0∨∃i,i<n∧done.testBit i=false∧∃d,b+d≤most∧fromF g n most (f+1) done b=candR g (fromF g n most f (done ||| 2^i) (b+d)) i b d:=by
  rcases fromI_mem (g:=g) (fr:=fromF g n most f) (most:=most) (done:=done) (b:=b) (L:=List.range n) (best:=res0) with h | ⟨i,hi,h⟩
  · exact .inl h
  · exact .inr ⟨i,List.mem_range.1 hi,h⟩
theorem gain_bd {b:Bool}:0≤gainI b∧gainI b≤1:=by cases b<;>simp [gainI]
theorem fromF_bd {g:Gn} {n most:Nat}:∀{f done b:Nat},0≤(fromF g n most f done b).many∧(fromF g n most f done b).many≤f∧0≤(fromF g n most f done b).dips∧(b≤most→b+(fromF g n most f done b).dips≤most) ∧ -1≤(fromF g n most f done b).piece∧(fromF g n most f done b).piece<n+1∧0≤(fromF g n most f done b).sd∧(fromF g n most f done b).sd≤most
  | 0,done,b=>by simp only [fromF];omega
  | f+1,done,b=>by
    rcases fromF_mem (g:=g) (n:=n) (most:=most) (f:=f) (done:=done) (b:=b) with h | ⟨i,hi,hb,d,hd,h⟩
    · rw [h];simp only;omega
    · rw [h]
      have ih:=fromF_bd (g:=g) (n:=n) (most:=most) (f:=f) (done:=done ||| 2^i) (b:=b+d)
      have gb:=gain_bd (b:=g i b d)
      simp only [candR]
      omega
def geR (r x:Res):Prop:=x.many<r.many∨(x.many=r.many∧r.dips≤x.dips)
theorem geR.refl {r:Res}:geR r r:=.inr ⟨rfl,Int.le_refl _⟩
theorem fromF_less {g:Gn} {n most h:Nat} (hg:∀b d,g h b d=false):∀{f done b:Nat},und n done≤f→(fromF g n most f done b).many≤und n (done ||| 2^h)
  | 0,_,_,_=>by simp only [fromF];omega
  | f+1,done,b,hf=>by
    rcases fromF_mem (g:=g) (n:=n) (most:=most) (f:=f) (done:=done) (b:=b) with e | ⟨i,hi,hb,d,hd,e⟩
    · rw [e];simp only;omega
    · rw [e]
      have hu:=und_or hi hb
      have ih:=fromF_less (n:=n) (most:=most) hg (f:=f) (done:=done ||| 2^i) (b:=b+d) (by omega)
      simp only [candR]
      by_cases hih:i=h
      · subst hih
        have e2:und n (done ||| 2^i ||| 2^i)=und n (done ||| 2^i):=und_congr fun k _=>by simp only [or_bit,Bool.or_assoc,Bool.or_self]
        rw [hg]
        simp only [gainI,Bool.false_eq_true,if_false]
        omega
      · have e2:und n (done ||| 2^i ||| 2^h)=und n (done ||| 2^h ||| 2^i):=und_congr fun k _=>by
          simp only [or_bit,Bool.or_assoc]
          rw [Bool.or_comm (decide (i=k))]
        have:=und_or (n:=n) (done:=done ||| 2^h) hi (by rw [or_bit,hb,decide_eq_false (fun h=>hih h.symm)];rfl)
        have gb:=gain_bd (b:=g i b d)
        omega
def pathF (g:Gn) (n most:Nat):Nat→Nat→Nat→List Stp
  | 0,_,_=>[]
  | f+1,done,b=>if 0≤(fromF g n most (f+1) done b).piece then ⟨(fromF g n most (f+1) done b).piece,(fromF g n most (f+1) done b).sd⟩::pathF g n most f (done ||| 2^(fromF g n most (f+1) done b).piece.toNat) (b+(fromF g n most (f+1) done b).sd.toNat) else []
def pathS (g:Gn) (n most done b:Nat):List Stp:=pathF g n most (und n done) done b
theorem pathS_eq {g:Gn} {n most done b:Nat}:pathS g n most done b=if 0≤(fromS g n most done b).piece then ⟨(fromS g n most done b).piece,(fromS g n most done b).sd⟩::pathS g n most (done ||| 2^(fromS g n most done b).piece.toNat) (b+(fromS g n most done b).sd.toNat) else []:=by
  unfold pathS fromS
  cases hu:und n done with
  | zero=>rfl
  | succ f=>
    rcases fromF_mem (g:=g) (n:=n) (most:=most) (f:=f) (done:=done) (b:=b) with e | ⟨i,hi,hb,d,hd,e⟩
    · simp only [pathF,e];rfl
    · have:=und_or hi hb
      simp only [pathF,e,candR,Int.toNat_natCast]
      rw [show und n (done ||| 2^i)=f by omega]
def gainsL (g:Gn):Nat→List Stp→Int
  | _,[]=>0
  | b,s::l=>gainI (g s.piece.toNat b s.dips.toNat)+gainsL g (b+s.dips.toNat) l
structure IsPath (g:Gn) (n most done b:Nat) (r:Res) (l:List Stp):Prop where
  rng:∀s∈l,0≤s.piece∧s.piece<n∧done.testBit s.piece.toNat=false∧0≤s.dips∧s.dips≤most
  dis:l.Pairwise fun a b=>a.piece≠b.piece
  sum:sumD l=r.dips
  many:gainsL g b l=r.many
  len:l.length≤und n done
def ofB : List Stp→Nat→Nat→Nat × Nat
  | [],_,_=>(0,0)
  | s::l,i,b=>if s.piece=i then (b,s.dips.toNat) else ofB l i (b+s.dips.toNat)
end Am.Vt
namespace Am.Vt
open Go Am
set_option maxRecDepth 100000
set_option maxHeartbeats 4000000
set_option linter.unusedSimpArgs false
set_option linter.unusedVariables false
variable {g1 g2 g3 g4 g5 g gt:Bool × Bool} {j:Job} {v:Vat} {plan:List Stp} {t:Truth}
def KeepX (p:Obj→Prop) (n:Nat) (H H':List Obj):Prop:=H.length≤H'.length∧∀o,o<H.length→(o<n∨¬p (getH H o))→getH H' o=getH H o
namespace KeepX
variable {p q:Obj→Prop} {n m:Nat} {H H' H'':List Obj}
theorem refl : KeepX p n H H:=⟨Nat.le_refl _,fun _ _ _=>rfl⟩
theorem trans (h:KeepX p n H H') (h':KeepX p n H' H''):KeepX p n H H'':=⟨Nat.le_trans h.1 h'.1,fun o ho hp=>by
  have e:=h.2 o ho hp
  rw [h'.2 o (Nat.lt_of_lt_of_le ho h.1) (by rw [e];exact hp),e]⟩
theorem mono (h:KeepX p n H H') (hm:m≤n) (hp:∀x,p x→q x):KeepX q m H H':=⟨h.1,fun o ho hq=>h.2 o ho (by
  rcases hq with hq | hq
  · left;omega
  · exact .inr fun hx=>hq (hp _ hx))⟩
theorem app {X:List Obj}:KeepX p n H (H++X):=⟨by simp,fun o ho _=>getH_left ho⟩
theorem set {o:Nat} {x:Obj} (hn:n≤o) (hp:p (getH H o)):KeepX p n H (setH H o x):=⟨by rw [length_setH];exact Nat.le_refl _,fun o' ho h=>by
  rw [getH_setH,if_neg]
  rintro ⟨rfl,_⟩
  rcases h with h | h
  · omega
  · exact h hp⟩
theorem get (h:KeepX p n H H') {o:Nat} {x:Obj} (hx:getH H o=x) (hne:x ≠ .none) (hp:¬p x):getH H' o=x:=by
  rw [h.2 o (lt_of_getH (by rw [hx];exact hne)) (.inr (by rw [hx];exact hp)),hx]
theorem low (h:KeepX p n H H') {o:Nat} {x:Obj} (hx:getH H o=x) (hne:x ≠ .none) (ho:o<n):getH H' o=x:=by
  rw [h.2 o (lt_of_getH (by rw [hx];exact hne)) (.inl ho),hx]
end KeepX
def ArrX (x:Obj):Prop:=∃w,x = .arr false 0 1 w
def SoftX (x:Obj):Prop:=(∃n,x = .cells [.int .i64 n])∨x = .cells [.nilfn]∨ArrX x
def HardX (x:Obj):Prop:=(∃l,x = .loop l)∨(∃a b c d,x = .map a b c d)∨(∃f ver w,x = .arr f ver 20 w)∨(∃cs,x = .cells cs∧cs.length=18)
def ChX (x:Obj):Prop:=ArrX x∨HardX x
def AnyX (x:Obj):Prop:=SoftX x∨HardX x
def FoldL {σ β:Type} (C:σ→β→Prop) (step:σ→β→σ):σ→List β→Prop
  | _,[]=>True
  | s,w::ws=>C s w∧FoldL C step (step s w) ws
theorem FoldL_append {σ β:Type} {C:σ→β→Prop} {step:σ→β→σ}:∀{a b:List β} {s:σ},FoldL C step s (a++b)↔FoldL C step s a∧FoldL C step (a.foldl step s) b
  | [],b,s=>by simp [FoldL]
  | w::a,b,s=>by
    simp only [List.cons_append,FoldL,List.foldl_cons,FoldL_append,and_assoc]
section
variable {σ:Type} {F:C} {R:σ→List Obj→Prop} {step:σ→Truth→σ} {C0:σ→Truth→Prop} {oo n m:Nat}
def PYield (v:Vat) (N m oo:Nat) (C0:σ→Truth→Prop) (F:C) (R:σ→List Obj→Prop) (step:σ→Truth→σ):Prop:=
  ∀s H (t:Truth),N≤H.length→C0 s t→provesTruth v t=true→R s H→getH H oo = .arr false 0 1 (t.drift.map Row.row)→CallV tab (.c F) [.agg [.int .i64 t.start,.int .i64 t.blue,.sl oo 0 0 t.drift.length]] H fun r H'=>r = .c (.bool true)∧KeepX HardX m H H'∧R (step s t) H'
def pstep (v:Vat) (step:σ→Truth→σ) (st bl:Int) (s:σ) (w:List Int):σ:=if provesTruth v ⟨st,bl,w⟩=true then step s ⟨st,bl,w⟩ else s
def pC (v:Vat) (C0:σ→Truth→Prop) (st bl:Int) (s:σ) (w:List Int):Prop:=provesTruth v ⟨st,bl,w⟩=true→C0 s ⟨st,bl,w⟩
theorem cho_ok (hv:v.Valid) {N:Nat} (hmn:m≤n) (hno:n≤oo) (hR:∀s H H',R s H→KeepX SoftX n H H'→R s H') (hF:PYield v N m oo C0 F R step) (hFh:¬HardX (.cells [F])) {db sb bb vb yb cb:Nat} {st bl:Int} :
    ∀(rem i:Nat) (w:List Int) (s:σ) (H:List Obj),N≤H.length→FoldL (pC v C0 st bl) (pstep v step st bl) s (listsF (v.drift.drop i) (w.take i))→i+rem=v.drift.length→w.length=v.drift.length→R s H→getH H oo = .arr false 0 1 (w.map Row.row) →
      getH H db = .cells [.sl oo 0 0 v.drift.length]→getH H sb = .cells [.int .i64 st]→getH H bb = .cells [.int .i64 bl]→getH H vb = .cells (vatC g1 g2 g3 g4 v)→getH H yb = .cells [F]→getH H cb = .cells [.fn 163 false [] [.ptr db 0,.ptr sb 0,.ptr bb 0,.ptr vb 0,.ptr yb 0,.ptr cb 0]] →
      Fn tab (.f 163 [.c (.int .i64 i),.c (.ptr db 0),.c (.ptr sb 0),.c (.ptr bb 0),.c (.ptr vb 0),.c (.ptr yb 0),.c (.ptr cb 0)] H) fun r H'=>r = .c (.bool true)∧KeepX ChX m H H' ∧
        R ((listsF (v.drift.drop i) (w.take i)).foldl (pstep v step st bl) s) H'∧∃w':List Int,getH H' oo = .arr false 0 1 (w'.map Row.row)∧w'.length=v.drift.length∧w'.take i=w.take i
  | 0,i,w,s,H,hN,hC,hi,hw,hRs,hg,h1,h2,h3,h4,h5,h6=>by
    have hil:i=v.drift.length:=by omega
    subst hil
    have ht:w.take v.drift.length=w:=List.take_of_length_le (by omega)
    rw [ht,List.drop_length] at hC ⊢
    simp only [listsF,List.foldl_cons,List.foldl_nil] at hC ⊢
    refine Fn_X (fn:=f163) rfl rfl ?_
    have l1:=lt_of_getH (h:=H) (o:=db) (by rw [h1];simp)
    have l2:=lt_of_getH (h:=H) (o:=sb) (by rw [h2];simp)
    have l3:=lt_of_getH (h:=H) (o:=bb) (by rw [h3];simp)
    have l4:=lt_of_getH (h:=H) (o:=vb) (by rw [h4];simp)
    have l5:=lt_of_getH (h:=H) (o:=yb) (by rw [h5];simp)
    have lo:=lt_of_getH (h:=H) (o:=oo) (by rw [hg];simp)
    have hP:=fun {gt:Bool × Bool} {Q:V→Prop}=>cProveTruth (v:=v) (t:=⟨st,bl,w⟩) (g1:=g1) (g2:=g2) (g3:=g3) (g4:=g4) (gt:=gt) hv.fits (Q:=Q)
    simp only [vatV,truthG] at hP
    have hpt:=part_map (l:=w) (n:=v.drift.length) hw
    simp only [part,dropN] at hpt
    cases hb:provesTruth v ⟨st,bl,w⟩ with
    | false=>
      have hs:pstep v step st bl s w=s:=by rw [pstep,hb];rfl
      rw [hs]
      simp only [go_sem,f163,h1,h2,h3,h4,h5,getH_left,l1,l2,l3,l4,l5,lo,hg,hpt,hP,hb,disj_nil]
      exact ⟨KeepX.app,hR _ _ _ hRs KeepX.app,w,by first | rfl | (rw [getH_left lo];exact hg),hw,ht⟩
    | true=>
      have hs:pstep v step st bl s w=step s ⟨st,bl,w⟩:=by rw [pstep,hb];rfl
      rw [hs]
      simp only [go_sem,f163,h1,h2,h3,h4,h5,getH_left,l1,l2,l3,l4,l5,lo,hg,hpt,hP,hb,disj_nil]
      have:=hF s (H++[.cells [.int .i64 st,.int .i64 bl,.sl oo 0 0 v.drift.length]]) ⟨st,bl,w⟩ (by simp;omega) (hC.1 hb) hb (hR _ _ _ hRs KeepX.app) (by rw [getH_left lo];exact hg)
      simp only [hw] at this
      refine this.mono ?_
      rintro r H' ⟨rfl,hk,hr⟩
      simp only [go_sem]
      have hk2:KeepX ChX m H H':=(KeepX.app (X:=[.cells [.int .i64 st,.int .i64 bl,.sl oo 0 0 v.drift.length]])).trans (hk.mono (Nat.le_refl _) fun x=>.inr)
      exact ⟨hk2,hr,w,hk.get (by rw [getH_left lo];exact hg) (by simp) (by rintro (⟨_,h⟩ | ⟨_,_,_,_,h⟩ | ⟨_,_,_,h⟩ | ⟨_,h,_⟩)<;>cases h),hw,ht⟩
  | rem+1,i,w,s,H,hN,hC,hi,hw,hRs,hg,h1,h2,h3,h4,h5,h6=>by
    have hil:i<v.drift.length:=by omega
    have hne:¬(i:Int)=v.drift.length:=by omega
    have i0:(0:Int)≤i:=by omega
    have i1:(i:Int)<v.drift.length:=by omega
    have v1:=hv.drift
    have v4:=hv.last7
    obtain ⟨r,hr⟩:∃r,r=v.drift.getD i default:=⟨_,rfl⟩
    have hdrop:v.drift.drop i=r::v.drift.drop (i+1):=by
      rw [List.drop_eq_getElem_cons hil,hr,getD_lt _ _ _ hil]
    obtain ⟨r1,r2,r3⟩:=hv.driftO r (by rw [hr,getD_lt _ _ _ hil];exact List.getElem_mem hil)
    have hat:atI v.drift (i:Int)=r:=by rw [atI_nat,hr]
    obtain ⟨z,hz⟩:∃z,z=(r.hi+1-r.lo).toNat:=⟨_,rfl⟩
    have hdl:∀x,listsF (v.drift.drop i) x=(List.range z).flatMap fun (k:Nat)=>listsF (v.drift.drop (i+1)) (x++[r.lo+(k:Int)]):=fun x=>by rw [hdrop,listsF,hz]
    rw [hdl] at hC ⊢
    let gg:=fun (k:Nat)=>listsF (v.drift.drop (i+1)) (w.take i++[r.lo+(k:Int)])
    change FoldL _ _ s ((List.range z).flatMap gg) at hC
    change Fn tab _ fun r_1 H'=>r_1 = .c (.bool true)∧KeepX ChX m H H'∧R (((List.range z).flatMap gg).foldl (pstep v step st bl) s) H'∧_
    refine Fn_X (fn:=f163) rfl rfl ?_
    have nch:∀{cs:List C},cs.length≠18→¬ChX (.cells cs):=fun {cs} hl=>by
      rintro (⟨_,h⟩ | ⟨_,h⟩ | ⟨_,_,_,_,h⟩ | ⟨_,_,_,h⟩ | ⟨_,h,h'⟩)
      · cases h
      · cases h
      · cases h
      · cases h
      · cases h;exact hl h'
    have eqi:Int.ofNat i=(i:Int):=rfl
    simp only [go_sem,f163,h1,h4,hne,i0,i1,hat]
    refine RX_whileU (α:=Nat × σ × List Obj × List Int) (fun x=>[(10,.c (.int .i64 (r.lo+(x.1:Int))))]) (fun x=>x.2.2.1) (fun x=>x.1≤z∧KeepX ChX m H x.2.2.1∧R x.2.1 x.2.2.1∧getH x.2.2.1 oo = .arr false 0 1 (x.2.2.2.map Row.row)∧x.2.2.2.length=v.drift.length∧x.2.2.2.take i=w.take i∧((List.range x.1).flatMap gg).foldl (pstep v step st bl) s=x.2.1) (fun x=>z-x.1) (0,s,H,w) ⟨Nat.zero_le _,KeepX.refl,hRs,hg,hw,rfl,rfl⟩ (by simp only [go_sem,Int.natCast_zero,Int.add_zero]<;>rfl) ?_
    rintro ⟨k,s',H',w'⟩ ⟨hk1,hK,hR',hg',hw',ht',hf⟩
    simp only at hk1 hK hR' hg' hw' ht' hf
    have j1:=hK.get h1 (by simp) (nch (by simp))
    have j2:=hK.get h2 (by simp) (nch (by simp))
    have j3:=hK.get h3 (by simp) (nch (by simp))
    have j4:=hK.get h4 (by simp) (nch (by simp [vatC]))
    have j5:=hK.get h5 (by simp) (nch (by simp))
    have j6:=hK.get h6 (by simp) (nch (by simp))
    have e2:IntKind.i64.wrap (r.lo+k+1)=r.lo+((k+1:Nat):Int):=by rw [wrapB (by omega) (by omega)];omega
    have loo:=lt_of_getH (h:=H') (o:=oo) (by rw [hg'];simp)
    have nd:db≠oo:=by rintro rfl;rw [hg'] at j1;cases j1
    have ns:sb≠oo:=by rintro rfl;rw [hg'] at j2;cases j2
    have nb:bb≠oo:=by rintro rfl;rw [hg'] at j3;cases j3
    have nv:vb≠oo:=by rintro rfl;rw [hg'] at j4;cases j4
    have ny:yb≠oo:=by rintro rfl;rw [hg'] at j5;cases j5
    have nc:cb≠oo:=by rintro rfl;rw [hg'] at j6;cases j6
    by_cases hk:k<z
    · have hiw:i<w'.length:=by omega
      have hkm:r.lo+(k:Int)≤r.hi:=by omega
      have e3:IntKind.i64.wrap ((i:Int)+1)=((i+1:Nat):Int):=wrap_succ (n:=1000000) (by omega) (by decide)
      have keep:∀{o x y},o≠oo→getH H' o=y→getH (setH H' oo x) o=y:=fun ho hy=>by rw [getH_setH,if_neg (fun h=>ho h.1),hy]
      have hw2:(w'.set i (r.lo+k)).length=v.drift.length:=by rw [List.length_set];exact hw'
      have ht2:(w'.set i (r.lo+k)).take i=w.take i:=by rw [List.take_set_of_le (Nat.le_refl _)];exact ht'
      have ht3:(w'.set i (r.lo+k)).take (i+1)=w.take i++[r.lo+k]:=by
        rw [take_getD (by omega) default,ht2];congr 2;rw [getD_lt _ _ _ (by omega)];simp
      have hS2:∀{x},KeepX SoftX n H' (setH H' oo x):=KeepX.set hno (.inr (.inr ⟨_,hg'⟩))
      have hC2:∀{x},KeepX ChX m H' (setH H' oo x):=KeepX.set (by omega) (.inl ⟨_,hg'⟩)
      have hgp:∀{x},getH (setH H' oo x) oo=x:=by intro x;rw [getH_setH,if_pos ⟨rfl,loo⟩]
      have j6':=fun x=>keep (x:=x) nc j6
      have nc':¬oo=cb:=fun h=>nc h.symm
      simp only [go_sem,hkm,j1,j4,j6',hg',i0,i1,hat,e3,nth_row hiw,setNth_map]
      have hr1:List.range z=List.range k++(k::(List.range z).drop (k+1)):=by
        have:=List.take_append_drop k (List.range z)
        rw [List.take_range,Nat.min_eq_left (by omega),List.drop_eq_getElem_cons (by simp;omega)] at this
        simpa using this.symm
      rw [hr1,List.flatMap_append,FoldL_append,hf,List.flatMap_cons,FoldL_append] at hC
      refine (cho_ok hv hmn hno hR hF hFh rem (i+1) (w'.set i (r.lo+k)) s' _ (by rw [length_setH];have:=hK.1;omega) (by rw [ht3];exact hC.2.1) (by omega) hw2 (hR _ _ _ hR' hS2) hgp (keep nd j1) (keep ns j2) (keep nb j3) (keep nv j4) (keep ny j5) (keep nc j6)).mono ?_
      rintro v' H3 ⟨rfl,hk3,hr3,w3,hg3,hw3,ht4⟩
      rw [ht3] at hr3 ht4
      simp only [go_sem,e2]
      refine ⟨(k+1,_,H3,w3),⟨by simp only;omega,hk,hK.trans (hC2.trans hk3),hr3,hg3,hw3,?_,?_⟩,rfl,rfl⟩
      · have:=congrArg (List.take i) ht4
        rw [List.take_take,Nat.min_eq_left (by omega),List.take_append_of_le_length (by simp;omega),List.take_take,Nat.min_self] at this
        exact this
      · rw [List.range_succ,List.flatMap_append,List.foldl_append,hf]
        simp only [List.flatMap_cons,List.flatMap_nil,List.append_nil];rfl
    · have:k=z:=by omega
      subst this
      have hkk:¬r.lo+(k:Int)≤r.hi:=by omega
      simp only [go_sem,j4,i0,i1,hat,hkk,hf]
      exact ⟨hK,hR',w',hg',hw',ht'⟩
end
end Am.Vt
namespace Am.Vt
open Go Am
set_option maxRecDepth 100000
set_option maxHeartbeats 4000000
set_option linter.unusedSimpArgs false
set_option linter.unusedVariables false
variable {g1 g2 g3 g4 g5 g gt:Bool × Bool} {j:Job} {v:Vat} {plan:List Stp} {t:Truth}
def allP (v:Vat):List Truth:=(List.range (szN v.start)).flatMap fun (a:Nat)=>(List.range (szN v.blue)).flatMap fun (b:Nat)=>(listsF v.drift []).map fun w=>⟨v.start.lo+a,v.blue.lo+b,w⟩
theorem FoldL_map {σ α β:Type} {C:σ→β→Prop} {step:σ→β→σ} {f:α→β}:∀{l:List α} {s:σ},FoldL C step s (l.map f)↔FoldL (fun s w=>C s (f w)) (fun s w=>step s (f w)) s l
  | [],s=>Iff.rfl
  | w::l,s=>by simp only [List.map_cons,FoldL,FoldL_map (l:=l)]
theorem not_any {cs:List C} (h1:∀n,cs≠[.int .i64 n]) (h2:cs≠[.nilfn]) (h3:cs.length≠18):¬AnyX (.cells cs):=by
  rintro ((⟨n,h⟩ | h | ⟨_,h⟩) | ⟨_,h⟩ | ⟨_,_,_,_,h⟩ | ⟨_,_,_,h⟩ | ⟨_,h,h'⟩)
  · cases h;exact h1 _ rfl
  · cases h;exact h2 rfl
  · cases h
  · cases h
  · cases h
  · cases h
  · cases h;exact h3 h'
theorem not_ch {cs:List C} (hl:cs.length≠18):¬ChX (.cells cs):=by
  rintro (⟨_,h⟩ | ⟨_,h⟩ | ⟨_,_,_,_,h⟩ | ⟨_,_,_,h⟩ | ⟨_,h,h'⟩)
  · cases h
  · cases h
  · cases h
  · cases h
  · cases h;exact hl h'
theorem ch_any {x:Obj} (h:ChX x):AnyX x:=h.elim (fun h=>.inl (.inr (.inr h))) .inr
theorem range_cut {z k:Nat} (hk:k<z):List.range z=List.range k++(k::(List.range z).drop (k+1)):=by
  have:=List.take_append_drop k (List.range z)
  rw [List.take_range,Nat.min_eq_left (by omega),List.drop_eq_getElem_cons (by simp;omega)] at this
  simpa using this.symm
section
variable {σ:Type} {F:C} {R:σ→List Obj→Prop} {step:σ→Truth→σ} {C0:σ→Truth→Prop} {m jb:Nat}
def tst (v:Vat) (step:σ→Truth→σ) (s:σ) (t:Truth):σ:=if provesTruth v t=true then step s t else s
def tC (v:Vat) (C0:σ→Truth→Prop) (s:σ) (t:Truth):Prop:=provesTruth v t=true→C0 s t
theorem truthsP_ok (hv:j.vat.Valid) {H:List Obj} (hm:m≤H.length) (hkn:known [F]=true) (hFa:∀n,F ≠ .int .i64 n) (hFb:F ≠ .nilfn) (hR:∀s H1 H2,R s H1→KeepX SoftX H.length H1 H2→R s H2) (hF:PYield j.vat (H.length+4) m (H.length+2) C0 F R step)
    (hj:getH H jb = .cells (jobC g1 g2 g3 g4 g5 j)) {s:σ} (hRs:R s H) (hC:FoldL (tC j.vat C0) (tst j.vat step) s (allP j.vat)) :
    Fn tab (.f 162 [.c F,.c (.ptr jb 0)] H) fun _ H'=>KeepX AnyX m H H'∧R ((allP j.vat).foldl (tst j.vat step) s) H':=by
  refine Fn_X (fn:=f162) rfl rfl ?_
  have ljb:=lt_of_getH (h:=H) (o:=jb) (by rw [hj];simp)
  have njb:¬jb=H.length:=by omega
  have v1:=hv.drift
  have v4:=hv.last7
  have vs:=hv.start
  have vb:=hv.blue
  have b1:(j.vat.drift.length:Int)*8≤2^40:=by omega
  have b0:(0:Int)≤(j.vat.drift.length:Nat):=by omega
  have hrep:List.replicate j.vat.drift.length [D.int .i64 0]=(List.replicate j.vat.drift.length (0:Int)).map Row.row:=by rw [List.map_replicate];rfl
  simp only [go_sem,f162,hkn,getH_left,ljb,hj,b1,b0,hrep]
  obtain ⟨H0,hH0⟩:∃H0,H0=H++[.cells [F],.cells (vatC g1 g2 g3 g4 j.vat),.arr false 0 1 ((List.replicate j.vat.drift.length (0:Int)).map Row.row),.cells [.sl (H.length+2) 0 0 j.vat.drift.length]]:=⟨_,rfl⟩
  have l0:H0.length=H.length+4:=by rw [hH0];simp
  have q0:getH H0 H.length = .cells [F]:=by rw [hH0];simp only [go_sem]
  have q1:getH H0 (H.length+1) = .cells (vatC g1 g2 g3 g4 j.vat):=by rw [hH0];simp only [go_sem]
  have q2:getH H0 (H.length+2) = .arr false 0 1 ((List.replicate j.vat.drift.length (0:Int)).map Row.row):=by rw [hH0];simp only [go_sem]
  have q3:getH H0 (H.length+3) = .cells [.sl (H.length+2) 0 0 j.vat.drift.length]:=by rw [hH0];simp only [go_sem]
  have hK0:KeepX AnyX m H H0:=by rw [hH0];exact KeepX.app
  have hR0:R s H0:=by rw [hH0];exact hR _ _ _ hRs KeepX.app
  have nF:¬AnyX (.cells [F]):=not_any (fun n h=>hFa n (by injection h)) (fun h=>hFb (by injection h)) (by simp)
  have nV:¬AnyX (.cells (vatC g1 g2 g3 g4 j.vat)):=not_any (fun n h=>by simp [vatC] at h) (fun h=>by simp [vatC] at h) (by simp [vatC])
  have nD:¬AnyX (.cells [.sl (H.length+2) 0 0 j.vat.drift.length]):=not_any (fun n h=>by simp at h) (fun h=>by simp at h) (by simp)
  have e0:H++[.cells [F],.cells (vatC g1 g2 g3 g4 j.vat),.arr false 0 1 ((List.replicate j.vat.drift.length (0:Int)).map Row.row),.cells [.sl (H.length+2) 0 0 j.vat.drift.length],.cells [.int .i64 j.vat.start.lo]]=H0++[.cells [.int .i64 j.vat.start.lo]]:=by rw [hH0];simp
  have nFh:¬HardX (.cells [F]):=fun h=>nF (.inr h)
  obtain ⟨zs,hzs⟩:∃zs,zs=szN j.vat.start:=⟨_,rfl⟩
  obtain ⟨zb,hzb⟩:∃zb,zb=szN j.vat.blue:=⟨_,rfl⟩
  have hzs':(zs:Int)=j.vat.start.hi+1-j.vat.start.lo:=by rw [hzs];unfold szN;omega
  have hzb':(zb:Int)=j.vat.blue.hi+1-j.vat.blue.lo:=by rw [hzb];unfold szN;omega
  let gb:=fun (a b:Nat)=>(listsF j.vat.drift []).map fun w=>(⟨j.vat.start.lo+a,j.vat.blue.lo+b,w⟩:Truth)
  let ga:=fun (a:Nat)=>(List.range zb).flatMap (gb a)
  have hall:allP j.vat=(List.range zs).flatMap ga:=by rw [hzs];show _=(List.range (szN j.vat.start)).flatMap fun a=>(List.range zb).flatMap (gb a);rw [hzb];rfl
  rw [hall] at hC ⊢
  -- what holds throughout
  let Inv:=fun (s':σ) (H':List Obj) (w:List Int)=>KeepX AnyX m H0 H'∧R s' H'∧getH H' (H.length+2) = .arr false 0 1 (w.map Row.row)∧w.length=j.vat.drift.length
  have hsoft:∀{s':σ} {H' H'':List Obj} {w:List Int},Inv s' H' w→KeepX SoftX H.length H' H''→getH H'' (H.length+2)=getH H' (H.length+2)→Inv s' H'' w:=fun h hk hg=>⟨h.1.trans (hk.mono hm fun x=>.inl),hR _ _ _ h.2.1 hk,by rw [hg];exact h.2.2.1,h.2.2.2⟩
  simp only [vatC,hrep] at e0
  rw [e0]
  refine RX_whileU (α:=Nat × Nat × σ × List Obj × List Int) (fun x=>[(5,.c (.ptr x.2.1 0))]) (fun x=>x.2.2.2.1) (fun x=>x.1≤zs∧Inv x.2.2.1 x.2.2.2.1 x.2.2.2.2∧H.length+4≤x.2.1∧getH x.2.2.2.1 x.2.1 = .cells [.int .i64 (j.vat.start.lo+(x.1:Int))]∧((List.range x.1).flatMap ga).foldl (tst j.vat step) s=x.2.2.1) (fun x=>zs-x.1) (0,H.length+4,s,H0++[.cells [.int .i64 j.vat.start.lo]],List.replicate j.vat.drift.length 0) ⟨Nat.zero_le _,⟨KeepX.app,hR _ _ _ hR0 KeepX.app,getH_keep q2 (by simp),by simp⟩,Nat.le_refl _,by rw [getH_atL0 l0];simp [getH],rfl⟩ (by simp only [go_sem]<;>rfl) ?_
  rintro ⟨a,o,s1,H1,w1⟩ ⟨ha,hI1,ho,hso,hf1⟩
  simp only at ha hI1 ho hso hf1
  have k1:=hI1.1.get q1 (by simp) nV
  have lo1:=lt_of_getH (h:=H1) (o:=o) (by rw [hso];simp)
  have lv1:=lt_of_getH (h:=H1) (o:=H.length+1) (by rw [k1];simp)
  have lk1:=hI1.1.1
  by_cases hlt:a<zs
  · have hle:j.vat.start.lo+(a:Int)≤j.vat.start.hi:=by omega
    rw [range_cut hlt,List.flatMap_append,FoldL_append,hf1,List.flatMap_cons,FoldL_append] at hC
    have hCa:=hC.2.1
    change FoldL _ _ s1 ((List.range zb).flatMap (gb a)) at hCa
    simp only [go_sem,k1,hso,hle,getH_left,lv1,lo1]
    have l1:H1.length≠o:=by omega
    refine RX_whileU (α:=Nat × Nat × σ × List Obj × List Int) (fun x=>[(6,.c (.ptr x.2.1 0))]) (fun x=>x.2.2.2.1) (fun x=>x.1≤zb∧Inv x.2.2.1 x.2.2.2.1 x.2.2.2.2∧o<x.2.1∧getH x.2.2.2.1 o = .cells [.int .i64 (j.vat.start.lo+(a:Int))]∧getH x.2.2.2.1 x.2.1 = .cells [.int .i64 (j.vat.blue.lo+(x.1:Int))]∧((List.range x.1).flatMap (gb a)).foldl (tst j.vat step) s1=x.2.2.1) (fun x=>zb-x.1) (0,H1.length,s1,H1++[.cells [.int .i64 j.vat.blue.lo]],w1) ⟨Nat.zero_le _,hsoft hI1 KeepX.app (getH_left (by omega)),lo1,getH_keep hso (by simp),by rw [getH_at0];simp [getH],rfl⟩ (by simp only [go_sem]<;>rfl) ?_
    rintro ⟨b,o2,s2,H2,w2⟩ ⟨hb,hI2,ho2,hso2,hbo2,hf2⟩
    simp only at hb hI2 ho2 hso2 hbo2 hf2
    have k2:=hI2.1.get q1 (by simp) nV
    have lo2:=lt_of_getH (h:=H2) (o:=o) (by rw [hso2];simp)
    have lb2:=lt_of_getH (h:=H2) (o:=o2) (by rw [hbo2];simp)
    have lv2:=lt_of_getH (h:=H2) (o:=H.length+1) (by rw [k2];simp)
    have lk2:=hI2.1.1
    by_cases hlt2:b<zb
    · have hle2:j.vat.blue.lo+(b:Int)≤j.vat.blue.hi:=by omega
      rw [range_cut hlt2,List.flatMap_append,FoldL_append,hf2,List.flatMap_cons,FoldL_append] at hCa
      have hCb:=hCa.2.1
      change FoldL _ _ s2 ((listsF j.vat.drift []).map fun w=>(⟨j.vat.start.lo+a,j.vat.blue.lo+b,w⟩:Truth)) at hCb
      have hCb:=FoldL_map.1 hCb
      simp only [go_sem,k2,hbo2,hle2,getH_left,lv2,lo2,lb2]
      obtain ⟨H3,hH3⟩:∃H3,H3=H2++[.cells [.fn 163 false [] [.ptr (H.length+3) 0,.ptr o 0,.ptr o2 0,.ptr (H.length+1) 0,.ptr H.length 0,.ptr H2.length 0]]]:=⟨_,rfl⟩
      rw [←hH3]
      have l3:H3.length=H2.length+1:=by rw [hH3];simp
      have hI3:Inv s2 H3 w2:=hsoft hI2 (by rw [hH3];exact KeepX.app) (by rw [hH3];exact getH_left (by omega))
      have c3:getH H3 H2.length = .cells [.fn 163 false [] [.ptr (H.length+3) 0,.ptr o 0,.ptr o2 0,.ptr (H.length+1) 0,.ptr H.length 0,.ptr H2.length 0]]:=by rw [hH3];simp only [go_sem]
      have so3:getH H3 o = .cells [.int .i64 (j.vat.start.lo+(a:Int))]:=by rw [hH3];exact getH_keep hso2 (by simp)
      have bo3:getH H3 o2 = .cells [.int .i64 (j.vat.blue.lo+(b:Int))]:=by rw [hH3];exact getH_keep hbo2 (by simp)
      refine (cho_ok (g1:=g1) (g2:=g2) (g3:=g3) (g4:=g4) (v:=j.vat) (F:=F) (R:=R) (step:=step) (C0:=C0) (oo:=H.length+2) (n:=H.length) (m:=m) (N:=H.length+4) hv hm (by omega) hR hF nFh (db:=H.length+3) (sb:=o) (bb:=o2) (vb:=H.length+1) (yb:=H.length) (cb:=H2.length) (st:=j.vat.start.lo+a) (bl:=j.vat.blue.lo+b) j.vat.drift.length 0 w2 s2 H3 (by omega) (by rw [List.drop_zero,List.take_zero];exact hCb) (by omega) hI3.2.2.2 hI3.2.1 hI3.2.2.1 (hI3.1.get q3 (by simp) nD) so3 bo3 (hI3.1.get q1 (by simp) nV) (hI3.1.get q0 (by simp) nF) c3).mono ?_
      rintro r H4 ⟨rfl,hk4,hr4,w4,hg4,hw4,_⟩
      rw [List.drop_zero,List.take_zero] at hr4
      have hI4:Inv (((gb a b).foldl (tst j.vat step) s2)) H4 w4:=⟨hI3.1.trans (hk4.mono (Nat.le_refl _) fun x=>ch_any),by
        show R (((listsF j.vat.drift []).map fun w=>(⟨j.vat.start.lo+a,j.vat.blue.lo+b,w⟩:Truth)).foldl (tst j.vat step) s2) H4
        rw [List.foldl_map];exact hr4,hg4,hw4⟩
      have so4:=hk4.get so3 (by simp) (not_ch (by simp))
      have bo4:=hk4.get bo3 (by simp) (not_ch (by simp))
      have lo4:=lt_of_getH (h:=H4) (o:=o) (by rw [so4];simp)
      have lb4:=lt_of_getH (h:=H4) (o:=o2) (by rw [bo4];simp)
      have e2:IntKind.i64.wrap (j.vat.blue.lo+b+1)=j.vat.blue.lo+((b+1:Nat):Int):=by rw [wrapB (by omega) (by omega)];omega
      have l4:=hk4.1
      simp only [go_sem,bo4,e2,getH_left,lb4]
      have hI5:Inv (((gb a b).foldl (tst j.vat step) s2)) (H4++[.cells [.int .i64 (j.vat.blue.lo+((b+1:Nat):Int))]]) w4:=hsoft hI4 KeepX.app (getH_left (by omega))
      refine ⟨(b+1,H4.length,_,_,w4),⟨by simp only;omega,hlt2,hI5,by simp only;omega,getH_keep so4 (by simp),by rw [getH_at0];simp [getH],?_⟩,rfl,rfl⟩
      rw [List.range_succ,List.flatMap_append,List.foldl_append,hf2]
      simp only [List.flatMap_cons,List.flatMap_nil,List.append_nil]
    · have:b=zb:=by omega
      subst this
      have hle2:¬j.vat.blue.lo+(b:Int)≤j.vat.blue.hi:=by omega
      have e2:IntKind.i64.wrap (j.vat.start.lo+a+1)=j.vat.start.lo+((a+1:Nat):Int):=by rw [wrapB (by omega) (by omega)];omega
      simp only [go_sem,k2,hbo2,hle2,hso2,e2,getH_left,lv2,lo2,lb2]
      refine ⟨(a+1,H2.length,s2,_,w2),⟨by simp only;omega,hlt,hsoft hI2 KeepX.app (getH_left (by omega)),by simp only;omega,by rw [getH_at0];simp [getH],?_⟩,rfl,rfl⟩
      rw [List.range_succ,List.flatMap_append,List.foldl_append,hf1]
      simp only [List.flatMap_cons,List.flatMap_nil,List.append_nil]
      exact hf2
  · have:a=zs:=by omega
    subst this
    have hle:¬j.vat.start.lo+(a:Int)≤j.vat.start.hi:=by omega
    simp only [go_sem,k1,hso,hle]
    rw [hf1]
    exact ⟨hK0.trans hI1.1,hI1.2.1⟩
end
end Am.Vt
