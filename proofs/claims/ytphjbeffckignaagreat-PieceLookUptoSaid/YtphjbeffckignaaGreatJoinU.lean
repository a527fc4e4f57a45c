/-
  A part of the proof: the texts VtU of this seat, joined.
-/
import Derived.Test.YtphjbeffckignaaGreatJoin
import Derived.Test.YtphjbeffckignaaGreatRows
open Go Go.Proofs Am Go.Proofs.YtphjbeffckignaaGreat
namespace Am.Vt
set_option maxRecDepth 1000000
set_option linter.unusedVariables false
theorem bulk_one {H:Type} (d:DataW H):1≤Rows.uptoBulk d:=by
  cases d with
  | lit l=>cases l<;>simp [Rows.uptoBulk]
  | nil=>simp [Rows.uptoBulk]
  | ptr d=>simp [Rows.uptoBulk]
  | slice elems spare=>simp [Rows.uptoBulk]
  | agg parts=>simp [Rows.uptoBulk]
  | iface t d=>simp [Rows.uptoBulk]
  | map entries=>simp [Rows.uptoBulk]
  | held h=>simp [Rows.uptoBulk]
theorem bulk_part {H:Type} {d:DataW H} {l:List (DataW H)} (h:d∈l):Rows.uptoBulk d≤Rows.uptoBulkAll l:=by
  induction l with
  | nil=>cases h
  | cons x r ih=>
    simp only [Rows.uptoBulkAll]
    cases List.mem_cons.1 h with
    | inl e=>subst e;omega
    | inr e=>have:=ih e;omega
theorem bulk_len {H:Type} (l:List (DataW H)):l.length≤Rows.uptoBulkAll l:=by
  induction l with
  | nil=>simp [Rows.uptoBulkAll]
  | cons x r ih=>have:=bulk_one x;simp only [Rows.uptoBulkAll,List.length_cons];omega
theorem job_bulk {w:World} {H:Type} {enc:TypeId × Value→H} {v:Value} {d:DataW H} {ps:List MemPlace} {j:Job} (hr:RV (argE (fun _=>False) w) (jobW0 j) v) (h:DataW.Trod enc Tryz.prog w 0 (fun _=>true) true 33 v d ps) :
    j.vat.looks.length≤Rows.uptoBulk d:=by
  obtain ⟨fuel,h⟩:=h
  cases hr with
  | @agg cs vs hn hc=>
    obtain ⟨xs,n,_,hd,hl,hx,hf⟩:=DataW.trod_struct Tryz.underlying33 h
    have hd1:d = .agg (xs.map (·.1)):=congrArg Prod.fst hd
    have h8:=hc 11 (L (false,false) j.vat.looks) rfl
    have k0:=hf 0 _ rfl
    obtain ⟨x0,hx0⟩:∃y,xs[0]?=some y:=by
      have:xs.length=5:=hx
      exact ⟨_,List.getElem?_eq_getElem (by omega)⟩
    rw [hx0] at k0
    have k0':DataW.trod enc Tryz.prog w 0 (fun _=>true) true n 29 ((vs.toList.drop 0).take (Tryz.prog.cellsOf 29))=some x0:=k0
    have hsv:Tryz.prog.cellsOf 29=12:=by kernel_rfl
    obtain ⟨ys,n2,_,ed,_,ex,ef⟩:=DataW.trod_struct Tryz.underlying29 k0'
    have ed1:x0.1 = .agg (ys.map (·.1)):=congrArg Prod.fst ed
    have k8:=ef 9 _ rfl
    obtain ⟨x8,hx8⟩:∃y,ys[9]?=some y:=by
      have:ys.length=10:=ex
      exact ⟨_,List.getElem?_eq_getElem (by omega)⟩
    rw [hx8] at k8
    have hsz:Tryz.prog.cellsOf 27=1:=by kernel_rfl
    have hmem:Rows.uptoBulk x8.1≤Rows.uptoBulk d:=by
      have h1:x8.1∈ys.map (·.1):=List.mem_map.2 ⟨x8,List.mem_of_getElem? hx8,rfl⟩
      have e1:=bulk_part h1
      have h2:x0.1∈xs.map (·.1):=List.mem_map.2 ⟨x0,List.mem_of_getElem? hx0,rfl⟩
      have e2:=bulk_part h2
      rw [hd1];rw [ed1] at e2;simp only [Rows.uptoBulk] at e2 ⊢;omega
    refine Nat.le_trans ?_ hmem
    have hcell:∀u:Value,((((vs.toList.drop 0).take (Tryz.prog.cellsOf 29)).drop 11).take (Tryz.prog.cellsOf 27))=[u]→vs.getD 11 undef=u:=fun u hu=>by
      rw [hsz,hsv] at hu
      have:vs.toList[11]?=some u:=by
        have:=congrArg (fun l:List Value=>l[0]?) hu
        simpa [List.getElem?_take,List.getElem?_drop] using this
      rw [Array.getElem?_toList] at this
      simp [Array.getD_eq_getD_getElem?,this]
    have hL:L (false,false) j.vat.looks = .lst false (j.vat.looks.map Row.row):=rfl
    rw [hL] at h8
    rcases DataW.trod_slice Tryz.underlying27 k8 with ⟨hcs,e⟩ | ⟨a,len,cap,elems,rest,n',_,hcs,e,_,_,_,hel,_⟩
    · rw [hcell _ hcs] at h8
      cases h8 with
      | lst hrd=>
        generalize hrows:j.vat.looks.map (Row.row (α:=Lk))=rows at hrd
        have hl2:j.vat.looks.length=rows.length:=by rw [←hrows,List.length_map]
        cases hrd with
        | nil=>rw [hl2];simp
    · rw [hcell _ hcs] at h8
      cases h8 with
      | lst hrd=>
        generalize hrows:j.vat.looks.map (Row.row (α:=Lk))=rows at hrd
        have hl2:j.vat.looks.length=rows.length:=by rw [←hrows,List.length_map]
        cases hrd with
        | nil=>rw [hl2];simp
        | lst sz vs' hK hcap hs hc' hr'=>
          rw [hl2,e]
          simp only [Rows.uptoBulk]
          have:=bulk_len (elems.map (·.1))
          rw [List.length_map] at this
          omega
end Am.Vt
