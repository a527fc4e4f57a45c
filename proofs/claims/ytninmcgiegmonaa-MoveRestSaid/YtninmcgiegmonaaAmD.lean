/-
  A part of the proof: the texts Am10, Am11, Am12, Am13, Am14, Am15 of this seat, joined.
-/
import Derived.Test.YtninmcgiegmonaaAmC
namespace Am
open Go
variable {P:Program} {cfg:Cfg}
section
variable {h:List Obj} {pl:Nat→Pl} {fo:Kept} {w:World} {s:List V} {ρ:Operand→Value}
def RRows (K:Kept) (w:World) (sz:Nat) (rows:List (List D)) (arr:Array Value):Prop:=
  (∀(i:Nat) (row:List D),nth rows i=some row→row.length=sz) ∧
  ∀(i:Nat) (row:List D) (j:Nat) (d:D),nth rows i=some row→nth row j=some d→∃v,arr[i*sz+j]?=some v∧RD K w d v
theorem RRows.mono {K K':Kept} {w w':World} {sz:Nat} {rows:List (List D)} {arr:Array Value} (h:RRows K w sz rows arr) (hK:∀b,K b→K' b) (hw:∀b i x,K b→cellAt w b i=some x→cellAt w' b i=some x):RRows K' w' sz rows arr:=
  ⟨h.1,fun i row j d a b=>let ⟨v,e,r⟩:=h.2 i row j d a b;⟨v,e,r.mono hK hw⟩⟩
def Freezes (h:List Obj) (wr:Wr):Prop:=∀p∈wr,∃fz ver sz rows,getH h p.1 = .arr fz ver sz rows∧p.2 = .arr true ver sz rows
theorem RW.freezes : ∀(wr:Wr) {h:List Obj},Freezes h wr→RW P cfg h pl fo w→RW P cfg (applyW h wr) pl fo w∧HLe h pl (applyW h wr) pl∧Fr h pl w (applyW h wr) pl w ∧
    (∀o fz ver sz rows,getH h o = .arr fz ver sz rows→∃fz',getH (applyW h wr) o = .arr fz' ver sz rows∧(fz=true→fz'=true)∧(o∈wr.map (·.1)→fz'=true)) ∧
    (∀o,(∀fz ver sz rows,getH h o ≠ .arr fz ver sz rows)→getH (applyW h wr) o=getH h o)∧(applyW h wr).length=h.length
  | [],h,_,hW=>⟨hW,HLe.refl _ _,Fr.refl _ _ _,fun o fz ver sz rows e=>⟨fz,e,id,fun hm=>by cases hm⟩,fun _ _=>rfl,rfl⟩
  | (o,x)::wr,h,hf,hW=>by
    obtain ⟨fz,ver,sz,rows,e1,e2⟩:=hf (o,x) (by simp)
    simp only at e1 e2
    subst e2
    have hol:=getH_lt (l:=h) (i:=o) (by rw [e1];simp)
    obtain ⟨a1,a2,a3⟩:=hW.frozen e1
    have hg:∀o',getH (setH h o (.arr true ver sz rows)) o'=if o'=o then .arr true ver sz rows else getH h o':=fun o'=>by
      rw [getH_setH];by_cases e:o'=o
      · rw [if_pos ⟨e,hol⟩,if_pos e]
      · rw [if_neg (fun a=>e a.1),if_neg e]
    obtain ⟨b1,b2,b3,b4,b5,b6⟩:=RW.freezes wr (h:=setH h o (.arr true ver sz rows)) (fun p hp=>by
      obtain ⟨f1,v1,s1,r1,q1,q2⟩:=hf p (by simp [hp])
      rw [hg]
      by_cases e:p.1=o
      · rw [if_pos e]
        rw [e,e1] at q1;cases q1
        exact ⟨_,_,_,_,rfl,q2⟩
      · rw [if_neg e];exact ⟨f1,v1,s1,r1,q1,q2⟩) a1
    refine ⟨b1,a2.trans b2,a3.trans b3,fun o' f1 v1 s1 r1 q1=>?_,fun o' hn=>?_,by show (applyW (setH h o _) wr).length=_;rw [b6,setH_len]⟩
    · by_cases e:o'=o
      · subst e
        rw [e1] at q1;cases q1
        obtain ⟨f2,q2,q3,q4⟩:=b4 o' true ver sz rows (by rw [hg,if_pos rfl])
        exact ⟨f2,q2,fun _=>q3 rfl,fun _=>q3 rfl⟩
      · obtain ⟨f2,q2,q3,q4⟩:=b4 o' f1 v1 s1 r1 (by rw [hg,if_neg e];exact q1)
        refine ⟨f2,q2,q3,fun hm=>q4 ?_⟩
        simp only [List.map_cons,List.mem_cons] at hm
        rcases hm with hm | hm
        · exact (e hm).elim
        · exact hm
    · show getH (applyW (setH h o _) wr) o'=_
      have hne:o'≠o:=fun e=>hn fz ver sz rows (e ▸ e1)
      rw [b5 o' (by rw [hg,if_neg hne];exact hn),hg,if_neg hne]
theorem freeze_ok {ks:List Nat} (hk:∀o∈ks,∃fz ver sz rows,getH h o = .arr fz ver sz rows):Freezes h (freeze h ks)∧(freeze h ks).map (·.1)=ks:=by
  induction ks with
  | nil=>exact ⟨fun p hp=>(by cases hp),rfl⟩
  | cons o ks ih=>
    obtain ⟨fz,ver,sz,rows,e⟩:=hk o (by simp)
    obtain ⟨a,b⟩:=ih (fun o' ho=>hk o' (by simp [ho]))
    refine ⟨fun p hp=>?_,?_⟩
    · simp only [freeze,List.map_cons,e,List.mem_cons] at hp
      rcases hp with rfl | hp
      · exact ⟨fz,ver,sz,rows,e,rfl⟩
      · exact a p hp
    · simp only [freeze,List.map_cons,e]
      show o::(freeze h ks).map (·.1)=o::ks
      rw [b]
theorem toD_ks {c:C} {d:D} {ks:List Nat} (h1:toD h c=some (d,ks)):∀o∈ks,∃fz ver sz rows,getH h o = .arr fz ver sz rows:=by
  intro o ho
  cases c with
  | lst t rows=>cases t<;>cases h1;cases ho
  | sl o' ver off len=>
    simp only [toD] at h1
    split at h1
    · rename_i fz ver' sz rows e
      split at h1
      · cases hp:part off len rows with
        | none=>rw [hp] at h1;cases h1
        | some r=>rw [hp] at h1;cases h1;simp at ho;subst ho;exact ⟨_,_,_,_,e⟩
      · cases h1
    · cases h1
  | int=>cases h1;cases ho
  | bool=>cases h1;cases ho
  | nils=>cases h1;cases ho
  | any=>cases h1
  | ptr=>cases h1
  | aptr=>cases h1
  | ept=>cases h1
  | map=>cases h1
  | fn=>cases h1
  | yld=>cases h1
  | nilfn=>cases h1
  | nilp=>cases h1
  | psl=>cases h1
  | ls=>cases h1
  | lpt=>cases h1
theorem toD_frozen (hW:RW P cfg h pl fo w) {c:C} {d:D} {ks:List Nat} {v:Value} {h':List Obj} {w':World} {pl':Nat→Pl} (hr:R (mkEnv h pl fo w) c v) (h1:toD h c=some (d,ks)) (hE:(mkEnv h pl fo w).Le (mkEnv h' pl' fo w'))
    (hK:∀o∈ks,∀b,(pl o).blk=some b→(mkEnv h' pl' fo w').K0 b) (hw:∀b i x,b<w.heap.size→cellAt w b i=some x→(mkEnv h' pl' fo w').K0 b→cellAt w' b i=some x):RD (mkEnv h' pl' fo w').K0 w' d v:=by
  cases hks:ks with
  | nil=>subst hks;exact (toD_ok hr h1).mono hE.k0 hE.w0
  | cons o ks'=>
    cases c with
    | sl o' ver off len=>
      have h1':=h1
      simp only [toD] at h1
      split at h1
      · rename_i fz ver' sz rows e
        split at h1
        · rename_i ev;subst ev
          cases hp:part off len rows with
          | none=>rw [hp] at h1;cases h1
          | some r=>
            rw [hp] at h1
            simp only [Option.map_some,Option.some.injEq,Prod.mk.injEq] at h1
            obtain ⟨rfl,hks2⟩:=h1
            have hmem:o'∈ks:=by rw [←hks2];simp
            have hdat:=sl_data (K:=(mkEnv h' pl' fo w').K0) hW hr e hp hE.k0 (fun b hb=>hK o' hmem b hb)
            -- the cells as they are now
            have:∀{K:Kept} {d:D} {v:Value},RD K w d v→(∀b,K b→(mkEnv h' pl' fo w').K0 b)→(∀b,K b→b<w.heap.size)→RD (mkEnv h' pl' fo w').K0 w' d v:=fun hrd a b=>
              hrd.mono a (fun b' i x hk hx=>hw b' i x (b b' hk) hx (a b' hk))
            refine this (K:=fun b=>(mkEnv h' pl' fo w').K0 b∧b<w.heap.size) ?_ (fun b hb=>hb.1) (fun b hb=>hb.2)
            exact sl_data hW hr e hp (fun b hb=>⟨hE.k0 b hb,hb.1⟩) (fun b hb=>⟨hK o' hmem b hb,hW.lt (by rw [e];simp) hb⟩)
        · cases h1
      · cases h1
    | lst t rows=>cases t<;>cases h1;cases hks
    | int=>cases h1;cases hks
    | bool=>cases h1;cases hks
    | nils=>cases h1;cases hks
    | any=>cases h1
    | ptr=>cases h1
    | aptr=>cases h1
    | ept=>cases h1
    | map=>cases h1
    | fn=>cases h1
    | yld=>cases h1
    | nilfn=>cases h1
    | nilp=>cases h1
    | psl=>cases h1
    | ls=>cases h1
    | lpt=>cases h1
theorem toDs_ks : ∀{cs:List C} {ds:List D} {ks:List Nat},toDs h cs=some (ds,ks)→∀o∈ks,∃fz ver sz rows,getH h o = .arr fz ver sz rows
  | [],ds,ks,h1=>by cases h1;intro o ho;cases ho
  | c::cs,ds,ks,h1=>by
    unfold toDs at h1
    split at h1
    · rename_i d k ds' ks' e1 e2
      cases h1
      intro o ho
      rcases List.mem_append.1 ho with ho | ho
      · exact toD_ks e1 o ho
      · exact toDs_ks e2 o ho
    · cases h1
theorem toDs_at : ∀{cs:List C} {ds:List D} {ks:List Nat},toDs h cs=some (ds,ks)→ds.length=cs.length∧∀(i:Nat) (d:D),nth ds i=some d→∃c k,nth cs i=some c∧toD h c=some (d,k)∧∀o∈k,o∈ks
  | [],ds,ks,h1=>by cases h1;exact ⟨rfl,fun i d h=>by cases h⟩
  | c::cs,ds,ks,h1=>by
    unfold toDs at h1
    split at h1
    · rename_i d k ds' ks' e1 e2
      cases h1
      obtain ⟨a,b⟩:=toDs_at e2
      refine ⟨by simp [a],fun i d' hi=>?_⟩
      cases i with
      | zero=>cases hi;exact ⟨c,k,rfl,e1,fun o ho=>List.mem_append_left _ ho⟩
      | succ i=>
        obtain ⟨c',k',q1,q2,q3⟩:=b i d' hi
        exact ⟨c',k',q1,q2,fun o ho=>List.mem_append_right _ (q3 o ho)⟩
    · cases h1
theorem setRows_ks : ∀{ps:List (Nat × Opd)} {sz:Nat} {rows r:List (List D)} {ks:List Nat},setRows s h sz ps rows=some (r,ks)→r.length=rows.length∧∀o∈ks,∃fz ver sz rows,getH h o = .arr fz ver sz rows
  | [],sz,rows,r,ks,h1=>by cases h1;exact ⟨rfl,fun o ho=>by cases ho⟩
  | (i,x)::ps,sz,rows,r,ks,h1=>by
    unfold setRows at h1
    split at h1
    · rename_i ds k e
      split at h1
      · cases h2:setRows s h sz ps (setNth rows i ds) with
        | none=>rw [h2] at h1;cases h1
        | some q=>
          rw [h2] at h1;cases h1
          obtain ⟨a,b⟩:=setRows_ks (r:=q.1) (ks:=q.2) h2
          refine ⟨by rw [a,setNth_len],fun o ho=>?_⟩
          rcases List.mem_append.1 ho with ho | ho
          · cases hl:(x.ev s).laid with
            | none=>rw [hl] at e;cases e
            | some l=>rw [hl] at e;exact toDs_ks e o ho
          · exact b o ho
      · cases h1
    · cases h1
theorem setRows_ok {h':List Obj} {w':World} {pl':Nat→Pl} (hρ:Rho s (mkEnv h pl fo w) ρ) (hE:(mkEnv h pl fo w).Le (mkEnv h' pl' fo w')) {sz:Nat} {KS:List Nat}
    (hfz:∀{c:C} {d:D} {ks:List Nat} {v:Value},R (mkEnv h pl fo w) c v→toD h c=some (d,ks)→(∀o∈ks,o∈KS)→RD (mkEnv h' pl' fo w').K0 w' d v) :
    ∀{ps:List (Nat × Operand)} {ps':List (Nat × Opd)} {rows r:List (List D)} {ks:List Nat} {cells:Array Value},cPartsS ps=some ps'→setRows s h sz ps' rows=some (r,ks)→(∀o∈ks,o∈KS)→rows.length*sz≤cells.size →
    RRows (mkEnv h' pl' fo w').K0 w' sz rows cells→∃cells',Instr.fill (fun i=>some (i*sz,sz)) cells (ps.map fun p=>(p.1,ρ p.2))=some cells'∧cells'.size=cells.size∧RRows (mkEnv h' pl' fo w').K0 w' sz r cells'
  | [],ps',rows,r,ks,cells,h1,h2,_,_,hr=>by cases h1;cases h2;exact ⟨cells,rfl,rfl,hr⟩
  | (i,x)::ps,ps',rows,r,ks,cells,h1,h2,hks,hsz,hr=>by
    unfold cPartsS at h1
    split at h1
    · rename_i y ps2 e1 e2
      cases h1
      unfold setRows at h2
      split at h2
      · rename_i ds k e
        cases hl:(y.ev s).laid with
        | none=>rw [hl] at e;cases e
        | some l=>
          rw [hl] at e
          simp only [Option.bind_some] at e
          split at h2
          · rename_i hc
            cases h3:setRows s h sz ps2 (setNth rows i ds) with
            | none=>rw [h3] at h2;cases h2
            | some q=>
              rw [h3] at h2;cases h2
              obtain ⟨rl,_,_⟩:=laid_ok (hρ x y e1) hl
              obtain ⟨dl,dat⟩:=toDs_at e
              have hvs:(ρ x).cells.size=sz:=by rw [rl.1,←dl];exact hc.1
              have hb:i*sz+sz≤cells.size:=by
                have:(i+1)*sz≤rows.length*sz:=Nat.mul_le_mul_right _ hc.2
                rw [Nat.add_mul,Nat.one_mul] at this;omega
              obtain ⟨f1,f2⟩:=fill_get (i*sz) (ρ x).cells.toList 0 cells (by simp [hvs];omega)
              have hfold:(ρ x).cells.zipIdx.foldl (fun cs (x:Value × Nat)=>cs.setIfInBounds (i*sz+x.2) x.1) cells=((ρ x).cells.toList.zipIdx 0).foldl (fun cs (x:Value × Nat)=>cs.setIfInBounds (i*sz+x.2) x.1) cells:=by
                rw [←Array.foldl_toList];congr 1;simp
              have hget:∀k y,k<cells.size→(((ρ x).cells.toList.zipIdx 0).foldl (fun cs (x:Value × Nat)=>cs.setIfInBounds (i*sz+x.2) x.1) cells).getD k undef=y→(((ρ x).cells.toList.zipIdx 0).foldl (fun cs (x:Value × Nat)=>cs.setIfInBounds (i*sz+x.2) x.1) cells)[k]?=some y:=fun k y hk hy=>by
                rw [←hy,Array.getD_eq_getD_getElem?]
                rw [←f1] at hk
                simp [hk]
              obtain ⟨cells',g1,g2,g3⟩:=setRows_ok hρ hE hfz e2 h3 (fun o ho=>hks o (List.mem_append_right _ ho)) (cells:=(ρ x).cells.zipIdx.foldl (fun cs (x:Value × Nat)=>cs.setIfInBounds (i*sz+x.2) x.1) cells)
                (by rw [setNth_len,hfold,f1];exact hsz) (by
                rw [hfold]
                refine ⟨fun k row hk=>?_,fun k row j d hk hj=>?_⟩
                · rw [nth_setNth] at hk
                  by_cases hki:k=i∧i<rows.length
                  · rw [if_pos hki] at hk;cases hk;exact hc.1
                  · rw [if_neg hki] at hk;exact hr.1 k row hk
                · rw [nth_setNth] at hk
                  by_cases hki:k=i∧i<rows.length
                  · rw [if_pos hki] at hk;cases hk
                    obtain ⟨rfl,_⟩:=hki
                    obtain ⟨c,kk,q1,q2,q3⟩:=dat j d hj
                    have hjl:=nth_lt hj
                    refine ⟨(ρ x).cells.getD j undef,hget _ _ (by rw [hc.1] at hjl;omega) ?_,hfz (rl.2 _ _ q1) q2 (fun o ho=>hks o (List.mem_append_left _ (q3 o ho)))⟩
                    rw [f2,if_pos (by simp [hvs];rw [hc.1] at hjl;omega)]
                    simp only [Nat.add_zero,show k*sz+j-k*sz=j by omega]
                    simp [Array.getD_eq_getD_getElem?,List.getD]
                  · rw [if_neg hki] at hk
                    obtain ⟨y,y1,y2⟩:=hr.2 k row j d hk hj
                    have hkl:=hr.1 k row hk
                    have hjl:=nth_lt hj
                    have hne:k≠i:=fun e=>hki ⟨e,hc.2⟩
                    have hlt:=(Array.getElem?_eq_some_iff.1 y1).1
                    refine ⟨y,hget _ _ hlt ?_,y2⟩
                    rw [f2,if_neg]
                    · simp [Array.getD_eq_getD_getElem?,y1]
                    · simp only [Nat.add_zero,Array.length_toList,hvs]
                      intro hcon
                      rcases Nat.lt_or_gt_of_ne hne with hlt | hlt
                      · have:(k+1)*sz≤i*sz:=Nat.mul_le_mul_right _ hlt
                        rw [Nat.add_mul,Nat.one_mul] at this;omega
                      · have:(i+1)*sz≤k*sz:=Nat.mul_le_mul_right _ hlt
                        rw [Nat.add_mul,Nat.one_mul] at this;omega)
              refine ⟨cells',?_,by rw [g2,hfold,f1],g3⟩
              simp only [List.map_cons,Instr.fill]
              rw [if_neg (by simp [hvs];omega)]
              exact g1
          · cases h2
      · cases h2
    · cases h1
theorem nth_rows {n:Nat} {row r:List D} {i:Nat} (h:nth (rowsOf n row) i=some r):i<n∧r=row:=by
  unfold rowsOf at h
  rw [nth_replicate] at h
  by_cases hi:i<n
  · rw [if_pos hi] at h;cases h;exact ⟨hi,rfl⟩
  · rw [if_neg hi] at h;cases h
theorem zero_rows {K:Kept} {n sz:Nat} {z:List D} {zc:Array Value} (hz:z.length=sz) (hzc:zc.size=sz) (_:1≤sz) (hr:∀(i:Nat) (d:D),nth z i=some d→RD K w d (zc.getD i undef)) :
    RRows K w sz (rowsOf n z) ((Array.range (n*sz)).map (zc[· % zc.size]!)):=by
  refine ⟨fun i row hi=>by rw [(nth_rows hi).2,hz],fun i row j d hi hj=>?_⟩
  obtain ⟨hin,rfl⟩:=nth_rows hi
  have hjl:=nth_lt hj
  have hb:i*sz+j<n*sz:=by
    have:(i+1)*sz≤n*sz:=Nat.mul_le_mul_right _ hin
    rw [Nat.add_mul,Nat.one_mul] at this;omega
  refine ⟨zc.getD j undef,?_,hr j d hj⟩
  have hmod:(i*sz+j) % sz=j:=by rw [Nat.mul_comm,Nat.mul_add_mod];exact Nat.mod_eq_of_lt (by omega)
  have hjz:j<zc.size:=by omega
  simp only [Array.getElem?_map,Array.getElem?_range,hb,if_true,Option.map_some,hzc,hmod]
  simp [Array.getD,hjz]
theorem op_bslice (hfo:∀b,fo b→b<w.heap.size) (hW:RW P cfg h pl fo w) (hρ:Rho s (mkEnv h pl fo w) ρ) {o:Oper} {t e sz n:Nat} {ps:Array (Nat × Operand)} {ps':List (Nat × Opd)} {z:List C} (ho:o.op = .buildSlice t n ps) (hu:P.underlying t=some (.slice e)) (hsz:sizeT P e=some sz)
    (hz:zeroT P e=some z) (hp:cPartsS ps.toList=some ps') (hn:n*sz≤2^24) (hs1:1≤sz) {r:Nat} {v:V} {wr:Wr} (he:opEv r s h (.bslice sz n z ps')=some (v,wr)):OpRes P cfg h pl fo w ((execOp ρ o).run P w) v (applyW h wr):=by
  simp only [opEv] at he
  split at he
  · rename_i zd hzd
    by_cases hzl:zd.length=sz
    · rw [if_pos hzl] at he
      cases hsr:setRows s h sz ps' (rowsOf n zd) with
      | none=>rw [hsr] at he;cases he
      | some q=>
        obtain ⟨rows,ks⟩:=q
        rw [hsr] at he
        simp only [Option.bind_some,newV] at he
        by_cases hh:isHole h r=true
        · rw [if_pos hh] at he;cases he
          obtain ⟨zv,hz1,hz2⟩:=zeroT_ok (E:=mkEnv h pl fo w) hz w
          obtain ⟨zl,zr⟩:=toDs_ok hz2 hzd
          obtain ⟨rlen,kso⟩:=setRows_ks hsr
          obtain ⟨fz1,fz2⟩:=freeze_ok (h:=h) kso
          obtain ⟨a1,a2,a3,a4,a5,a6⟩:=RW.freezes (freeze h ks) fz1 hW
          obtain ⟨hr1,hr2⟩:=isHole_iff.1 hh
          rw [applyW_append]
          show OpRes P cfg h pl fo w _ _ (setH (applyW h (freeze h ks)) r (.arr false 0 sz rows))
          generalize hh1:applyW h (freeze h ks)=h1 at *
          have hE1:=Env.le_of (fo:=fo) a2 a3
          have hhole:isHole h1 r=true:=isHole_iff.2 ⟨by rw [a6];exact hr1,by rw [a5 r (fun fz ver sz rows e=>by rw [hr2] at e;cases e),hr2]⟩
          have hrl:rows.length=n:=by rw [rlen];simp [rowsOf]
          -- the contents
          have hzc:(zv.cells).size=sz:=by rw [hz2.1,←zl];exact hzl
          have hz0:=zero_rows (K:=(mkEnv h1 pl fo w).K0) (w:=w) (n:=n) hzl hzc hs1 (fun i d hd=>(zr i d hd).mono hE1.k0 hE1.w0)
          obtain ⟨cells',c1,c2,c3⟩:=setRows_ok (h':=h1) (w':=w) (pl':=pl) (KS:=ks) hρ hE1 (fun {c d ks' v} hR hD hsub=>toD_frozen hW hR hD hE1 (fun o ho b hb=>by
              obtain ⟨fz,ver,sz',rows',eo⟩:=toD_ks hD o ho
              obtain ⟨fz',g1,_,g3⟩:=a4 o fz ver sz' rows' eo
              have hfz:fz'=true:=g3 (by rw [fz2];exact hsub o ho)
              subst hfz
              refine ⟨hW.lt (by rw [eo];simp) hb,?_,hW.fo o b (by rw [eo];simp) hb⟩
              rintro ⟨o2,m1,m2⟩
              by_cases e2:o2=o
              · subst e2;rw [g1] at m1;cases m1
              · exact a1.ne o o2 b (fun e=>e2 e.symm) (by rw [g1];simp) (Obj.ne_none_of_mutable m1) hb m2) (fun b i x hb hx _=>hx))
            hp hsr (fun o ho=>ho) (by simp [rowsOf]) hz0
          obtain ⟨ti,hti,hts⟩:=sizeT_info hsz
          have hres:(execOp ρ o).run P w = .ok (.value (.slice (some ⟨w.heap.size,0,none⟩) n n)) (w.pushBlk (.cells cells' e)):=by
            simp only [execOp,ho,Instr.buildSlice,Sem.run_bind,run_underlying',hu,Result.andThen_ok,run_sizeOf',hti,hts]
            rw [if_neg (by omega)]
            have hm:(ps.map fun (x:Nat × Operand)=>(x.1,ρ x.2)).toList=ps.toList.map fun p=>(p.1,ρ p.2):=by simp
            by_cases hn0:n=0
            · subst hn0
              simp only [Nat.zero_mul,if_true,Sem.run_bind,Sem.run_pure,Result.andThen_ok,hm]
              simp only [Nat.zero_mul] at c1
              have:(Array.range 0).map ((#[]:Array Value)[· % (#[]:Array Value).size]!)=(Array.range 0).map (zv.cells[· % zv.cells.size]!):=by simp
              rw [this,c1]
              simp only [newRow,Sem.run_bind,run_newObj,Result.andThen_ok,Sem.run_pure]
              rfl
            · rw [if_neg (by intro h0;rcases Nat.mul_eq_zero.1 h0 with h0 | h0<;>omega)]
              simp only [Sem.run_bind,hz1,Result.andThen_ok,Sem.run_pure,hm,c1]
              simp only [newRow,Sem.run_bind,run_newObj,Result.andThen_ok,Sem.run_pure]
              rfl
          have hpl:=OpRes.place (P:=P) (cfg:=cfg) (cap:=n) (ob:=.cells cells' e) (c:=.sl r 0 0 n) (x:=.arr false 0 sz rows) (w1:=w) hfo a1 hhole rfl (cv:=.slice (some ⟨w.heap.size,0,none⟩) n n) hres (fun hE=>by
              refine ⟨by rw [hrl];exact Nat.le_refl _,c3.1,cells',e,pushBlk_get _ _,by rw [c2];simp,fun i row j d hi hj=>?_⟩
              obtain ⟨y,y1,y2⟩:=c3.2 i row j d hi hj
              exact ⟨y,y1,y2.mono hE.k0 hE.w0⟩) (fun hg=>by
              refine .sl hg (Nat.le_refl _) (Nat.le_refl _) (fun _=>⟨by rw [hrl];omega,.inl ⟨w.heap.size,?_,by simp,?_⟩⟩)
              · show (updP _ _ _ _).blk=_;rw [updP_same]
              · show n=(updP _ _ _ _).cap-0;rw [updP_same];rfl)
          obtain ⟨cv,w',pl',q1,q2,q3,q4,q5⟩:=hpl
          exact ⟨cv,w',pl',q1,q2,q3,a2.trans q4,a3.trans q5⟩
        · rw [if_neg hh] at he;cases he
    · rw [if_neg hzl] at he;cases he
  · cases he
theorem op_blist (hfo:∀b,fo b→b<w.heap.size) (hW:RW P cfg h pl fo w) (hρ:Rho s (mkEnv h pl fo w) ρ) {o:Oper} {t e sz n:Nat} {ps:Array (Nat × Operand)} {ps':List (Nat × Opd)} {z:List C} (ho:o.op = .buildSlice t n ps) (hu:P.underlying t=some (.slice e)) (hsz:sizeT P e=some sz)
    (hz:zeroT P e=some z) (hp:cPartsS ps.toList=some ps') (hn:n*sz≤2^24) (hs1:1≤sz) {r:Nat} {v:V} {wr:Wr} (he:opEv r s h (.blist sz n z ps')=some (v,wr)):OpRes P cfg h pl fo w ((execOp ρ o).run P w) v (applyW h wr):=by
  simp only [opEv] at he
  split at he
  · rename_i zd hzd
    by_cases hzl:zd.length=sz
    · rw [if_pos hzl] at he
      split at he
      · rename_i rows hsr
        cases he
        obtain ⟨zv,hz1,hz2⟩:=zeroT_ok (E:=mkEnv h pl fo w) hz w
        obtain ⟨zl,zr⟩:=toDs_ok hz2 hzd
        obtain ⟨rlen,kso⟩:=setRows_ks hsr
        have hrl:rows.length=n:=by rw [rlen];simp [rowsOf]
        have hzc:(zv.cells).size=sz:=by rw [hz2.1,←zl];exact hzl
        have hz0:=zero_rows (K:=(mkEnv h pl fo w).K0) (w:=w) (n:=n) hzl hzc hs1 (fun i d hd=>zr i d hd)
        obtain ⟨cells',c1,c2,c3⟩:=setRows_ok (h':=h) (w':=w) (pl':=pl) (KS:=[]) hρ (Env.Le.refl _) (fun {c d ks' v} hR hD hsub=>toD_frozen hW hR hD (Env.Le.refl _) (fun o ho b hb=>absurd (hsub o ho) (by simp)) (fun b i x hb hx _=>hx))
          hp hsr (fun o ho=>ho) (by simp [rowsOf]) hz0
        obtain ⟨ti,hti,hts⟩:=sizeT_info hsz
        have hres:(execOp ρ o).run P w = .ok (.value (.slice (some ⟨w.heap.size,0,none⟩) n n)) (w.pushBlk (.cells cells' e)):=by
          simp only [execOp,ho,Instr.buildSlice,Sem.run_bind,run_underlying',hu,Result.andThen_ok,run_sizeOf',hti,hts]
          rw [if_neg (by omega)]
          have hm:(ps.map fun (x:Nat × Operand)=>(x.1,ρ x.2)).toList=ps.toList.map fun p=>(p.1,ρ p.2):=by simp
          by_cases hn0:n=0
          · subst hn0
            simp only [Nat.zero_mul,if_true,Sem.run_bind,Sem.run_pure,Result.andThen_ok,hm]
            simp only [Nat.zero_mul] at c1
            have:(Array.range 0).map ((#[]:Array Value)[· % (#[]:Array Value).size]!)=(Array.range 0).map (zv.cells[· % zv.cells.size]!):=by simp
            rw [this,c1]
            simp only [newRow,Sem.run_bind,run_newObj,Result.andThen_ok,Sem.run_pure]
            rfl
          · rw [if_neg (by intro h0;rcases Nat.mul_eq_zero.1 h0 with h0 | h0<;>omega)]
            simp only [Sem.run_bind,hz1,Result.andThen_ok,Sem.run_pure,hm,c1]
            simp only [newRow,Sem.run_bind,run_newObj,Result.andThen_ok,Sem.run_pure]
            rfl
        obtain ⟨w1,w2,w3⟩:=hW.world (w':=w.pushBlk (.cells cells' e)) (Still.push (Still.refl _) rfl) (fun b hb=>pushBlk_old _ _ hb)
        have hE:=Env.le_of (fo:=fo) w2 w3
        have hblk:=pushBlk_get w (.cells cells' e (0,0))
        have hRD:RD (mkEnv h pl fo (w.pushBlk (.cells cells' e))).K0 (w.pushBlk (.cells cells' e)) (.lst rows) (.slice (some ⟨w.heap.size,0,none⟩) rows.length n):=by
          refine .lst sz (fun i j=>cells'.getD (i*sz+j) undef) ⟨?_,?_,?_⟩ (by rw [hrl];exact Nat.le_refl _) c3.1 (fun i row j d hi hj=>?_) (fun i row j d hi hj=>?_)
          · show w.heap.size<(w.pushBlk _).heap.size;rw [pushBlk_size];omega
          · rintro ⟨o,m1,m2⟩
            exact Nat.lt_irrefl _ (hW.lt (Obj.ne_none_of_mutable m1) m2)
          · intro hf;exact Nat.lt_irrefl _ (hfo _ hf)
          · obtain ⟨y,y1,y2⟩:=c3.2 i row j d hi hj
            rw [cellAt_blk hblk,Nat.zero_add,y1]
            simp [Array.getD_eq_getD_getElem?,y1]
          · obtain ⟨y,y1,y2⟩:=c3.2 i row j d hi hj
            have:cells'.getD (i*sz+j) undef=y:=by simp [Array.getD_eq_getD_getElem?,y1]
            rw [this]
            exact y2.mono hE.k0 hE.w0
        rw [hrl] at hRD
        exact ⟨_,_,pl,.inl hres,.c (.lst hRD),w1,w2,w3⟩
      · cases he
    · rw [if_neg hzl] at he;cases he
  · cases he
theorem splice_len3 {α:Type}:∀{n:Nat} {xs l r:List α},splice n xs l=some r→r.length=l.length
  | 0,[],l,r,e=>by simp only [splice] at e;cases e;rfl
  | 0,_::_,[],r,e=>by simp [splice] at e
  | 0,x::xs,_::l,r,e=>by
    simp only [splice] at e
    cases h:splice 0 xs l with
    | none=>rw [h] at e;cases e
    | some r2=>rw [h] at e;cases e;simp [splice_len3 h]
  | n+1,_,[],r,e=>by simp [splice] at e
  | n+1,xs,y::l,r,e=>by
    simp only [splice] at e
    cases h:splice n xs l with
    | none=>rw [h] at e;cases e
    | some r2=>rw [h] at e;cases e;simp [splice_len3 h]
theorem buildC_len {s:List V}:∀{ps:List (Nat × Nat × Opd)} {cs r:List C},buildC s ps cs=some r→r.length=cs.length
  | [],cs,r,e=>by cases e;rfl
  | (off,n,x)::ps,cs,r,e=>by
    unfold buildC at e
    split at e
    · split at e
      · rename_i l _ _
        cases h:splice off l cs with
        | none=>rw [h] at e;cases e
        | some r2=>
          rw [h] at e
          rw [buildC_len (show buildC s ps r2=some r from e),splice_len3 h]
      · cases e
    · cases e
theorem op_blistc (hfo:∀b,fo b→b<w.heap.size) (hW:RW P cfg h pl fo w) (hρ:Rho s (mkEnv h pl fo w) ρ) {o:Oper} {t e n:Nat} {ps:Array (Nat × Operand)} {ps':List (Nat × Nat × Opd)} {z:C} (ho:o.op = .buildSlice t n ps) (hu:P.underlying t=some (.slice e)) (hsz:sizeT P e=some 1)
    (hz:zeroT P e=some [z]) (hp:cPartsA 1 ps.toList=some ps') (hn:n≤2^24) {r:Nat} {v:V} {wr:Wr} (he:opEv r s h (.blistc (List.replicate n z) ps')=some (v,wr)):OpRes P cfg h pl fo w ((execOp ρ o).run P w) v (applyW h wr):=by
  simp only [opEv] at he
  obtain ⟨ti,hti,hts⟩:=sizeT_info hsz
  cases hb:buildC s ps' (List.replicate n z) with
  | none=>rw [hb] at he;cases he
  | some cs=>
    rw [hb] at he;cases he
    obtain ⟨zv,hz1,hz2⟩:=zeroT_ok (E:=mkEnv h pl fo w) hz w
    obtain ⟨l1,l2⟩:=cPartsA_ok hρ hp
    have hzs:zv.cells.size=1:=hz2.1
    have hrl:RL (mkEnv h pl fo w) (List.replicate n z) ((Array.range (n*1)).map (zv.cells[· % zv.cells.size]!)):=by
      refine ⟨by simp,fun i c hi=>?_⟩
      have hi2:i<n:=by have:=nth_lt hi;simpa using this
      have hcz:c=z:=by
        rw [nth_get] at hi
        simp [hi2] at hi
        exact hi.symm
      subst hcz
      have:=hz2.2 0 c rfl
      simp only [Array.getD_eq_getD_getElem?] at this ⊢
      simp only [hzs,Nat.mod_one,Nat.mul_one]
      simpa [hi2,hzs] using this
    obtain ⟨cells',e1,e2⟩:=fill_ok (E:=mkEnv h pl fo w) (s:=s) (ρ:=ρ) (fun i=>some (i*1,1)) ps.toList ps' (List.replicate n z) cs _ l1 (fun i p p' a b=>by
      obtain ⟨f1,f2,rv⟩:=l2 i p p' a b
      exact ⟨by rw [f1,f2],rv⟩) hrl hb
    have hcl:cs.length=n:=by
      have:=buildC_len hb
      simpa using this
    have hres:(execOp ρ o).run P w = .ok (.value (.slice (some ⟨w.heap.size,0,none⟩) n n)) (w.pushBlk (.cells cells' e)):=by
      simp only [execOp,ho,Instr.buildSlice,Sem.run_bind,run_underlying',hu,Result.andThen_ok,run_sizeOf',hti,hts]
      rw [if_neg (by omega)]
      have hm:(ps.map fun (x:Nat × Operand)=>(x.1,ρ x.2)).toList=ps.toList.map fun p=>(p.1,ρ p.2):=by simp
      by_cases hn0:n=0
      · subst hn0
        simp only [Nat.zero_mul,if_true,Sem.run_bind,Sem.run_pure,Result.andThen_ok,hm]
        simp only [Nat.zero_mul] at e1
        have:(Array.range 0).map ((#[]:Array Value)[· % (#[]:Array Value).size]!)=(Array.range 0).map (zv.cells[· % zv.cells.size]!):=by simp
        rw [this,e1]
        simp only [newRow,Sem.run_bind,run_newObj,Result.andThen_ok,Sem.run_pure]
        rfl
      · rw [if_neg (by intro h0;rcases Nat.mul_eq_zero.1 h0 with h0 | h0<;>omega)]
        simp only [Sem.run_bind,hz1,Result.andThen_ok,Sem.run_pure,hm,e1]
        simp only [newRow,Sem.run_bind,run_newObj,Result.andThen_ok,Sem.run_pure]
        rfl
    obtain ⟨w1,w2,w3⟩:=hW.world (w':=w.pushBlk (.cells cells' e)) (Still.push (Still.refl _) rfl) (fun b hb=>pushBlk_old _ _ hb)
    have hE:=Env.le_of (fo:=fo) w2 w3
    have hblk:=pushBlk_get w (.cells cells' e (0,0))
    have hR:R (mkEnv h pl fo (w.pushBlk (.cells cells' e))) (.ls cs) (.slice (some ⟨w.heap.size,0,none⟩) cs.length n):=by
      refine .ls (fun i=>cells'.getD i undef) ⟨?_,?_,?_⟩ (by omega) (fun i hi=>?_) (fun i c hi=>(e2.2 i c hi).mono hE)
      · show w.heap.size<(w.pushBlk _).heap.size;rw [pushBlk_size];omega
      · rintro ⟨o,m1,m2⟩
        exact Nat.lt_irrefl _ (hW.lt (Obj.ne_none_of_mutable m1) m2)
      · intro hf;exact Nat.lt_irrefl _ (hfo _ hf)
      · show cellAt (w.pushBlk (.cells cells' e)) w.heap.size (0+i)=_
        rw [cellAt_blk hblk,Nat.zero_add]
        have:i<cells'.size:=by rw [e2.1];exact hi
        simp [Array.getD_eq_getD_getElem?,this]
    rw [hcl] at hR
    exact ⟨_,_,pl,.inl hres,.c hR,w1,w2,w3⟩
theorem wrap_small {n:Int} (h0:0≤n) (h1:n≤2^40):IntKind.i64.wrap n=n:=by
  simp [IntKind.wrap,IntKind.bits,IntKind.signed]
  omega
theorem op_mkslice (hfo:∀b,fo b→b<w.heap.size) (hW:RW P cfg h pl fo w) (hρ:Rho s (mkEnv h pl fo w) ρ) {o:Oper} {t e sz by_:Nat} {x y:Operand} {x':Opd} {z:List C} (ho:o.op = .makeSlice t x y) (hx:cOpd x=some x') (hy:∀k n,ρ x = .int k n→ρ y = .int k n) (hu:P.underlying t=some (.slice e)) (hsz:sizeT P e=some sz) (hb:bytesT P e=some by_)
    (hz:zeroT P e=some z) (hs1:1≤sz) (hb1:1≤by_) {r:Nat} {v:V} {wr:Wr} (he:opEv r s h (.mkslice sz by_ z x')=some (v,wr)):OpRes P cfg h pl fo w ((execOp ρ o).run P w) v (applyW h wr):=by
  have h1:=hρ x x' hx
  simp only [opEv] at he
  split at he
  · rename_i k n zd en hzd
    rw [en] at h1
    have e1:=h1.c_inv.int_inv
    have e2:=hy _ _ e1
    by_cases hc:0≤n∧n*by_≤2^40∧zd.length=sz
    · rw [if_pos hc] at he
      simp only [newV] at he
      by_cases hh:isHole h r=true
      · rw [if_pos hh] at he;cases he
        obtain ⟨hn0,hnb,hzl⟩:=hc
        obtain ⟨zv,hz1,hz2⟩:=zeroT_ok (E:=mkEnv h pl fo w) hz w
        obtain ⟨zl,zr⟩:=toDs_ok hz2 hzd
        have hzc:(zv.cells).size=sz:=by rw [hz2.1,←zl];exact hzl
        have hn40:n≤2^40:=by
          have:n*1≤n*(by_:Int):=Int.mul_le_mul_of_nonneg_left (by omega) hn0
          omega
        have hwr:=wrap_small hn0 hn40
        obtain ⟨ti,hti,hts⟩:=sizeT_info hsz
        have hbt:ti.bytes=by_:=by unfold bytesT at hb;rw [hti] at hb;simpa using hb
        have hlt:¬(by_*n>2^48):=by rw [Int.mul_comm];omega
        generalize hcells:(Array.range (n.toNat*sz)).map (zv.cells[· % zv.cells.size]!)=cells
        have hres:(execOp ρ o).run P w = .ok (.value (.slice (some ⟨w.heap.size,0,none⟩) n.toNat n.toNat)) (w.pushBlk (.cells cells e)):=by
          simp only [execOp,ho,Instr.makeSlice,Sem.run_bind,run_underlying',hu,Result.andThen_ok,e1,e2,asInt,asIntOf,Sem.run_pure,run_typeInfo',hti,hbt,hwr]
          have hcond:((decide (n<0)||decide ((by_:Int)*n>2^48))||decide (n<0)||decide (n>n))=false:=by simp;omega
          simp only [Bool.or_eq_true,decide_eq_true_eq] at hcond ⊢
          rw [if_neg (by omega)]
          simp only [Sem.run_bind,run_askRoom,Result.andThen_ok,run_sizeOf',hti,hts]
          by_cases hn0':n.toNat*sz=0
          · rw [if_pos hn0']
            simp only [Sem.run_pure,Result.andThen_ok,newRow,Sem.run_bind,run_newObj]
            have:(Array.range (n.toNat*sz)).map ((#[]:Array Value)[· % (#[]:Array Value).size]!)=cells:=by rw [←hcells,hn0'];simp
            rw [this];rfl
          · rw [if_neg hn0']
            simp only [Sem.run_bind,hz1,Result.andThen_ok,Sem.run_pure,newRow,run_newObj,hcells]
            rfl
        have hz0:=zero_rows (K:=(mkEnv h pl fo w).K0) (w:=w) (n:=n.toNat) hzl hzc hs1 (fun i d hd=>zr i d hd)
        rw [hcells] at hz0
        refine OpRes.place (cap:=n.toNat) (ob:=.cells cells e) (w1:=w) hfo hW hh rfl hres (fun hE=>by
            refine ⟨by simp [rowsOf],hz0.1,cells,e,pushBlk_get _ _,by rw [←hcells];simp,fun i row j d hi hj=>?_⟩
            obtain ⟨y,y1,y2⟩:=hz0.2 i row j d hi hj
            exact ⟨y,y1,y2.mono hE.k0 hE.w0⟩) (fun hg=>by
            refine .sl hg (Nat.le_refl _) (Nat.le_refl _) (fun _=>⟨by simp [rowsOf],.inl ⟨w.heap.size,?_,by simp,?_⟩⟩)
            · show (updP _ _ _ _).blk=_;rw [updP_same]
            · show n.toNat=(updP _ _ _ _).cap-0;rw [updP_same];rfl)
      · rw [if_neg hh] at he;cases he
    · rw [if_neg hc] at he;cases he
  · cases he
end
end Am
namespace Am
open Go
set_option linter.unusedVariables false
set_option linter.unusedSimpArgs false
variable {P:Program} {cfg:Cfg}
section
variable {h:List Obj} {pl:Nat→Pl} {fo:Kept} {w:World} {s:List V} {ρ:Operand→Value}
theorem scalRow_spec : ∀{r:List D},scalRow r=true→∀(i:Nat) (d:D),nth r i=some d→∀rows,d ≠ .lst rows
  | [],_,i,d,hd=>by cases hd
  | x::r,hr,i,d,hd=>by
    cases x with
    | lst rows=>cases hr
    | int k n=>cases i with
      | zero=>cases hd;intro rows e;cases e
      | succ i=>exact scalRow_spec (r:=r) hr i d hd
    | bool b=>cases i with
      | zero=>cases hd;intro rows e;cases e
      | succ i=>exact scalRow_spec (r:=r) hr i d hd
theorem scalRows_spec : ∀{rows:List (List D)},scalRows rows=true→∀(i:Nat) (r:List D),nth rows i=some r→scalRow r=true
  | [],_,i,r,hr=>by cases hr
  | x::rows,h,i,r,hr=>by
    simp only [scalRows,Bool.and_eq_true] at h
    cases i with
    | zero=>cases hr;exact h.1
    | succ i=>exact scalRows_spec h.2 i r hr
theorem RD_scal {K K':Kept} {w w':World} {d:D} {v:Value} (h:RD K w d v) (hs:∀rows,d ≠ .lst rows):RD K' w' d v:=by
  cases h with
  | int k n=>exact .int k n
  | bool b=>exact .bool b
  | nil a c=>exact (hs _ rfl).elim
  | lst=>exact (hs _ rfl).elim
theorem sl_view (hW:RW P cfg h pl fo w) {o ver off len sz:Nat} {fz:Bool} {rows r:List (List D)} {v:Value} (hr:R (mkEnv h pl fo w) (.sl o ver off len) v) (ho:getH h o = .arr fz ver sz rows) (hp:part off len rows=some r) :
    (r=[]∧∃a cap,v = .slice a 0 cap)∨∃(b cap:Nat) (vs:Nat→Nat→Value),v = .slice (some ⟨b,off*sz,none⟩) r.length cap∧(∀(i:Nat) (row:List D),nth r i=some row→row.length=sz) ∧
      (∀(i:Nat) (row:List D) (j:Nat) (d:D),nth r i=some row→nth row j=some d→cellAt w b (off*sz+i*sz+j)=some (vs i j)∧RD (mkEnv h pl fo w).K0 w d (vs i j)):=by
  cases hr with
  | @sl _ _ _ _ cap a fz2 ver2 sz2 rows2 ho' hver hl hb=>
    have ho2:getH h o = .arr fz2 ver2 sz2 rows2:=ho'
    rw [ho] at ho2;cases ho2
    obtain ⟨hlen,hb⟩:=hb rfl
    obtain ⟨p1,p2⟩:=part_spec hp
    by_cases hz:len=0
    · subst hz
      have:r=[]:=by cases r with
        | nil=>rfl
        | cons=>simp at p1
      subst this
      exact .inl ⟨rfl,_,_,rfl⟩
    · rcases hb with ⟨b,hb1,rfl,rfl⟩ | ⟨_,_,rfl⟩ | ⟨_,rfl⟩
      · have hro:=hW.obj o
        rw [ho] at hro
        obtain ⟨hcap,hrl,hro⟩:=hro
        have hb1':(pl o).blk=some b:=hb1
        rw [hb1'] at hro
        obtain ⟨arr,T,hblk0,_,hc⟩:=hro
        have hblk:w.heap[b]?=some (.cells arr T (0,0)):=hblk0
        refine .inr ⟨b,_,fun i j=>arr.getD (off*sz+i*sz+j) undef,by rw [p1],fun i row hi=>hrl _ _ (part_mem hp hi),fun i row j d hi hj=>?_⟩
        obtain ⟨x,hx,hd⟩:=hc _ _ _ _ (part_mem hp hi) hj
        have hx':arr[off*sz+i*sz+j]?=some x:=by rw [show off*sz+i*sz+j=(off+i)*sz+j by rw [Nat.add_mul]];exact hx
        rw [cellAt_blk hblk,hx']
        have:arr.getD (off*sz+i*sz+j) undef=x:=by simp [Array.getD_eq_getD_getElem?,hx']
        refine ⟨?_,?_⟩
        · show some x=some (arr.getD (off*sz+i*sz+j) undef);rw [this]
        · show RD _ w d (arr.getD (off*sz+i*sz+j) undef);rw [this];exact hd
      · omega
      · omega
theorem scalCells_spec : ∀{l:List C} {r:List (List D)},scalCells l=some r→r.length=l.length∧∀(i:Nat) (row:List D),nth r i=some row→∃d c,row=[d]∧nth l i=some c∧((∃k n,c = .int k n∧d = .int k n)∨(∃b,c = .bool b∧d = .bool b))
  | [],r,e=>by cases e;exact ⟨rfl,fun i row h=>by cases h⟩
  | c::l,r,e=>by
    have key:∀(d:D),(∃k n,c = .int k n∧d = .int k n)∨(∃b,c = .bool b∧d = .bool b)→(scalCells l).map ([d]::·)=some r→r.length=(c::l).length∧∀(i:Nat) (row:List D),nth r i=some row→∃d c',row=[d]∧nth (c::l) i=some c'∧((∃k n,c' = .int k n∧d = .int k n)∨(∃b,c' = .bool b∧d = .bool b)):=by
      intro d hd e
      cases hl:scalCells l with
      | none=>rw [hl] at e;cases e
      | some r2=>
        rw [hl] at e
        cases e
        obtain ⟨a,b⟩:=scalCells_spec hl
        refine ⟨by simp [a],fun i row hi=>?_⟩
        cases i with
        | zero=>cases hi;exact ⟨d,c,rfl,rfl,hd⟩
        | succ i=>exact b i row hi
    cases c<;>simp only [scalCells] at e<;>first | (exact key _ (.inl ⟨_,_,rfl,rfl⟩) e) | (exact key _ (.inr ⟨_,rfl,rfl⟩) e) | cases e
theorem psl_view (hW:RW P cfg h pl fo w) {o off len:Nat} {cs l:List C} {r:List (List D)} {v:Value} (hr:R (mkEnv h pl fo w) (.psl o off len) v) (ho:getH h o = .cells cs) (hp:part off len cs=some l) (hs:scalCells l=some r) :
    (r=[]∧∃a cap,v = .slice a 0 cap)∨∃(b cap:Nat) (vs:Nat→Nat→Value),v = .slice (some ⟨b,off,none⟩) r.length cap∧r.length≤cap∧(pl o).blk=some b∧(∀(i:Nat) (row:List D),nth r i=some row→row.length=1) ∧
      (∀(i:Nat) (row:List D) (j:Nat) (d:D),nth r i=some row→nth row j=some d→cellAt w b (off+i*1+j)=some (vs i j)∧∀(K:Kept) (w:World),RD K w d (vs i j)):=by
  obtain ⟨q1,q2⟩:=scalCells_spec hs
  cases hr with
  | @psl _ _ _ cap b a hb0 hl ha _=>
    have hb:=hb0.blk ho
    obtain ⟨p1,p2⟩:=part_spec hp
    by_cases hz:len=0
    · subst hz
      have:r=[]:=by cases r with
        | nil=>rfl
        | cons=>simp at q1;omega
      subst this
      exact .inl ⟨rfl,_,_,rfl⟩
    · have ha':a=some ⟨b,off,none⟩:=ha.resolve_left hz
      subst ha'
      have hro:=hW.obj o
      rw [ho] at hro
      obtain ⟨b',arr,T,hb',hblk,hRL⟩:=hro
      have hb2:(pl o).blk=some b:=hb
      rw [hb2] at hb';cases hb'
      refine .inr ⟨b,cap,fun i _=>arr.getD (off+i) undef,by rw [q1,p1],by rw [q1,p1];exact hl,hb2,fun i row hi=>?_,fun i row j d hi hj=>?_⟩
      · obtain ⟨d,c,e1,_⟩:=q2 i row hi
        rw [e1];rfl
      · obtain ⟨d',c,e1,e2,e3⟩:=q2 i row hi
        subst e1
        cases j with
        | succ j=>cases hj
        | zero=>
          cases hj
          have hc:=part_mem hp e2
          have hR:=hRL.2 (off+i) c hc
          have hlt:=nth_lt hc
          have hblk0:w.heap[b]?=some (.cells arr T (0,0)):=hblk
          refine ⟨?_,fun K w=>?_⟩
          · rw [cellAt_blk hblk0,Nat.mul_one,Nat.add_zero]
            have hlt2:off+i<arr.size:=Nat.lt_of_lt_of_le hlt hRL.1.1
            simp [Array.getD_eq_getD_getElem?,hlt2]
          · show RD K w d (arr.getD (off+i) undef)
            generalize arr.getD (off+i) undef=x at hR
            rcases e3 with ⟨k,n,rfl,rfl⟩ | ⟨bb,rfl,rfl⟩
            · cases hR;exact .int _ _
            · cases hR;exact .bool _
theorem src_ok (hW:RW P cfg h pl fo w) {c:C} {v:Value} {new:List (List D)} {sz:Nat} (hs1:1≤sz) (hr:R (mkEnv h pl fo w) c v) (hn:sliceRows h c=some new) (hh:headLen sz new=true) :
    ∃a cap arr,v = .slice a new.length cap∧(Builtin.firstCells sz new.length v).run P w = .ok arr w∧arr.size=new.length*sz∧RRows (mkEnv h pl fo w).K0 w sz new arr:=by
  have empty:∀(a:Option Addr) (cap:Nat),new=[]→v = .slice a 0 cap→∃a cap arr,v = .slice a new.length cap∧(Builtin.firstCells sz new.length v).run P w = .ok arr w∧arr.size=new.length*sz∧RRows (mkEnv h pl fo w).K0 w sz new arr:=by
    intro a cap e1 e2
    subst e1;subst e2
    refine ⟨a,cap,#[],rfl,?_,by simp,⟨fun i row hi=>(by cases hi),fun i row j d hi=>(by cases hi)⟩⟩
    cases a with
    | none=>rfl
    | some a=>simp [Builtin.firstCells,loadCells,loadCellsFrom]
  have gen:∀(b off cap sz':Nat) (vs:Nat→Nat→Value),v = .slice (some ⟨b,off,none⟩) new.length cap→(∀(i:Nat) (row:List D),nth new i=some row→row.length=sz') →
      (∀(i:Nat) (row:List D) (j:Nat) (d:D),nth new i=some row→nth row j=some d→cellAt w b (off+i*sz'+j)=some (vs i j)) →
      (∀(i:Nat) (row:List D) (j:Nat) (d:D),nth new i=some row→nth row j=some d→RD (mkEnv h pl fo w).K0 w d (vs i j)) →
      ∃a cap arr,v = .slice a new.length cap∧(Builtin.firstCells sz new.length v).run P w = .ok arr w∧arr.size=new.length*sz∧RRows (mkEnv h pl fo w).K0 w sz new arr:=by
    intro b off cap sz' vs hv hs hc hrr
    subst hv
    by_cases he:new=[]
    · exact empty _ _ he (by rw [he];rfl)
    · have hsz:sz'=sz:=by
        cases new with
        | nil=>exact (he rfl).elim
        | cons row0 rest=>
          have:=hs 0 row0 rfl
          simp only [headLen,beq_iff_eq] at hh
          omega
      subst hsz
      refine ⟨_,cap,((List.range (new.length*sz')).map (fun k=>vs (k / sz') (k % sz'))).toArray,rfl,?_,by simp,⟨fun i row hi=>hs i row hi,fun i row j d hi hj=>?_⟩⟩
      · simp only [Builtin.firstCells]
        refine run_loadCells w _ _ _ (fun k hk=>?_)
        have h1:k / sz'<new.length:=Nat.div_lt_of_lt_mul (by rw [Nat.mul_comm];exact hk)
        have h2:k % sz'<sz':=Nat.mod_lt _ hs1
        obtain ⟨row,hrow⟩:=nth_some h1
        obtain ⟨d,hd⟩:=nth_some (l:=row) (i:=k % sz') (by rw [hs _ _ hrow];exact h2)
        have:=hc _ _ _ _ hrow hd
        rw [Addr.add_mid]
        have e:off+k=off+k / sz'*sz'+k % sz':=by rw [Nat.add_assoc,Nat.mul_comm,Nat.div_add_mod]
        rw [e];exact this
      · have hil:=nth_lt hi
        have hjl:=nth_lt hj
        rw [hs _ _ hi] at hjl
        have hb:i*sz'+j<new.length*sz':=by
          have:(i+1)*sz'≤new.length*sz':=Nat.mul_le_mul_right _ hil
          rw [Nat.add_mul,Nat.one_mul] at this;omega
        have hdiv:(i*sz'+j) / sz'=i:=by rw [Nat.mul_comm,Nat.mul_add_div hs1,Nat.div_eq_of_lt hjl,Nat.add_zero]
        have hmod:(i*sz'+j) % sz'=j:=by rw [Nat.mul_comm,Nat.mul_add_mod];exact Nat.mod_eq_of_lt hjl
        exact ⟨vs i j,by simp [hb,hdiv,hmod],hrr _ _ _ _ hi hj⟩
  cases c with
  | lst t rows=>
    simp only [sliceRows] at hn
    cases hr with
    | lst hrd=>
      cases t with
      | false=>
        simp only [Bool.false_and,Bool.false_eq_true,if_false,Option.some.injEq] at hn
        subst hn
        cases hrd with
        | nil a cap=>exact empty a cap rfl rfl
        | @lst _ b off cap sz' vs hKb hcap hs hc hrr=>exact gen b off cap sz' vs rfl hs hc hrr
      | true=>
        by_cases hsc:scalRows rows=true
        · simp only [hsc,Bool.not_true,Bool.and_false,Bool.false_eq_true,if_false,Option.some.injEq] at hn
          subst hn
          cases hrd with
          | nil a cap=>exact empty a cap rfl rfl
          | @lst _ b off cap sz' vs hKb hcap hs hc hrr=>exact gen b off cap sz' vs rfl hs hc (fun i row j d hi hj=>RD_scal (hrr _ _ _ _ hi hj) (scalRow_spec (scalRows_spec hsc i row hi) j d hj))
        · simp [hsc] at hn
  | nils=>
    cases hn
    cases hr
    exact empty none 0 rfl rfl
  | sl o ver off len=>
    simp only [sliceRows] at hn
    split at hn
    · rename_i fz ver' sz' rows e
      split at hn
      · rename_i ev;subst ev
        rcases sl_view hW hr e hn with ⟨e1,a,cap,e2⟩ | ⟨b,cap,vs,e1,e2,e3⟩
        · exact empty a cap e1 e2
        · exact gen b _ cap sz' vs e1 e2 (fun i row j d hi hj=>(e3 i row j d hi hj).1) (fun i row j d hi hj=>(e3 i row j d hi hj).2)
      · cases hn
    · cases hn
  | int=>cases hn
  | bool=>cases hn
  | any=>cases hn
  | ptr=>cases hn
  | aptr=>cases hn
  | ept=>cases hn
  | map=>cases hn
  | fn=>cases hn
  | yld=>cases hn
  | nilfn=>cases hn
  | nilp=>cases hn
  | ls=>cases hn
  | lpt=>cases hn
  | psl o off len=>
    simp only [sliceRows] at hn
    split at hn
    · rename_i cs e
      cases hp:part off len cs with
      | none=>rw [hp] at hn;cases hn
      | some l=>
        rw [hp] at hn
        rcases psl_view hW hr e hp hn with ⟨e1,a,cap,e2⟩ | ⟨b,cap,vs,e1,_,_,e2,e3⟩
        · exact empty a cap e1 e2
        · exact gen b _ cap 1 vs e1 e2 (fun i row j d hi hj=>(e3 i row j d hi hj).1) (fun i row j d hi hj=>(e3 i row j d hi hj).2 _ _)
    · cases hn
theorem growBy_le (n:Nat):∀(k c:Nat),Builtin.growBy n k c≤max c (n+(n+768) / 4)
  | 0,c=>by simp only [Builtin.growBy];omega
  | k+1,c=>by
    simp only [Builtin.growBy]
    split
    · omega
    · have:=growBy_le n k (c+(c+768) / 4)
      omega
theorem slicecap_ok {need cap by_:Nat} (hc:cap<need) (hb:need*by_≤2^40):¬(Builtin.nextslicecap need cap*by_>2^48):=by
  have hle:Builtin.nextslicecap need cap≤200*need:=by
    unfold Builtin.nextslicecap
    split
    · omega
    · split
      · omega
      · have:=growBy_le need 4 cap
        omega
  have h1:Builtin.nextslicecap need cap*by_≤200*need*by_:=Nat.mul_le_mul_right _ hle
  have h2:200*need*by_=200*(need*by_):=Nat.mul_assoc _ _ _
  omega
theorem RRows_append {K:Kept} {sz:Nat} {r1 r2:List (List D)} {a1 a2:Array Value} (h1:RRows K w sz r1 a1) (hs:a1.size=r1.length*sz) (h2:RRows K w sz r2 a2):RRows K w sz (r1++r2) (a1++a2):=by
  refine ⟨fun i row hi=>?_,fun i row j d hi hj=>?_⟩
  · rw [nth_append] at hi
    split at hi
    · exact h1.1 _ _ hi
    · exact h2.1 _ _ hi
  · rw [nth_append] at hi
    split at hi
    · rename_i hlt
      obtain ⟨v,e,r⟩:=h1.2 i row j d hi hj
      exact ⟨v,by rw [Array.getElem?_append_left (Array.getElem?_eq_some_iff.1 e).1];exact e,r⟩
    · rename_i hge
      obtain ⟨v,e,r⟩:=h2.2 _ row j d hi hj
      refine ⟨v,?_,r⟩
      have:a1.size≤i*sz+j:=by
        rw [hs]
        have:r1.length*sz≤i*sz:=Nat.mul_le_mul_right _ (by omega)
        omega
      rw [Array.getElem?_append_right this,hs]
      have e2:i*sz+j-r1.length*sz=(i-r1.length)*sz+j:=by
        rw [Nat.sub_mul]
        have:r1.length*sz≤i*sz:=Nat.mul_le_mul_right _ (by omega)
        omega
      rw [e2];exact e
theorem RRows_pad {K:Kept} {sz:Nat} {r1:List (List D)} {a1 a2:Array Value} (h1:RRows K w sz r1 a1):RRows K w sz r1 (a1++a2):=
  ⟨h1.1,fun i row j d hi hj=>by
    obtain ⟨v,e,r⟩:=h1.2 i row j d hi hj
    exact ⟨v,by rw [Array.getElem?_append_left (Array.getElem?_eq_some_iff.1 e).1];exact e,r⟩⟩
theorem RW.rows (hW:RW P cfg h pl fo w) {o ver sz b:Nat} {fz:Bool} {rows:List (List D)} (ho:getH h o = .arr fz ver sz rows) (hb:(pl o).blk=some b) :
    ∃arr T,w.heap[b]?=some (.cells arr T (0,0))∧(pl o).cap*sz≤arr.size∧rows.length≤(pl o).cap∧RRows (mkEnv h pl fo w).K0 w sz rows arr:=by
  have hro:=hW.obj o
  rw [ho] at hro
  obtain ⟨hcap,hrl,hro⟩:=hro
  rw [hb] at hro
  obtain ⟨arr,T,h1,h2,h3⟩:=hro
  exact ⟨arr,T,h1,h2,hcap,hrl,h3⟩
theorem run_append_grow {t e ti_ by_ sz:Nat} {a:Option Addr} {len cap:Nat} {x:Value} {n:Nat} {olds news:Array Value} {zv:Value} {ti:TypeInfo} (hu:P.underlying t=some (.slice e)) {tx ex:Nat} (hux:P.underlying tx=some (.slice ex)) (hi:P.info? e=some ti) (hts:ti.size=sz) (hbs:ti.bytes=by_) (hb1:1≤by_)
    (hz:(zeroValue e).run P w = .ok zv w) (hx:∃a' cap',x = .slice a' n cap') (hgrow:cap<len+n) (hsmall:(len+n)*by_≤2^40)
    (hold:(Builtin.firstCells sz len (.slice a len cap)).run P { w with drawn:=w.drawn+1 } = .ok olds { w with drawn:=w.drawn+1 }) (hnew:(Builtin.firstCells sz n x).run P { w with drawn:=w.drawn+1 } = .ok news { w with drawn:=w.drawn+1 }) (ty:TypeId) :
    ∃newCap,len+n≤newCap∧(Builtin.append_ #[t,tx] ty #[.slice a len cap,x]).run P w =
      .ok (.slice (some ⟨w.heap.size,0,none⟩) (len+n) newCap) (({ w with drawn:=w.drawn+1 }:World).pushBlk (.cells (olds++news++Builtin.zeroCells zv.cells (newCap-(len+n))) e)):=by
  obtain ⟨a',cap',rfl⟩:=hx
  refine ⟨len+n+(w.tape w.drawn (.appendCap (len+n) cap e)) % (2^63-(len+n)),by omega,?_⟩
  have h48:=slicecap_ok hgrow hsmall
  have hz':(zeroValue e).run P { w with drawn:=w.drawn+1 } = .ok zv { w with drawn:=w.drawn+1 }:=by
    unfold zeroValue at hz ⊢
    simp only [Sem.run_bind,run_typeInfo',hi,Result.andThen_ok] at hz ⊢
    cases hzz:ti.zero with
    | none=>rw [hzz] at hz;cases hz
    | some z=>rw [hzz] at hz;cases hz;rfl
  have hg:¬(len+n≤cap):=by omega
  have hcond:¬(((len+n:Nat):Int)>IntKind.i64.max∧by_=0):=by omega
  simp [Builtin.append_,hu,hux,hi,hts,hbs,Builtin.lenOf,hg,h48,Question.forced,Question.cut,show ¬by_=0 by omega]
  have hold':(Builtin.firstCells sz len (.slice a len cap)).run P w.drew = .ok olds w.drew:=hold
  have hnew':(Builtin.firstCells sz n (.slice a' n cap')).run P w.drew = .ok news w.drew:=hnew
  have hz2:(zeroValue e).run P w.drew = .ok zv w.drew:=hz'
  simp only [hold',hnew',hz2,Result.andThen_ok,newRow,Sem.run_bind,run_newObj,Sem.run_pure]
  rfl
theorem run_append_room {t e sz:Nat} {a:Option Addr} {len cap:Nat} {x:Value} {n:Nat} {news:Array Value} {ti:TypeInfo} (hu:P.underlying t=some (.slice e)) {tx ex:Nat} (hux:P.underlying tx=some (.slice ex)) (hi:P.info? e=some ti) (hts:ti.size=sz)
    (hx:∃a' cap',x = .slice a' n cap') (hroom:len+n≤cap) (hnew:(Builtin.firstCells sz n x).run P w = .ok news w) (ty:TypeId) :
    (Builtin.append_ #[t,tx] ty #[.slice a len cap,x]).run P w=match a with
      | some a=>((storeCells (a.add (len*sz)) news.toList).run P w).andThen fun _ w'=>.ok (.slice (some a) (len+n) cap) w'
      | none=>.ok (.slice none (len+n) cap) w:=by
  obtain ⟨a',cap',rfl⟩:=hx
  cases a with
  | none=>simp [Builtin.append_,hu,hux,hi,hts,Builtin.lenOf,hroom,hnew]
  | some a=>simp [Builtin.append_,hu,hux,hi,hts,Builtin.lenOf,hroom,hnew]
theorem zeroCells_size (z:Array Value) (n:Nat):(Builtin.zeroCells z n).size=n*z.size:=by simp [Builtin.zeroCells]
theorem part_all {α:Type} (l:List α):part 0 l.length l=some l:=by
  have:=takeN_append l ([]:List α)
  rw [List.append_nil] at this
  exact this
theorem zeroT_run {t:Nat} {z:List C} {sz:Nat} (hz:zeroT P t=some z) (hl:z.length=sz) (w:World):∃zv,(zeroValue t).run P w = .ok zv w∧zv.cells.size=sz:=by
  obtain ⟨v,h1,h2⟩:=zeroT_ok (E:=⟨[],fun _=>⟨none,0⟩,fun _=>False,fun _=>False,w⟩) hz w
  exact ⟨v,h1,by rw [h2.1,hl]⟩
theorem srcC_ok {new:List C} {v:Value} (hr:R (mkEnv h pl fo w) (.ls new) v) (hs:new.all C.isSl=true) :
    ∃a cap news,v = .slice a new.length cap∧(∀d,(Builtin.firstCells 1 new.length v).run P { w with drawn:=d } = .ok news { w with drawn:=d })∧news.size=new.length∧(∀y∈news.toList,y.oneCell'=true) ∧
      ∀(i:Nat) (c:C),nth new i=some c→∃y,news[i]?=some y∧R (mkEnv h pl fo w) c y:=by
  cases hr with
  | @ls _ b off cap vs hK hl hc hr=>
    have hR:∀i,i<new.length→(vs i).oneCell'=true:=by
      intro i hi
      obtain ⟨c,hcn⟩:=nth_some hi
      have h1:=hr i c hcn
      rw [nth_get] at hcn
      have h2:=List.all_eq_true.1 hs c (List.mem_of_getElem? hcn)
      cases c<;>first | (revert h1;generalize vs i=y;intro h1;cases h1;rfl) | cases h2
    refine ⟨_,cap,((List.range new.length).map vs).toArray,rfl,fun d=>?_,by simp,?_,?_⟩
    · simp only [Builtin.firstCells]
      have:=run_loadCells (P:=P) { w with drawn:=d } ⟨b,off,none⟩ (new.length*1) vs (fun k hk=>by
        rw [Addr.add_mid];exact hc k (by omega))
      rw [Nat.mul_one] at this ⊢
      exact this
    · intro y hy
      simp only [List.mem_map,List.mem_range] at hy
      obtain ⟨i,hi,rfl⟩:=hy
      exact hR i hi
    · intro i c hi
      have hlt:=nth_lt hi
      exact ⟨vs i,by simp [hlt],hr i c hi⟩
theorem appendC_ok (hfo:∀b,fo b→b<w.heap.size) (hW:RW P cfg h pl fo w) {a b:C} {va vb:Value} (h1:R (mkEnv h pl fo w) a va) (h2:R (mkEnv h pl fo w) b vb) {t tx e ex sz by_:Nat} {ti:TypeInfo} {z:List C} (hu:P.underlying t=some (.slice e)) (hux:P.underlying tx=some (.slice ex))
    (hti:P.info? e=some ti) (hts:ti.size=sz) (hbt:ti.bytes=by_) (hz:zeroT P e=some z) (hzl:z.length=sz) (hb1:1≤by_) {r:Nat} {v:V} {wr:Wr} {ty:TypeId} {res:Result Next} (hex:∀cv w',(Builtin.append_ #[t,tx] ty #[va,vb]).run P w = .ok cv w'→res = .ok (.value cv) w')
    (he:appendC h r by_ sz a b=some (v,wr)):OpRes P cfg h pl fo w res v (applyW h wr):=by
  unfold appendC at he
  split at he
  · rename_i new
    split at he
    · rename_i hc
      obtain ⟨rfl,hne,hs⟩:=hc
      have hpos:0<new.length:=by cases new with
        | nil=>simp at hne
        | cons x l=>simp
      obtain ⟨xa,xcap,news,ev,erun,esz,eone,err⟩:=srcC_ok h2 hs (P:=P)
      obtain ⟨zv,hzv,hzs⟩:=zeroT_run hz hzl w
      split at he
      · -- a nil slice
        split at he
        · rename_i hby
          simp only [newV] at he
          split at he
          · rename_i hhole
            cases he
            cases h1
            obtain ⟨newCap,hcap,hrun⟩:=run_append_grow (P:=P) (w:=w) (t:=t) (e:=e) (ti_:=0) (by_:=by_) (sz:=1) (a:=none) (len:=0) (cap:=0) (x:=vb) (n:=new.length) (olds:=#[]) (news:=news) (zv:=zv) hu hux hti hts hbt hb1 hzv ⟨xa,xcap,ev⟩ (by omega) (by simpa using hby) rfl (erun _) ty
            simp only [Nat.zero_add] at hcap hrun
            refine OpRes.place (cap:=newCap) (w1:={ w with drawn:=w.drawn+1 }) (ob:=.cells (#[]++news++Builtin.zeroCells zv.cells (newCap-new.length)) e) (cv:=.slice (some ⟨w.heap.size,0,none⟩) new.length newCap) hfo hW hhole rfl (hex _ _ hrun) (fun hE=>?_) (fun hg=>?_)
            · refine ⟨w.heap.size,_,e,rfl,pushBlk_get _ _,⟨?_,?_⟩,fun i c hi=>?_⟩
              · simp [esz]
              · show newCap=_
                simp only [Array.size_append,zeroCells_size,hzs,esz]
                simp;omega
              · obtain ⟨y,y1,y2⟩:=err i c hi
                have hlt:=(Array.getElem?_eq_some_iff.1 y1).1
                have e1:(#[]++news++Builtin.zeroCells zv.cells (newCap-new.length)).getD i undef=y:=by
                  rw [Array.getD_eq_getD_getElem?,Array.getElem?_append_left (by simpa using hlt)]
                  simp [y1]
                rw [e1];exact y2.mono hE
            · refine .psl (.of hg (by show (updP _ _ _ _).blk=_;rw [updP_same])) hcap (.inr rfl) (fun cs _=>?_)
              show 0+newCap≤(updP _ _ _ _).cap
              rw [updP_same,Nat.zero_add];exact Nat.le_refl _
          · cases he
        · cases he
      · rename_i o off len
        split at he
        · rename_i cs ho
          split at he
          · rename_i hcc
            obtain ⟨rfl,hlen0,hcl,hby⟩:=hcc
            simp only [newV] at he
            split at he
            · rename_i hhole
              cases he
              obtain ⟨hr1,hr2⟩:=isHole_iff.1 hhole
              have hor:o≠r:=fun e=>by rw [e,hr2] at ho;cases ho
              have hol:=getH_lt (l:=h) (i:=o) (by rw [ho];simp)
              cases h1 with
              | @psl _ _ _ cap b aa hb0 hl ha hcp=>
                have hb:=hb0.blk ho
                have hcp:=hcp cs ho
                rcases ha with ha | rfl
                · omega
                have hro:=hW.obj o
                rw [ho] at hro
                obtain ⟨b',arr,T,hb',hblk,hrl⟩:=hro
                have:b'=b:=by have:=hb'.symm.trans hb;injection this
                subst this
                have hsz:(pl o).cap=arr.size:=hrl.1.2
                have hcp':0+cap≤(pl o).cap:=hcp
                have hgr:∀x,getH (setH (setH h o gone) r x) r=x:=fun x=>by rw [getH_setH,if_pos ⟨rfl,by rw [setH_len];exact hr1⟩]
                have hap:applyW h ([(o,gone)]++[(r,.cells (cs++new))])=setH (setH h o gone) r (.cells (cs++new)):=rfl
                rw [hap]
                by_cases hroom:len+new.length≤cap
                · -- there is room
                  have hrun:=run_append_room (P:=P) (w:=w) (a:=some ⟨b',0,none⟩) (len:=len) (cap:=cap) hu hux hti hts ⟨xa,xcap,ev⟩ hroom (erun w.drawn) ty
                  obtain ⟨arr',q1,q2,q3⟩:=run_storeCells_blk (P:=P) news.toList (len*1) 0 w arr hblk (by simp [esz];omega) eone
                  simp only [Nat.add_zero,Array.length_toList,esz,Nat.mul_one] at q2
                  simp only [Addr.add_mid,Nat.zero_add] at hrun
                  rw [q3] at hrun
                  simp only [Result.andThen_ok] at hrun
                  obtain ⟨A,B,C'⟩:=hW.move (o:=o) (r:=r) (x:=.cells (cs++new)) (p:=⟨some b',(pl o).cap⟩) (ob:=.cells arr' T (0,0)) ho hb' hr2 hr1 rfl rfl (fun hE=>by
                    refine ⟨b',arr',T,rfl,setBlk_get _ _ _ (Array.getElem?_eq_some_iff.1 hblk).1,⟨by rw [q1,List.length_append];omega,by rw [q1];exact hsz⟩,fun i c hi=>?_⟩
                    rw [nth_append] at hi
                    split at hi
                    · rename_i hlt
                      have h3:=hrl.2 i c hi
                      have:arr'.getD i undef=arr.getD i undef:=by
                        rw [Array.getD_eq_getD_getElem?,Array.getD_eq_getD_getElem?,q2,if_neg (by omega)]
                      rw [this];exact h3.mono hE
                    · rename_i hge
                      obtain ⟨y,y1,y2⟩:=err _ c hi
                      have hlt:=(Array.getElem?_eq_some_iff.1 y1).1
                      rw [esz] at hlt
                      have:arr'.getD i undef=y:=by
                        rw [Array.getD_eq_getD_getElem?,q2,if_pos (by omega),Array.getElem?_toList,←hcl,y1];rfl
                      rw [this];exact y2.mono hE)
                  refine ⟨.slice (some ⟨b',0,none⟩) (len+new.length) cap,_,_,.inl (hex _ _ hrun),.c ?_,A,B,C'⟩
                  refine .psl (.of (hgr _) (by show (updP _ _ _ _).blk=_;rw [updP_same])) hroom (.inr rfl) (fun cs' _=>?_)
                  show 0+cap≤(updP _ _ _ _).cap
                  rw [updP_same];exact hcp'
                · -- it grows
                  have hcs:len≤arr.size:=by have:=hrl.1.1;omega
                  have orun:=run_loadCells (P:=P) { w with drawn:=w.drawn+1 } ⟨b',0,none⟩ (len*1) (fun k=>arr.getD k undef) (fun k hk=>by
                    rw [Addr.add_mid]
                    show cellAt w b' (0+k)=some (arr.getD k undef)
                    rw [cellAt_blk (show w.heap[b']?=some (.cells arr T (0,0)) from hblk),Nat.zero_add,Array.getD_eq_getD_getElem?,Array.getElem?_eq_getElem (by omega)];rfl)
                  obtain ⟨olds,hol2⟩:∃olds,olds=((List.range (len*1)).map (fun k=>arr.getD k undef)).toArray:=⟨_,rfl⟩
                  have osz:olds.size=len:=by rw [hol2];simp
                  have oget:∀i,i<len→olds[i]?=some (arr.getD i undef):=fun i hi=>by rw [hol2];simp [hi]
                  obtain ⟨newCap,hcap,hrun⟩:=run_append_grow (P:=P) (w:=w) (t:=t) (e:=e) (ti_:=0) (by_:=by_) (sz:=1) (a:=some ⟨b',0,none⟩) (len:=len) (cap:=cap) (x:=vb) (n:=new.length) (olds:=olds) (news:=news) (zv:=zv) hu hux hti hts hbt hb1 hzv ⟨xa,xcap,ev⟩ (by omega) hby (by rw [hol2];exact orun) (erun _) ty
                  obtain ⟨A0,B0,C0⟩:=hW.place hfo (w':=w) (o:=o) (p:=⟨none,0⟩) (x:=gone) hol (by rw [ho];exact .inr ⟨_,_,_,_,rfl⟩) (.inr (by rw [ho];exact fun h=>h)) (.inl (by rw [ho];rfl)) (Still.refl _) (fun b _=>rfl) (fun b hb=>by cases hb)
                    (fun hE=>⟨Nat.le_refl _,fun i row hi=>(by cases hi),rfl⟩)
                  have hE0:=Env.le_of (fo:=fo) B0 C0
                  have hr3:getH (setH h o gone) r = .none:=by rw [getH_setH,if_neg (fun e=>hor e.1.symm)];exact hr2
                  have hr4:r<(setH h o gone).length:=by rw [setH_len];exact hr1
                  obtain ⟨A,B,C'⟩:=A0.place hfo (w':=({ w with drawn:=w.drawn+1 }:World).pushBlk (.cells (olds++news++Builtin.zeroCells zv.cells (newCap-(len+new.length))) e)) (o:=r) (p:=⟨some w.heap.size,newCap⟩) (x:=.cells (cs++new)) hr4 (by rw [hr3];trivial)
                    (.inl hr3) (.inr hr3) ((Still.drew _ _).push rfl) (fun b hb=>pushBlk_old (w:={ w with drawn:=w.drawn+1 }) _ hb) (fun b hb=>by injection hb with hb;omega) (fun hE=>by
                    refine ⟨w.heap.size,_,e,rfl,pushBlk_get (w:={ w with drawn:=w.drawn+1 }) _,⟨?_,?_⟩,fun i c hi=>?_⟩
                    · simp [esz,osz];omega
                    · show newCap=_
                      simp only [Array.size_append,zeroCells_size,hzs,esz,osz]
                      omega
                    · rw [nth_append] at hi
                      split at hi
                      · rename_i hlt
                        have h3:=(hrl.2 i c hi).mono (hE0.trans hE)
                        have:(olds++news++Builtin.zeroCells zv.cells (newCap-(len+new.length))).getD i undef=arr.getD i undef:=by
                          rw [Array.getD_eq_getD_getElem?,Array.append_assoc,Array.getElem?_append_left (by omega),oget i (by omega)];rfl
                        rw [this];exact h3
                      · rename_i hge
                        obtain ⟨y,y1,y2⟩:=err _ c hi
                        have hlt:=(Array.getElem?_eq_some_iff.1 y1).1
                        have:(olds++news++Builtin.zeroCells zv.cells (newCap-(len+new.length))).getD i undef=y:=by
                          rw [Array.getD_eq_getD_getElem?,Array.append_assoc,Array.getElem?_append_right (by omega),osz,←hcl,Array.getElem?_append_left hlt,y1];rfl
                        rw [this];exact y2.mono (hE0.trans hE))
                  refine ⟨.slice (some ⟨w.heap.size,0,none⟩) (len+new.length) newCap,_,_,.inl (hex _ _ hrun),.c ?_,A,B0.trans B,C0.trans C'⟩
                  refine .psl (.of (hgr _) (by show (updP _ _ _ _).blk=_;rw [updP_same])) hcap (.inr rfl) (fun cs' _=>?_)
                  show 0+newCap≤(updP _ _ _ _).cap
                  rw [updP_same,Nat.zero_add];exact Nat.le_refl _
            · cases he
          · cases he
        · cases he
      · cases he
    · cases he
  · cases he
theorem op_append (hfo:∀b,fo b→b<w.heap.size) (hW:RW P cfg h pl fo w) (hρ:Rho s (mkEnv h pl fo w) ρ) {o:Oper} {c:Call} {t tx e ex sz by_:Nat} {a x:Operand} {a' x':Opd} {z:List C} (ho:o.op = .call c) (hc:c.callee = .builtin .append) (hargs:c.args=#[a,x]) (hat:c.argTypes.toList.take 2=[t,tx])
    (hu:P.underlying t=some (.slice e)) (hux:P.underlying tx=some (.slice ex)) (hsz:sizeT P e=some sz) (hb:bytesT P e=some by_) (hz:zeroT P e=some z) (hzl:z.length=sz) (hs1:1≤sz) (hb1:1≤by_) (ha:cOpd a=some a') (hx:cOpd x=some x') {r:Nat} {v:V} {wr:Wr}
    (he:opEv r s h (.append sz by_ a' x')=some (v,wr)):OpRes P cfg h pl fo w ((execOp ρ o).run P w) v (applyW h wr):=by
  have h1:=hρ a a' ha
  have h2:=hρ x x' hx
  obtain ⟨ti,hti,hts⟩:=sizeT_info hsz
  have hbt:ti.bytes=by_:=by unfold bytesT at hb;rw [hti] at hb;simpa using hb
  have hex:∀cv w',(Builtin.append_ #[t,tx] o.type #[ρ a,ρ x]).run P w = .ok cv w'→(execOp ρ o).run P w = .ok (.value cv) w':=fun cv w' hcv=>by
    have hae:(Builtin.append_ c.argTypes o.type #[ρ a,ρ x]).run P w = .ok cv w':=by
      rw [←hcv]
      have e0:c.argTypes[0]?=some t:=by
        rw [←Array.getElem?_toList]
        cases hl:c.argTypes.toList with
        | nil=>rw [hl] at hat;simp at hat
        | cons q l=>rw [hl] at hat;simp at hat;simp [hat.1]
      have e1:c.argTypes[1]?=some tx:=by
        rw [←Array.getElem?_toList]
        cases hl:c.argTypes.toList with
        | nil=>rw [hl] at hat;simp at hat
        | cons q l=>cases l with
          | nil=>rw [hl] at hat;simp at hat
          | cons q2 l=>rw [hl] at hat;simp at hat;simp [hat.2]
      unfold Builtin.append_
      simp only [e0,e1]
      rfl
    simp only [execOp,ho,resolve,hc,hargs,Sem.run_bind,Sem.run_pure,Result.andThen_ok,invoke,builtin,List.map_toArray,List.map_cons,List.map_nil,hae]
  simp only [opEv] at he
  split at he
  · rename_i ca cb ea eb
    rw [ea] at h1;rw [eb] at h2
    split at he
    · exact appendC_ok hfo hW h1.c_inv h2.c_inv hu hux hti hts hbt hz hzl hb1 hex he
    · rename_i new hnew
      by_cases hh:headLen sz new=true
      · rw [if_pos hh] at he
        obtain ⟨xa,xcap,news,ev,erun,esz,err⟩:=src_ok (P:=P) (cfg:=cfg) hW hs1 h2.c_inv hnew hh
        -- behind a draw
        obtain ⟨d1,d2,d3⟩:=hW.world (w':={ w with drawn:=w.drawn+1 }) (Still.drew _ _) (fun b _=>rfl)
        have hEd:=Env.le_of (fo:=fo) d2 d3
        obtain ⟨ya,ycap,news2,ev2,erun2,esz2,err2⟩:=src_ok (P:=P) (cfg:=cfg) d1 hs1 (h2.c_inv.mono hEd) hnew hh
        obtain ⟨zv,hzv,hzs⟩:=zeroT_run hz hzl w
        split at he
        · -- a nil slice
          by_cases hby:new.length*by_≤2^40
          · rw [if_pos hby] at he
            simp only [newV] at he
            by_cases hhole:isHole h r=true
            · rw [if_pos hhole] at he;cases he
              have hav:ρ a = .slice none 0 0:=by generalize hv:ρ a=v0 at h1;cases h1.c_inv with | nils=>rfl
              obtain ⟨hr1,hr2⟩:=isHole_iff.1 hhole
              by_cases hn0:new.length=0
              · -- nothing is appended
                have hnn:new=[]:=List.length_eq_zero_iff.1 hn0
                subst hnn
                have hrun:=run_append_room (P:=P) (w:=w) (a:=none) (len:=0) (cap:=0) hu hux hti hts ⟨xa,xcap,ev⟩ (by simp) erun o.type
                obtain ⟨A,B,C'⟩:=hW.place hfo (w':=w) (o:=r) (p:=⟨none,0⟩) (x:=.arr false 0 sz []) hr1 (by rw [hr2];trivial) (.inl hr2) (.inr hr2) (Still.refl _) (fun b _=>rfl) (fun b hb=>by cases hb)
                  (fun hE=>⟨Nat.le_refl _,fun i row hi=>(by cases hi),rfl⟩)
                have hg:getH (setH h r (.arr false 0 sz [])) r = .arr false 0 sz []:=by rw [getH_setH,if_pos ⟨rfl,hr1⟩]
                refine ⟨.slice none 0 0,w,_,.inl (hex _ _ ?_),.c ?_,A,B,C'⟩
                · rw [hav];exact hrun
                · refine .sl hg (Nat.le_refl _) (Nat.le_refl _) (fun _=>⟨by simp,.inr (.inl ⟨?_,rfl,rfl⟩)⟩)
                  show (updP _ _ _ _).blk=_;rw [updP_same]
              · obtain ⟨newCap,hcap,hrun⟩:=run_append_grow (P:=P) (w:=w) (t:=t) (e:=e) (ti_:=0) (by_:=by_) (sz:=sz) (a:=none) (len:=0) (cap:=0) (x:=ρ x) (n:=new.length) (olds:=#[]) (news:=news2) (zv:=zv) hu hux hti hts hbt hb1 hzv ⟨ya,ycap,ev2⟩ (by omega) (by simpa using hby) rfl erun2 o.type
                simp only [Nat.zero_add] at hcap hrun
                refine OpRes.place (cap:=newCap) (w1:={ w with drawn:=w.drawn+1 }) (ob:=.cells (#[]++news2++Builtin.zeroCells zv.cells (newCap-new.length)) e) (cv:=.slice (some ⟨w.heap.size,0,none⟩) new.length newCap) hfo hW hhole rfl (hex _ _ (by rw [hav];exact hrun)) (fun hE=>?_) (fun hg=>?_)
                · have hrr:=RRows_pad (a2:=Builtin.zeroCells zv.cells (newCap-new.length)) (a1:=#[]++news2) (by simpa using err2)
                  refine ⟨hcap,hrr.1,_,e,pushBlk_get _ _,?_,fun i row j d hi hj=>?_⟩
                  · simp only [Array.size_append,zeroCells_size,hzs,esz2]
                    have:newCap*sz=new.length*sz+(newCap-new.length)*sz:=by rw [←Nat.add_mul];congr 1;omega
                    simp [this]
                  · obtain ⟨y,y1,y2⟩:=hrr.2 i row j d hi hj
                    exact ⟨y,y1,y2.mono hE.k0 hE.w0⟩
                · refine .sl hg (Nat.le_refl _) hcap (fun _=>⟨by simp,.inl ⟨w.heap.size,?_,by simp,?_⟩⟩)
                  · show (updP _ _ _ _).blk=_;rw [updP_same]
                  · show newCap=(updP _ _ _ _).cap-0;rw [updP_same];rfl
            · rw [if_neg hhole] at he;cases he
          · rw [if_neg hby] at he;cases he
        · rename_i o' ver off len
          split at he
          · rename_i ver' sz' rows hobj
            by_cases hcond:ver'=ver∧sz'=sz∧off=0∧len=rows.length∧(len+new.length)*by_≤2^40
            · rw [if_pos hcond] at he;cases he
              obtain ⟨rfl,rfl,rfl,rfl,hby⟩:=hcond
              generalize hav:ρ a=v0 at h1
              have hsl:=h1.c_inv
              have hslice:sliceRows h (.sl o' ver' 0 rows.length)=some rows:=by simp only [sliceRows,hobj,if_true];exact part_all rows
              have hhead:headLen sz' rows=true:=by
                have:=(hW.obj o')
                rw [hobj] at this
                cases rows with
                | nil=>rfl
                | cons r0 rs=>simp only [headLen,beq_iff_eq];exact this.2.1 0 r0 rfl
              cases hsl with
              | @sl _ _ _ _ cap aa fz2 ver2 sz2 rows2 ho' hver hl hbb=>
                have ho2:getH h o' = .arr fz2 ver2 sz2 rows2:=ho'
                rw [hobj] at ho2;cases ho2
                obtain ⟨hlen,hbb⟩:=hbb rfl
                have hol:=getH_lt (l:=h) (i:=o') (by rw [hobj];simp)
                have hg:getH (setH h o' (.arr false (ver'+1) sz' (rows++new))) o' = .arr false (ver'+1) sz' (rows++new):=by rw [getH_setH,if_pos ⟨rfl,hol⟩]
                have hle:(getH h o').le (.arr false (ver'+1) sz' (rows++new)):=by rw [hobj];exact ⟨_,_,_,rfl,by omega,fun e=>by omega⟩
                by_cases hroom:rows.length+new.length≤cap
                · -- there is room
                  have hrun:=run_append_room (P:=P) (w:=w) (a:=aa) (len:=rows.length) (cap:=cap) hu hux hti hts ⟨xa,xcap,ev⟩ hroom erun o.type
                  rcases hbb with ⟨b,hb2,rfl,rfl⟩ | ⟨hb2,rfl,rfl⟩ | ⟨hz0,_⟩
                  · have hb2':(pl o').blk=some b:=hb2
                    obtain ⟨arr,T,hblk,hsza,hrc,hrr⟩:=hW.rows hobj hb2'
                    simp only [Nat.zero_mul,Nat.sub_zero] at hroom hrun
                    have hcapp:(mkEnv h pl fo w).pl o'=pl o':=rfl
                    rw [hcapp] at hroom hrun
                    have hbound:rows.length*sz'+new.length*sz'≤arr.size:=by
                      have:(rows.length+new.length)*sz'≤(pl o').cap*sz':=Nat.mul_le_mul_right _ hroom
                      rw [Nat.add_mul] at this;omega
                    obtain ⟨arr',q1,q2,q3⟩:=run_storeCells_blk (P:=P) news.toList (rows.length*sz') 0 w arr hblk (by simp [esz];omega) (by
                      intro y hy
                      obtain ⟨k,hk,rfl⟩:=List.mem_iff_getElem.1 hy
                      have hk':k<new.length*sz':=by rw [←esz];simpa using hk
                      have h1:k / sz'<new.length:=Nat.div_lt_of_lt_mul (by rw [Nat.mul_comm];exact hk')
                      have h2':k % sz'<sz':=Nat.mod_lt _ hs1
                      obtain ⟨row,hrow⟩:=nth_some h1
                      obtain ⟨d,hd⟩:=nth_some (l:=row) (i:=k % sz') (by rw [err.1 _ _ hrow];exact h2')
                      obtain ⟨y,y1,y2⟩:=err.2 _ _ _ _ hrow hd
                      rw [show k / sz'*sz'+k % sz'=k by rw [Nat.mul_comm];exact Nat.div_add_mod k sz'] at y1
                      have:news.toList[k]=y:=by
                        have:=(Array.getElem?_eq_some_iff.1 y1).2
                        simpa using this
                      rw [this]
                      have:=y2.plain
                      cases y<;>first | rfl | cases this)
                    simp only [Nat.add_zero,Array.length_toList,esz] at q2
                    rw [Addr.add_mid,Nat.zero_add] at hrun
                    rw [q3] at hrun
                    simp only [Result.andThen_ok] at hrun
                    obtain ⟨A,B,C'⟩:=hW.update (o:=o') (x:=.arr false (ver'+1) sz' (rows++new)) (ob:=.cells arr' T (0,0)) (by rw [hobj];rfl) hb2' hle rfl (fun hE=>by
                      refine ⟨by simpa using hroom,fun i row hi=>?_,?_⟩
                      · rw [nth_append] at hi
                        split at hi
                        · exact hrr.1 _ _ hi
                        · exact err.1 _ _ hi
                      · rw [hb2']
                        refine ⟨arr',T,setBlk_get _ _ _ (Array.getElem?_eq_some_iff.1 hblk).1,by rw [q1];exact hsza,fun i row j d hi hj=>?_⟩
                        rw [nth_append] at hi
                        split at hi
                        · rename_i hlt
                          obtain ⟨y,y1,y2⟩:=hrr.2 _ _ _ _ hi hj
                          have hjl:=nth_lt hj
                          rw [hrr.1 _ _ hi] at hjl
                          refine ⟨y,?_,y2.mono hE.k0 hE.w0⟩
                          rw [q2,if_neg]
                          · exact y1
                          · have:(i+1)*sz'≤rows.length*sz':=Nat.mul_le_mul_right _ hlt
                            rw [Nat.add_mul,Nat.one_mul] at this;omega
                        · rename_i hge
                          obtain ⟨y,y1,y2⟩:=err.2 _ _ _ _ hi hj
                          have hlt2:=(Array.getElem?_eq_some_iff.1 y1).1
                          rw [esz] at hlt2
                          refine ⟨y,?_,y2.mono hE.k0 hE.w0⟩
                          have e1:rows.length*sz'≤i*sz':=Nat.mul_le_mul_right _ (by omega)
                          have e2:i*sz'+j-rows.length*sz'=(i-rows.length)*sz'+j:=by rw [Nat.sub_mul];omega
                          rw [q2,if_pos (by omega),e2,Array.getElem?_toList]
                          exact y1)
                    refine ⟨.slice (some ⟨b,0,none⟩) (rows.length+new.length) (pl o').cap,_,pl,.inl (hex _ _ (by rw [hav];show (Builtin.append_ #[t,tx] o.type #[.slice (some ⟨b,0*sz',none⟩) rows.length ((pl o').cap-0),ρ x]).run P w=_;simpa using hrun)),.c ?_,A,B,C'⟩
                    refine .sl hg (Nat.le_refl _) hroom (fun _=>⟨by simp,.inl ⟨b,hb2',by simp,rfl⟩⟩)
                  · -- nothing at all
                    have hr0:rows=[]:=List.length_eq_zero_iff.1 (by omega)
                    have hn0:new=[]:=List.length_eq_zero_iff.1 (by omega)
                    subst hr0;subst hn0
                    have hb2':(pl o').blk=none:=hb2
                    obtain ⟨A,B,C'⟩:=hW.place hfo (w':=w) (o:=o') (p:=⟨none,0⟩) (x:=.arr false (ver'+1) sz' []) hol (by simpa using hle) (.inr (by rw [hobj];show ¬(ver'=ver'+1);omega)) (.inl (by rw [hobj];rfl)) (Still.refl _) (fun b _=>rfl) (fun b hb=>by cases hb)
                      (fun hE=>⟨Nat.le_refl _,fun i row hi=>(by cases hi),rfl⟩)
                    refine ⟨.slice none 0 0,w,_,.inl (hex _ _ (by rw [hav];exact hrun)),.c ?_,A,B,C'⟩
                    refine .sl (show getH (setH h o' (.arr false (ver'+1) sz' [])) o' = .arr false (ver'+1) sz' [] by simpa using hg) (Nat.le_refl _) (Nat.le_refl _) (fun _=>⟨by simp,.inr (.inl ⟨?_,rfl,rfl⟩)⟩)
                    show (updP _ _ _ _).blk=_;rw [updP_same]
                  · exact (hz0 rfl).elim
                · -- it grows
                  have hRd:R (mkEnv h pl fo { w with drawn:=w.drawn+1 }) (.sl o' ver' 0 rows.length) (.slice aa rows.length cap):=(R.sl ho' hver hl (fun _=>⟨hlen,hbb⟩)).mono hEd
                  obtain ⟨oa,ocap,olds,oe,orun,osz,orr⟩:=src_ok (P:=P) (cfg:=cfg) d1 hs1 hRd hslice hhead
                  obtain ⟨newCap,hcap,hrun⟩:=run_append_grow (P:=P) (w:=w) (t:=t) (e:=e) (ti_:=0) (by_:=by_) (sz:=sz') (a:=aa) (len:=rows.length) (cap:=cap) (x:=ρ x) (n:=new.length) (olds:=olds) (news:=news2) (zv:=zv) hu hux hti hts hbt hb1 hzv ⟨ya,ycap,ev2⟩ (by omega) hby orun erun2 o.type
                  obtain ⟨A,B,C'⟩:=hW.place hfo (w':=({ w with drawn:=w.drawn+1 }:World).pushBlk (.cells (olds++news2++Builtin.zeroCells zv.cells (newCap-(rows.length+new.length))) e)) (o:=o') (p:=⟨some w.heap.size,newCap⟩) (x:=.arr false (ver'+1) sz' (rows++new)) hol hle
                    (.inr (by rw [hobj];show ¬(ver'=ver'+1);omega)) (.inl (by rw [hobj];rfl)) ((Still.drew _ _).push rfl) (fun b hb=>pushBlk_old (w:={ w with drawn:=w.drawn+1 }) _ hb) (fun b hb=>by injection hb with hb;omega) (fun hE=>by
                    have hrr:=RRows_pad (a2:=Builtin.zeroCells zv.cells (newCap-(rows.length+new.length))) (RRows_append orr osz err2)
                    refine ⟨by simpa using hcap,hrr.1,_,e,pushBlk_get (w:={ w with drawn:=w.drawn+1 }) _,?_,fun i row j d hi hj=>?_⟩
                    · simp only [Array.size_append,zeroCells_size,hzs,esz2,osz]
                      have:newCap*sz'=rows.length*sz'+new.length*sz'+(newCap-(rows.length+new.length))*sz':=by rw [←Nat.add_mul,←Nat.add_mul];congr 1;omega
                      omega
                    · obtain ⟨y,y1,y2⟩:=hrr.2 i row j d hi hj
                      exact ⟨y,y1,y2.mono hE.k0 hE.w0⟩)
                  refine ⟨.slice (some ⟨w.heap.size,0,none⟩) (rows.length+new.length) newCap,_,_,.inl (hex _ _ (by rw [hav];exact hrun)),.c ?_,A,B,C'⟩
                  refine .sl hg (Nat.le_refl _) hcap (fun _=>⟨by simp,.inl ⟨w.heap.size,?_,by simp,?_⟩⟩)
                  · show (updP _ _ _ _).blk=_;rw [updP_same]
                  · show newCap=(updP _ _ _ _).cap-0;rw [updP_same];rfl
            · rw [if_neg hcond] at he;cases he
          · cases he
        · cases he
      · rw [if_neg hh] at he;cases he
  · cases he
end
end Am
namespace Am
open Go
set_option linter.unusedVariables false
set_option linter.unusedSimpArgs false
variable {P:Program} {cfg:Cfg}
section
variable {h:List Obj} {pl:Nat→Pl} {fo:Kept} {w:World} {s:List V} {ρ:Operand→Value}
theorem bound_ok (hρ:Rho s (mkEnv h pl fo w) ρ) {x:Option Operand} {x':Option Opd} {dflt n:Nat} (hx:cOpt x=some x') (hb:bound s dflt x'=some n) :
    (x=none∧n=dflt)∨∃y k,x=some y∧ρ y = .int k n:=by
  cases x with
  | none=>cases hx;simp only [bound,Option.some.injEq] at hb;exact .inl ⟨rfl,hb.symm⟩
  | some y=>
    simp only [cOpt] at hx
    cases hy:cOpd y with
    | none=>rw [hy] at hx;cases hx
    | some z=>
      rw [hy] at hx;cases hx
      have:=hρ y z hy
      simp only [bound] at hb
      split at hb
      · rename_i k m e
        rw [e] at this
        split at hb
        · rename_i hm
          simp only [Option.some.injEq] at hb
          refine .inr ⟨y,k,rfl,?_⟩
          rw [this.c_inv.int_inv,←hb,Int.toNat_of_nonneg hm]
        · cases hb
      · cases hb
theorem op_slice (hW:RW P cfg h pl fo w) (hρ:Rho s (mkEnv h pl fo w) ρ) {o:Oper} {t e sz:Nat} {x:Operand} {lo hi:Option Operand} {x':Opd} {lo' hi':Option Opd} (ho:o.op = .slice t x lo hi none) (hu:P.underlying t=some (.slice e)) (hsz:sizeT P e=some sz)
    (hx:cOpd x=some x') (hlo:cOpt lo=some lo') (hhi:cOpt hi=some hi') {r:Nat} {v:V} {wr:Wr} (he:opEv r s h (.slice sz x' lo' hi')=some (v,wr)):OpRes P cfg h pl fo w ((execOp ρ o).run P w) v (applyW h wr):=by
  have h1:=hρ x x' hx
  obtain ⟨ti,hti,hts⟩:=sizeT_info hsz
  have hrun:∀(a:Option Addr) (len cap l u:Nat),ρ x = .slice a len cap→bound s 0 lo'=some l→bound s len hi'=some u→l≤u→u≤len→len≤cap →
      (execOp ρ o).run P w = .ok (.value (.slice (if cap=l then a else a.map (·.add (l*sz))) (u-l) (cap-l))) w:=fun a len cap l u ex bl bu h1 h2 h3=>by
    have q1:=bound_ok hρ hlo bl
    have q2:=bound_ok hρ hhi bu
    rcases q1 with ⟨rfl,rfl⟩ | ⟨yl,kl,rfl,el⟩<;>rcases q2 with ⟨rfl,rfl⟩ | ⟨yu,ku,rfl,eu⟩
    · simp [execOp,ho,Instr.sliceAt,hu,Instr.slice,ex,Instr.sliceBounds,hti,hts]
    · simp [execOp,ho,Instr.sliceAt,hu,Instr.slice,ex,Instr.sliceBounds,Instr.sliceBound,asIntOf,eu,hti,hts,show u≤cap by omega]
    · simp [execOp,ho,Instr.sliceAt,hu,Instr.slice,ex,Instr.sliceBounds,Instr.sliceBound,asIntOf,el,hti,hts,h1]
    · simp [execOp,ho,Instr.sliceAt,hu,Instr.slice,ex,Instr.sliceBounds,Instr.sliceBound,asIntOf,el,eu,hti,hts,h1,show u≤cap by omega]
  simp only [opEv] at he
  split at he
  · rename_i ex
    rw [ex] at h1
    split at he
    · rename_i bl bu
      cases he
      have hv:ρ x = .slice none 0 0:=by generalize hv:ρ x=v0 at h1;cases h1.c_inv with | nils=>rfl
      refine .pure hW (cv:=.slice none 0 0) ?_ (.c .nils)
      have:=hrun none 0 0 0 0 hv bl bu (Nat.le_refl _) (Nat.le_refl _) (Nat.le_refl _)
      simpa using this
    · cases he
  · rename_i tg rows ex
    rw [ex] at h1
    split at he
    · rename_i l u bl bu
      split at he
      · rename_i hc
        cases hp:part l (u-l) rows with
        | none=>rw [hp] at he;cases he
        | some q=>
          rw [hp] at he;cases he
          obtain ⟨p1,p2⟩:=part_spec hp
          generalize hv:ρ x=v0 at h1
          cases h1.c_inv with
          | lst hrd=>
            cases hrd with
            | nil a cap=>
              simp only [List.length_nil] at bu hc
              obtain ⟨h1,h2,_⟩:=hc
              have hu0:u=0:=by omega
              have hl0:l=0:=by omega
              subst hu0;subst hl0
              have hq:q=[]:=by cases q with
                | nil=>rfl
                | cons=>simp at p1
              subst hq
              refine .pure hW (cv:=.slice (if cap=0 then a else a.map (·.add (0*sz))) 0 cap) ?_ (.c (.lst (.nil _ _)))
              have:=hrun a 0 cap 0 0 hv bl bu (Nat.le_refl _) (Nat.le_refl _) (Nat.zero_le _)
              simpa using this
            | @lst _ b off cap sz' vs hK hcap hs hcc hr=>
              have hrn:=hrun _ _ _ l u hv bl bu hc.1 hc.2.1 hcap
              by_cases hlc:q=[]
              · subst hlc
                simp at p1
                refine .pure hW hrn (.c (.lst ?_))
                rw [show u-l=0 by omega]
                exact .nil _ _
              · have hlt:l<rows.length:=by
                  cases q with
                  | nil=>exact (hlc rfl).elim
                  | cons q0 qs=>simp at p1;omega
                have hsz':sz'=sz:=by
                  cases rows with
                  | nil=>simp at hlt
                  | cons r0 rs=>
                    have:=hs 0 r0 rfl
                    have h3:=hc.2.2
                    simp only [headLen,beq_iff_eq] at h3
                    omega
                subst hsz'
                refine .pure hW hrn (.c (.lst ?_))
                rw [if_neg (by omega)]
                simp only [Option.map_some,Addr.add_mid]
                rw [←p1]
                refine .lst sz' (fun i j=>vs (l+i) j) hK (by omega) (fun i row hi=>hs _ _ (part_mem hp hi)) (fun i row j d hi hj=>?_) (fun i row j d hi hj=>hr _ _ _ _ (part_mem hp hi) hj)
                have:=hcc _ _ _ _ (part_mem hp hi) hj
                rwa [show off+l*sz'+i*sz'+j=off+(l+i)*sz'+j by rw [Nat.add_mul];omega]
      · cases he
    · cases he
  · rename_i o' ver off len ex
    rw [ex] at h1
    split at he
    · rename_i l u bl bu
      split at he
      · rename_i fz ver' sz' rows hobj
        split at he
        · rename_i hc
          cases he
          obtain ⟨hc1,hc2,rfl⟩:=hc
          generalize hv:ρ x=v0 at h1
          cases h1.c_inv with
          | @sl _ _ _ _ cap a fz2 ver2 sz2 rows2 ho' hver hl hb=>
            have ho2:getH h o' = .arr fz2 ver2 sz2 rows2:=ho'
            rw [hobj] at ho2;cases ho2
            have hrn:=hrun _ _ _ l u hv bl bu hc1 hc2 hl
            refine .pure hW hrn (.c (.sl ho' hver (by omega) (fun ev=>?_)))
            obtain ⟨hlen,hb⟩:=hb ev
            refine ⟨by omega,?_⟩
            rcases hb with ⟨b,hb1,rfl,hcap⟩ | ⟨hb1,rfl,rfl⟩ | ⟨hb1,rfl⟩
            · by_cases hcl:cap=l
              · by_cases h0:off+l=0
                · refine .inl ⟨b,hb1,?_,by omega⟩
                  rw [if_pos hcl,show off=0 by omega,show (0:Nat)+l=0 by omega]
                · exact .inr (.inr ⟨h0,by omega⟩)
              · refine .inl ⟨b,hb1,?_,by omega⟩
                rw [if_neg hcl]
                simp only [Option.map_some,Addr.add_mid]
                rw [Nat.add_mul]
            · have hl0:l=0:=by omega
              subst hl0
              exact .inr (.inl ⟨hb1,by simp,by simp⟩)
            · exact .inr (.inr ⟨by omega,by omega⟩)
        · cases he
      · cases he
    · cases he
  · cases he
theorem op_pslice (hW:RW P cfg h pl fo w) (hρ:Rho s (mkEnv h pl fo w) ρ) {o:Oper} {t e len:Nat} {x:Operand} {lo hi:Option Operand} {x':Opd} {lo' hi':Option Opd} (ho:o.op = .slice t x lo hi none) (hu:P.underlying t=some (.array len e)) (hsz:sizeT P e=some 1)
    (hx:cOpd x=some x') (hlo:cOpt lo=some lo') (hhi:cOpt hi=some hi') {r:Nat} {v:V} {wr:Wr} (he:opEv r s h (.pslice len x' lo' hi')=some (v,wr)):OpRes P cfg h pl fo w ((execOp ρ o).run P w) v (applyW h wr):=by
  have h1:=hρ x x' hx
  obtain ⟨ti,hti,hts⟩:=sizeT_info hsz
  have hrun:∀(b p l u:Nat),ρ x = .pointer (some ⟨b,p,none⟩)→bound s 0 lo'=some l→bound s len hi'=some u→l≤u→u≤len →
      (execOp ρ o).run P w = .ok (.value (.slice (some (if len=l then ⟨b,p,none⟩ else ⟨b,p+l,none⟩)) (u-l) (len-l))) w:=fun b p l u ex bl bu h1 h2=>by
    have q1:=bound_ok hρ hlo bl
    have q2:=bound_ok hρ hhi bu
    rcases q1 with ⟨rfl,rfl⟩ | ⟨yl,kl,rfl,el⟩<;>rcases q2 with ⟨rfl,rfl⟩ | ⟨yu,ku,rfl,eu⟩
    · simp [execOp,ho,Instr.sliceAt,hu,ex,Instr.sureAddr,Instr.sliceBounds,hti,hts,Addr.add_mid]
    · simp [execOp,ho,Instr.sliceAt,hu,ex,Instr.sureAddr,Instr.sliceBounds,Instr.sliceBound,asIntOf,eu,hti,hts,h2,Addr.add_mid]
    · simp [execOp,ho,Instr.sliceAt,hu,ex,Instr.sureAddr,Instr.sliceBounds,Instr.sliceBound,asIntOf,el,hti,hts,h1,Addr.add_mid]
    · simp [execOp,ho,Instr.sliceAt,hu,ex,Instr.sureAddr,Instr.sliceBounds,Instr.sliceBound,asIntOf,el,eu,hti,hts,h1,h2,Addr.add_mid]
  simp only [opEv] at he
  split at he
  · rename_i o' off ex
    rw [ex] at h1
    split at he
    · rename_i l u cs bl bu hg
      split at he
      · rename_i hc
        cases he
        generalize hv:ρ x=v0 at h1
        cases h1.c_inv with
        | @ptr _ _ b hb=>
          refine .pure hW (hrun _ _ l u hv bl bu hc.1 hc.2.1) (.c (.psl hb (by omega) ?_ ?_))
          · by_cases hl:len=l
            · left;omega
            · right;rw [if_neg hl]
          · intro cs' h'
            have hro:=hW.obj o'
            rw [hg] at hro
            obtain ⟨_,arr,_,_,_,hrl⟩:=hro
            have e1:=hrl.1.1
            have e2:(pl o').cap=arr.size:=hrl.1.2
            show off+l+(len-l)≤(pl o').cap
            omega
      · cases he
    · cases he
  · cases he
theorem flat_nth : ∀{rows:List (List D)} (_:∀(i:Nat) (row:List D),nth rows i=some row→row.length=1) {i:Nat} {x:C},nth (rows.flatMap fun r=>r.map (C.ofD false)) i=some x→∃row d,nth rows i=some row∧nth row 0=some d∧x=C.ofD false d
  | [],_,i,x,hx=>by cases hx
  | r::rows,h,i,x,hx=>by
    have h0:=h 0 r rfl
    match r,h0 with
    | [d],_=>
      cases i with
      | zero=>cases hx;exact ⟨[d],d,rfl,rfl,rfl⟩
      | succ i=>
        obtain ⟨row,d',a,b,c⟩:=flat_nth (rows:=rows) (fun i row hi=>h (i+1) row hi) (i:=i) (x:=x) hx
        exact ⟨row,d',a,b,c⟩
theorem flat_len : ∀{rows:List (List D)} (_:∀(i:Nat) (row:List D),nth rows i=some row→row.length=1),(rows.flatMap fun r=>r.map (C.ofD false)).length=rows.length
  | [],_=>rfl
  | r::rows,h=>by
    have h0:=h 0 r rfl
    have ih:=flat_len (rows:=rows) (fun i row hi=>h (i+1) row hi)
    rw [List.flatMap_cons,List.length_append,List.length_map,ih,h0,List.length_cons]
    omega
theorem op_copy (hW:RW P cfg h pl fo w) (hρ:Rho s (mkEnv h pl fo w) ρ) {o:Oper} {t e:Nat} {c:Call} {x y:Operand} {x' y':Opd} (ho:o.op = .call c) (hc:c.callee = .builtin .copy) (ha:c.args=#[x,y]) (ht:c.argTypes[0]?=some t) (hu:P.underlying t=some (.slice e)) (hsz:sizeT P e=some 1)
    (hx:cOpd x=some x') (hy:cOpd y=some y') {r:Nat} {v:V} {wr:Wr} (he:opEv r s h (.copy x' y')=some (v,wr)):OpRes P cfg h pl fo w ((execOp ρ o).run P w) v (applyW h wr):=by
  have h1:=hρ x x' hx
  have h2:=hρ y y' hy
  obtain ⟨ti,hti,hts⟩:=sizeT_info hsz
  simp only [opEv] at he
  split at he
  · rename_i o' off len b ex ey
    rw [ex] at h1;rw [ey] at h2
    split at he
    · rename_i new hnew
      split at he
      · rename_i hq
        simp only [Bool.and_eq_true,decide_eq_true_eq] at hq
        obtain ⟨⟨hh,hsc⟩,hle⟩:=hq
        obtain ⟨a2,cap2,arr2,ev2,hfc,hsz2,hrows⟩:=src_ok hW (Nat.le_refl 1) h2.c_inv hnew hh
        have hr1:∀(i:Nat) (row:List D),nth new i=some row→row.length=1:=fun i row hi=>hrows.1 i row hi
        have hfl:=flat_len hr1
        rw [Nat.mul_one] at hsz2
        generalize hv:ρ x=v0 at h1
        cases h1.c_inv with
        | @psl _ _ _ cap bb a hb0 hl haa _=>
          cases ho2:getH h o' with
          | none=>simp only [storeC,ho2] at he;cases he
          | arr=>simp only [storeC,ho2] at he;cases he
          | map=>simp only [storeC,ho2] at he;cases he
          | loop=>simp only [storeC,ho2] at he;cases he
          | cells cs=>
          have hb:=hb0.blk ho2
          simp only [storeC,ho2] at he
          cases hs:splice off (new.flatMap fun r=>r.map (C.ofD false)) cs with
          | none=>simp only [hs] at he;cases he
          | some cs'=>
            simp only [hs] at he;cases he
            obtain ⟨s1,s2,s3⟩:=splice_spec hs
            rw [hfl] at s2 s3
            have hro:=hW.obj o'
            rw [ho2] at hro
            obtain ⟨b',arr,T,hb',hblk0,hrl⟩:=hro
            have hblk:w.heap[b']?=some (.cells arr T (0,0)):=hblk0
            have:b'=bb:=by have:=hb'.symm.trans hb;injection this
            subst this
            have hone:∀z∈arr2.toList,z.oneCell'=true:=by
              intro z hz
              obtain ⟨i,hi,e⟩:=List.getElem_of_mem hz
              have hi':i<arr2.size:=by simpa using hi
              obtain ⟨row,hrow⟩:=nth_some (l:=new) (i:=i) (by omega)
              obtain ⟨d,hd⟩:=nth_some (l:=row) (i:=0) (by rw [hr1 i row hrow];exact Nat.zero_lt_one)
              obtain ⟨z',e1,e2⟩:=hrows.2 i row 0 d hrow hd
              rw [Nat.mul_one,Nat.add_zero] at e1
              have e3:arr2[i]?=some z:=by rw [←e];simp [hi']
              rw [e3] at e1
              cases e1
              cases e2<;>rfl
            obtain ⟨arr',q1,q2,q3⟩:=run_storeCells_blk (P:=P) arr2.toList off 0 w arr hblk (by simp [hsz2];exact Nat.le_trans s2 hrl.1.1) hone
            have q2':∀j,arr'[j]?=if off≤j∧j<off+new.length then arr2[j-off]? else arr[j]?:=fun j=>by
              rw [q2 j];simp only [Nat.add_zero,Array.length_toList,hsz2,Array.getElem?_toList]
            have hrun:(execOp ρ o).run P w = .ok (.value (.int .i64 (new.length:Int))) (w.setBlk b' (.cells arr' T (0,0))):=by
              have hmin:Nat.min new.length len=new.length:=Nat.min_eq_left hle
              have hstore:∀a0,a=some a0→(storeCells a0 arr2.toList).run P w = .ok () (w.setBlk b' (.cells arr' T (0,0))):=fun a0 ha0=>by
                rcases haa with h0 | h0
                · have hn0:new.length=0:=by omega
                  have e0:arr2.toList=[]:=by rw [←List.length_eq_zero_iff,Array.length_toList,hsz2,hn0]
                  have hself:w.setBlk b' (.cells arr' T (0,0))=w:=by
                    have:arr'=arr:=by
                      apply Array.ext_getElem?
                      intro j
                      rw [q2' j,if_neg (by omega)]
                    rw [this];exact setBlk_self hblk
                  rw [e0,hself];simp [storeCells]
                · rw [h0] at ha0;cases ha0;exact q3
              have hnone:a=none→w.setBlk b' (.cells arr' T (0,0))=w:=fun hn=>by
                rcases haa with h0 | h0
                · have:arr'=arr:=by
                    apply Array.ext_getElem?
                    intro j
                    rw [q2' j,if_neg (by omega)]
                  rw [this];exact setBlk_self hblk
                · rw [hn] at h0;cases h0
              have hlen:Builtin.lenOf (ρ y)=pure new.length:=by rw [ev2];rfl
              simp only [execOp,ho,resolve,hc,ha,invoke,builtin]
              simp [Builtin.copy_,ht,hu,hv,hlen,hti,hts,hmin,hfc,goInt]
              cases a with
              | none=>simp [hnone rfl]
              | some a0=>simp [hstore a0 rfl]
            obtain ⟨A,B,C'⟩:=hW.update (o:=o') (x:=.cells cs') (ob:=.cells arr' T (0,0)) (by rw [ho2];rfl) hb' (by rw [ho2];exact .inl ⟨_,rfl⟩) rfl (fun hE=>by
              refine ⟨b',arr',T,hb',setBlk_get _ _ _ (Array.getElem?_eq_some_iff.1 hblk).1,⟨by rw [q1,s1];exact hrl.1.1,by rw [q1];exact hrl.1.2⟩,fun i c hc=>?_⟩
              rw [s3 i] at hc
              by_cases hi:off≤i∧i<off+new.length
              · rw [if_pos hi] at hc
                obtain ⟨row,d,e1,e2,rfl⟩:=flat_nth hr1 hc
                obtain ⟨z',e3,e4⟩:=hrows.2 _ row 0 d e1 e2
                rw [Nat.mul_one,Nat.add_zero] at e3
                have e:arr'.getD i undef=z':=by
                  simp only [Array.getD_eq_getD_getElem?];rw [q2' i,if_pos hi,e3];rfl
                rw [e]
                exact (R_ofD (t:=false) e4).mono hE
              · rw [if_neg hi] at hc
                have:=(hrl.2 _ _ hc).mono hE
                have e:arr'.getD i undef=arr.getD i undef:=by
                  simp only [Array.getD_eq_getD_getElem?];rw [q2' i,if_neg hi]
                rw [e];exact this)
            exact ⟨_,_,pl,.inl hrun,.c (.int _ _),A,B,C'⟩
      · cases he
    · cases he
  · cases he
end
end Am
namespace Am
open Go
set_option linter.unusedVariables false
set_option linter.unusedSimpArgs false
variable {P:Program} {cfg:Cfg}
section
theorem keyEq_eqCs : ∀{ks:List (Option IntKind)} {a b:List D},kindsD ks a=true→kindsD ks b=true→eqCs ks (a.map (C.ofD false)) (b.map (C.ofD false))=some (keyEq a b)
  | [],[],[],_,_=>rfl
  | some k::ks,.int k1 x::a,.int k2 y::b,h1,h2=>by
    simp only [kindsD,Bool.and_eq_true,beq_iff_eq] at h1 h2
    have:=keyEq_eqCs h1.2 h2.2
    simp only [List.map_cons,C.ofD,eqCs,this,keyEq,D.key]
    rw [if_pos (by simp [←h1.1,←h2.1])]
    rfl
  | none::ks,.bool x::a,.bool y::b,h1,h2=>by
    have:=keyEq_eqCs (ks:=ks) (a:=a) (b:=b) (by simpa [kindsD] using h1) (by simpa [kindsD] using h2)
    simp only [List.map_cons,C.ofD,eqCs,this,keyEq,D.key]
    rfl
  | [],_::_,_,h1,_=>by simp [kindsD] at h1
  | [],[],_::_,_,h2=>by simp [kindsD] at h2
  | _::_,[],_,h1,_=>by simp [kindsD] at h1
  | some _::_,.bool _::_,_,h1,_=>by simp [kindsD] at h1
  | some _::_,.lst _::_,_,h1,_=>by simp [kindsD] at h1
  | none::_,.int _ _::_,_,h1,_=>by simp [kindsD] at h1
  | none::_,.lst _::_,_,h1,_=>by simp [kindsD] at h1
  | some _::_,.int _ _::_,[],_,h2=>by simp [kindsD] at h2
  | some _::_,.int _ _::_,.bool _::_,_,h2=>by simp [kindsD] at h2
  | some _::_,.int _ _::_,.lst _::_,_,h2=>by simp [kindsD] at h2
  | none::_,.bool _::_,[],_,h2=>by simp [kindsD] at h2
  | none::_,.bool _::_,.int _ _::_,_,h2=>by simp [kindsD] at h2
  | none::_,.bool _::_,.lst _::_,_,h2=>by simp [kindsD] at h2
theorem kindsD_len : ∀{ks:List (Option IntKind)} {a:List D},kindsD ks a=true→a.length=ks.length
  | [],[],_=>rfl
  | some k::ks,.int k1 x::a,h1=>by simp only [kindsD,Bool.and_eq_true] at h1;simp [kindsD_len h1.2]
  | none::ks,.bool x::a,h1=>by simp [kindsD_len (ks:=ks) (a:=a) (by simpa [kindsD] using h1)]
  | [],_::_,h1=>by simp [kindsD] at h1
  | _::_,[],h1=>by simp [kindsD] at h1
  | some _::_,.bool _::_,h1=>by simp [kindsD] at h1
  | some _::_,.lst _::_,h1=>by simp [kindsD] at h1
  | none::_,.int _ _::_,h1=>by simp [kindsD] at h1
  | none::_,.lst _::_,h1=>by simp [kindsD] at h1
structure KeyT (P:Program) (t:Nat) (ka:Bool) (ks:List (Option IntKind)):Prop where
  agg:isAgg P t=some ka
  flat:flatK P 20 t=some ks
  size:sizeT P t=some ks.length
theorem KeyT.one {t:Nat} {ks:List (Option IntKind)} (K:KeyT P t false ks):ks.length=1:=by
  have h1:flatK P (19+1) t=some ks:=K.flat
  have h2:=K.agg
  unfold isAgg at h2
  unfold flatK at h1
  cases hu:P.underlying t with
  | none=>rw [hu] at h2;cases h2
  | some d=>
    rw [hu] at h1 h2
    cases d<;>simp only [Option.map_some,Option.some.injEq,Bool.true_eq_false] at h2<;>simp only [Option.some.injEq,reduceCtorEq] at h1
    · rw [←h1];rfl
    · rw [←h1];rfl
theorem KeyT.val {t:Nat} {ka:Bool} {ks:List (Option IntKind)} (K:KeyT P t ka ks) {E:Env} {key:List D} (hk:kindsD ks key=true) {vs:Array Value} (hs:vs.size=key.length) (hv:∀(i:Nat) (d:D),nth key i=some d→RD (fun _=>True) E.w d (vs.getD i undef)) :
    ValT P E t (key.map (C.ofD false)) (valOf ka vs):=by
  have hsc:=kindsD_scal hk
  have hR:∀(i:Nat) (c:C),nth (key.map (C.ofD false)) i=some c→R E c (vs.getD i undef):=fun i c hc=>by
    rw [nth_map] at hc
    cases hd:nth key i with
    | none=>rw [hd] at hc;cases hc
    | some d=>rw [hd] at hc;cases hc;exact R_ofD (RD_scal (hv i d hd) (hsc i d hd))
  have hlen:=kindsD_len hk
  cases ka with
  | true=>
    refine ⟨some ks.length,.agg (key.map (C.ofD false)),by simp [shapeT,K.agg,K.size],by simp [V.ofCells,hlen],?_⟩
    exact .agg (by simp [hs]) hR
  | false=>
    have h1:=K.one
    rw [h1] at hlen
    cases key with
    | nil=>cases hlen
    | cons d l=>
      cases l with
      | cons _ _=>simp at hlen
      | nil=>
        refine ⟨none,.c (C.ofD false d),by simp only [shapeT,K.agg,K.size,h1],rfl,.c ?_⟩
        exact hR 0 _ rfl
theorem KeyT.eq {t:Nat} {ka:Bool} {ks:List (Option IntKind)} (K:KeyT P t ka ks) {E:Env} {a b:List D} (ha:kindsD ks a=true) (hb:kindsD ks b=true) {x y:Value} (hx:ValT P E t (a.map (C.ofD false)) x) (hy:ValT P E t (b.map (C.ofD false)) y) (w:World) :
    (Op.equal t x y).run P w = .ok (keyEq a b) w:=
  equalIn_flat w 20 t ks K.flat K.size _ _ x y _ hx hy (keyEq_eqCs ha hb) 9980
theorem checkKey_flat {E:Env} (w:World) (emp:Bool):∀(m t:Nat) (ks:List (Option IntKind)),flatK P m t=some ks→sizeT P t=some ks.length→∀(as:List C) (x:Value),as.length=ks.length→ValT P E t as x→∀d,(Instr.checkKey emp (d+m) t x).run P w = .ok () w
  | 0,_,_,h,_,_,_,_,_,_=>by cases h
  | m+1,t,ks,h,hs,as,x,hl,hx,d=>by
    unfold flatK at h
    cases hu:P.underlying t with
    | none=>rw [hu] at h;cases h
    | some dd=>
      rw [hu] at h
      cases dd with
      | bool=>simp [Instr.checkKey,show d+(m+1)=(d+m)+1 by omega,hu]
      | int k=>simp [Instr.checkKey,show d+(m+1)=(d+m)+1 by omega,hu]
      | struct fs=>
        simp only at h
        have ha:isAgg P t=some true:=by simp [isAgg,hu]
        obtain ⟨xs,rfl,rx⟩:=hx.agg ha
        by_cases hp:P.stoodInHeld t=true
        · rw [if_pos hp] at h;cases h
        · rw [if_neg hp] at h
          rw [show d+(m+1)=(d+m)+1 by omega]
          simp only [Instr.checkKey,Sem.run_bind,run_underlying',hu,Result.andThen_ok]
          rw [←Array.forIn_toList]
          have key:∀(l:List Field) (off:Nat) (ks:List (Option IntKind)),flatK.flds P (flatK P m) l off=some ks→(dropN off as).length=ks.length →
              (forIn l PUnit.unit (fun f _=>do
                if f.name ≠ "_" then
                  let v ←Go.part f.type xs f.offset
                  Instr.checkKey emp (d+m) f.type v
                  pure (ForInStep.yield PUnit.unit)
                else pure (ForInStep.yield PUnit.unit)):Sem PUnit).run P w = .ok PUnit.unit w:=by
            intro l
            induction l with
            | nil=>intro off ks h1 _;simp
            | cons f l ih=>
              intro off ks h1 h2
              unfold flatK.flds at h1
              split at h1
              · rename_i kf sz rest g1 g2 g3
                by_cases hc : f.name ≠ "_" ∧ f.offset = off ∧ kf.length = sz
                · rw [if_pos hc] at h1;cases h1
                  obtain ⟨hn,ho,hl'⟩:=hc
                  subst hl'
                  have hsh:=flatK_shape g1 g2
                  obtain ⟨A1,A2,hsplit,htl⟩:∃A1 A2,dropN off as=A1++A2∧A1.length=kf.length:=⟨_,_,(List.take_append_drop kf.length _).symm,by rw [List.length_take,h2];simp⟩
                  obtain ⟨vx,px,tx⟩:=ValT_part (t:=f.type) (off:=f.offset) g2 hsh rx (by rw [ho];exact hsplit) htl w
                  have hq:=checkKey_flat w emp m f.type kf g1 g2 _ vx htl tx d
                  have hih:=ih (off+kf.length) rest (by rw [g2] at g3;exact g3) (by rw [dropN_add,hsplit,←htl,dropN_append];have:=congrArg List.length hsplit;rw [h2] at this;simp at this;omega)
                  rw [List.forIn_cons]
                  simp only [ne_eq,hn,not_false_eq_true,if_true,Sem.run_bind,px,Result.andThen_ok,hq,Sem.run_pure]
                  exact hih
                · rw [if_neg hc] at h1;cases h1
              · cases h1
          have:=key fs.toList 0 ks h (by simpa [dropN] using hl)
          simp only [this,Result.andThen_ok]
          first | rfl | exact this | simp [this]
      | array len e=>
        simp only at h
        have ha:isAgg P t=some true:=by simp [isAgg,hu]
        obtain ⟨xs,rfl,rx⟩:=hx.agg ha
        split at h
        · rename_i ke sz g1 g2
          by_cases hl':ke.length=sz
          · rw [if_pos hl'] at h;cases h
            obtain ⟨i,hi,hsz⟩:=sizeT_info g2
            subst hl'
            have hsh:=flatK_shape g1 g2
            rw [show d+(m+1)=(d+m)+1 by omega]
            simp only [Instr.checkKey,Sem.run_bind,run_underlying',hu,Result.andThen_ok]
            simp only [Std.Legacy.Range.forIn_eq_forIn_range',Std.Legacy.Range.size,Nat.sub_zero,Nat.add_one_sub_one,Nat.div_one]
            have key:∀(k i:Nat),(dropN (i*ke.length) as).length=k*ke.length →
                (forIn (List.range' i k) PUnit.unit (fun i _=>do
                let s ←Go.sizeOf e
                let v ←Go.part e xs (i*s)
                Instr.checkKey emp (d+m) e v
                pure (ForInStep.yield PUnit.unit)):Sem PUnit).run P w = .ok PUnit.unit w:=by
              intro k
              induction k with
              | zero=>intro i _;simp
              | succ k ih=>
                intro i h2
                obtain ⟨A1,A2,hsplit,htl⟩:∃A1 A2,dropN (i*ke.length) as=A1++A2∧A1.length=ke.length:=⟨_,_,(List.take_append_drop ke.length _).symm,by rw [List.length_take,h2,Nat.add_mul,Nat.one_mul];omega⟩
                obtain ⟨vx,px,tx⟩:=ValT_part (t:=e) (off:=i*ke.length) g2 hsh rx hsplit htl w
                have hq:=checkKey_flat w emp m e ke g1 g2 _ vx htl tx d
                have hih:=ih (i+1) (by rw [Nat.add_mul,Nat.one_mul,dropN_add,hsplit];have h9:=congrArg List.length hsplit;rw [h2,Nat.add_mul,Nat.one_mul,List.length_append,htl] at h9;have h8:dropN ke.length (A1++A2)=A2:=(by rw [←htl];exact dropN_append _ _);rw [h8];omega)
                rw [List.range'_succ,List.forIn_cons]
                simp only [Sem.run_bind,run_sizeOf',hi,hsz,Result.andThen_ok,px,hq,Sem.run_pure]
                exact hih
            have:=key len 0 (by simp only [Nat.zero_mul,dropN];rw [hl];simp)
            first | exact this | (simp only [this,Result.andThen_ok];rfl) | simp [this]
          · rw [if_neg hl'] at h;cases h
        · cases h
      | _=>cases h
end
end Am
namespace Am
open Go
set_option linter.unusedVariables false
set_option linter.unusedSimpArgs false
variable {P:Program} {cfg:Cfg}
section
variable {h:List Obj} {pl:Nat→Pl} {fo:Kept} {w:World} {s:List V} {ρ:Operand→Value}
theorem run_getMap {r:Nat} {es:Array MapEntry} {clock:Nat} (hb:w.heap[r]?=some (.map es clock)):(getObj r).run P w = .ok (.map es clock) w:=by
  simp [getObj,Sem.run,hb]
theorem run_setMap {r:Nat} {es:Array MapEntry} {clock:Nat} (o:Go.Obj) (hb:w.heap[r]?=some (.map es clock)):(setObj r o).run P w = .ok () (w.setBlk r o):=by
  simp [setObj,Sem.run,hb,World.setBlk]
theorem key_ok {E:Env} {x:V} {v:Value} {ka:Bool} {t:Nat} {ks:List (Option IntKind)} {key:List D} (K:KeyT P t ka ks) (hr:RV E x v) (ha:V.isAgg x=ka) (hd:toDs h x.cells=some (key,[])) (hk:kindsD ks key=true) :
    ∃vs:Array Value,v=valOf ka vs∧vs.size=key.length∧∀(i:Nat) (d:D),nth key i=some d→RD (fun _=>True) E.w d (vs.getD i undef):=by
  have hsc:=kindsD_scal hk
  have hlen:=kindsD_len hk
  cases x with
  | c x=>
    cases ha
    have hR:=hr.c_inv
    obtain ⟨a,b⟩:=toDs_ok (E:=E) (cs:=[x]) (vs:=#[v]) ⟨rfl,fun i c hc=>by
      cases i with
      | zero=>cases hc;exact hR
      | succ i=>cases hc⟩ hd
    exact ⟨#[v],rfl,by simp [a],fun i d hi=>RD_scal (b i d hi) (hsc i d hi)⟩
  | agg cs=>
    cases ha
    cases hr with
    | agg hn hR=>
      rename_i vs
      obtain ⟨a,b⟩:=toDs_ok (E:=E) (cs:=cs) (vs:=vs) ⟨hn,hR⟩ hd
      refine ⟨vs,rfl,?_,fun i d hi=>RD_scal (b i d hi) (hsc i d hi)⟩
      rw [a];exact hn
  | tup xs=>
    cases ha
    cases hd
    rw [K.one] at hlen
    cases hlen
def Entries (E:Env) (ka va:Bool) (ks:List (Option IntKind)):List (List D × List C)→List MapEntry→Prop
  | [],[]=>True
  | e::es,e'::l=>REntry E ka va ks e.1 e.2 e'∧Entries E ka va ks es l
  | _,_=>False
theorem Entries.of {E:Env} {ka va:Bool} {ks:List (Option IntKind)}:∀{es:List (List D × List C)} {l:List MapEntry},l.length=es.length→(∀(i:Nat) (e:List D × List C),nth es i=some e→∃e',l[i]?=some e'∧REntry E ka va ks e.1 e.2 e')→Entries E ka va ks es l
  | [],[],_,_=>trivial
  | [],_::_,h,_=>by cases h
  | _::_,[],h,_=>by cases h
  | e::es,e'::l,hl,h=>by
    obtain ⟨x,h1,h2⟩:=h 0 e rfl
    cases h1
    exact ⟨h2,Entries.of (by simpa using hl) fun i e hi=>h (i+1) e hi⟩
theorem Entries.to {E:Env} {ka va:Bool} {ks:List (Option IntKind)}:∀{es:List (List D × List C)} {l:List MapEntry},Entries E ka va ks es l→l.length=es.length∧(∀(i:Nat) (e:List D × List C),nth es i=some e→∃e',l[i]?=some e'∧REntry E ka va ks e.1 e.2 e')
  | [],[],_=>⟨rfl,fun i e h=>by cases h⟩
  | [],_::_,h=>h.elim
  | _::_,[],h=>h.elim
  | e::es,e'::l,h=>by
    obtain ⟨a,b⟩:=h.2.to
    refine ⟨by simp [a],fun i x hx=>?_⟩
    cases i with
    | zero=>cases hx;exact ⟨e',rfl,h.1⟩
    | succ i=>exact b i x hx
def foundI (k:List D):List (List D × List C)→List MapEntry→Nat→Option (Nat × Value)
  | e::es,e'::l,i=>if keyEq k e.1 then some (i,e'.val) else foundI k es l (i+1)
  | _,_,_=>none
theorem REntry.keyVal {E:Env} {t:Nat} {ka va:Bool} {ks:List (Option IntKind)} (K:KeyT P t ka ks) {k:List D} {v:List C} {e:MapEntry} (he:REntry E ka va ks k v e):ValT P E t (k.map (C.ofD false)) e.key:=by
  obtain ⟨vs,h1,h2,_,h4⟩:=he.key
  rw [h1]
  exact K.val he.scal h2 h4
theorem asking_ok {E:Env} {t:Nat} {ka va:Bool} {ks:List (Option IntKind)} (K:KeyT P t ka ks) {k:List D} {kv:Value} (hk:kindsD ks k=true) (hkv:ValT P E t (k.map (C.ofD false)) kv) (w:World) :
    ∀(es:List (List D × List C)) (l:List MapEntry) (i:Nat),Entries E ka va ks es l→(Instr.findAsking t kv l i).run P w = .ok (foundI k es l i) w
  | [],[],i,_=>by simp [Instr.findAsking,foundI]
  | [],_::_,_,h=>h.elim
  | _::_,[],_,h=>h.elim
  | e::es,e'::l,i,h=>by
    simp only [Instr.findAsking,Sem.run_bind,K.eq hk h.1.scal hkv (h.1.keyVal K),Result.andThen_ok,foundI]
    by_cases hq:keyEq k e.1=true
    · rw [hq];rfl
    · rw [Bool.eq_false_iff.2 hq]
      exact asking_ok K hk hkv w es l (i+1) h.2
theorem sameNow_ok {ka va:Bool} {E:Env} {ks:List (Option IntKind)} {k:List D} {vs:Array Value} (hk:kindsD ks k=true) (hl:ka=false→k.length=1) (hs:vs.size=k.length) (hv:∀(i:Nat) (d:D),nth k i=some d→RD (fun _=>True) E.w d (vs.getD i undef))
    {k':List D} {v:List C} {e:MapEntry} (he:REntry E ka va ks k' v e) {d:TypeDesc} {b:Bool} (h:Instr.sameNow d (valOf ka vs) e.key=some b):b=keyEq k k':=by
  obtain ⟨vs',h1,h2,h3,h4⟩:=he.key
  rw [h1] at h
  cases ka with
  | true=>
    simp only [valOf,if_true] at h
    unfold Instr.sameNow at h
    split at h<;>simp_all
  | false=>
    have hl:=hl rfl
    have h3:=h3 rfl
    have hk':=he.scal
    match k,k',hl,h3 with
    | [a],[a'],_,_=>
      have r1:=hv 0 a rfl
      have r2:=h4 0 a' rfl
      simp only [valOf,Bool.false_eq_true,if_false] at h
      generalize vs.getD 0 undef=x at *
      generalize vs'.getD 0 undef=y at *
      cases ks with
      | nil=>simp [kindsD] at hk
      | cons kd ks=>
        cases kd with
        | none=>
          cases a<;>simp [kindsD] at hk
          cases a'<;>simp [kindsD] at hk'
          cases r1;cases r2
          cases d<;>simp [Instr.sameNow] at h
          simp [keyEq,D.key,←h]
        | some kd=>
          cases a<;>simp [kindsD] at hk
          cases a'<;>simp [kindsD] at hk'
          cases r1;cases r2
          cases d<;>simp [Instr.sameNow] at h
          simp [keyEq,D.key,←h.2]
theorem now_ok {ka va:Bool} {E:Env} {ks:List (Option IntKind)} {k:List D} {vs:Array Value} (hk:kindsD ks k=true) (hl:ka=false→k.length=1) (hs:vs.size=k.length) (hv:∀(i:Nat) (d:D),nth k i=some d→RD (fun _=>True) E.w d (vs.getD i undef)) {d:TypeDesc} :
    ∀(es:List (List D × List C)) (l:List MapEntry) (i:Nat) (r:Option (Nat × Value)),Entries E ka va ks es l→Instr.findNow d (valOf ka vs) l i=some r→r=foundI k es l i
  | [],[],i,r,_,h=>by simp only [Instr.findNow,Option.some.injEq] at h;exact h.symm
  | [],_::_,_,_,h,_=>h.elim
  | _::_,[],_,_,h,_=>h.elim
  | e::es,e'::l,i,r,h,hr=>by
    simp only [Instr.findNow] at hr
    split at hr
    · rename_i hq
      cases hr
      have:=sameNow_ok hk hl hs hv h.1 hq
      simp only [foundI,←this,if_true]
    · rename_i hq
      have:=sameNow_ok hk hl hs hv h.1 hq
      simp only [foundI,←this,Bool.false_eq_true,if_false]
      exact now_ok hk hl hs hv es l (i+1) r h.2 hr
    · cases hr
theorem findKey_ok {E:Env} {t:Nat} {ka va:Bool} {ks:List (Option IntKind)} (K:KeyT P t ka ks) {k:List D} {vs:Array Value} (hk:kindsD ks k=true) (hs:vs.size=k.length) (hv:∀(i:Nat) (d:D),nth k i=some d→RD (fun _=>True) E.w d (vs.getD i undef)) (w:World)
    {es:List (List D × List C)} {l:List MapEntry} (h:Entries E ka va ks es l):(Instr.findKey t (valOf ka vs) l).run P w = .ok (foundI k es l 0) w:=by
  unfold Instr.findKey
  have ha:=K.agg
  unfold isAgg at ha
  cases hu:P.underlying t with
  | none=>rw [hu] at ha;cases ha
  | some d=>
    simp only [Sem.run_bind,run_underlying',hu,Result.andThen_ok]
    split
    · rename_i r hr
      have:=now_ok hk (fun e=>by subst e;rw [kindsD_len hk,K.one]) hs hv es l 0 r h hr
      rw [this,Sem.run_pure]
    · exact asking_ok K hk (K.val hk hs hv) w es l 0 h
theorem found_find {k:List D} {E:Env} {ka va:Bool} {ks:List (Option IntKind)}:∀{es:List (List D × List C)} {l:List MapEntry} {i:Nat},Entries E ka va ks es l →
    (foundI k es l i=none∧findE k es=none∧∀v,putE k v es=es++[(k,v)]) ∨
    (∃j e e',nth es j=some e∧l[j]?=some e'∧REntry E ka va ks e.1 e.2 e'∧foundI k es l i=some (i+j,e'.val)∧findE k es=some e.2∧keyEq k e.1=true∧(∀v,(putE k v es).length=es.length)∧∀v m,nth (putE k v es) m=if m=j then some (k,v) else nth es m)
  | [],[],i,_=>.inl ⟨rfl,rfl,fun _=>rfl⟩
  | [],_::_,_,h=>h.elim
  | _::_,[],_,h=>h.elim
  | e::es,e'::l,i,h=>by
    by_cases hq:keyEq k e.1=true
    · refine .inr ⟨0,e,e',rfl,rfl,h.1,by simp [foundI,hq],by simp [findE,hq],hq,fun v=>by simp [putE,hq],fun v m=>?_⟩
      simp only [putE,hq,if_true]
      cases m<;>simp [nth]
    · rcases found_find (k:=k) (i:=i+1) h.2 with ⟨a,b,c⟩ | ⟨j,x,x',a1,a2,a3,a4,a5,a6,a7,a8⟩
      · exact .inl ⟨by simp only [foundI,hq,if_false];exact a,by simp only [findE,hq,if_false];exact b,fun v=>by simp only [putE,hq,if_false];simp [c v]⟩
      · refine .inr ⟨j+1,x,x',a1,a2,a3,by simp only [foundI,hq,if_false];rw [a4];simp;omega,by simp only [findE,hq,if_false];exact a5,a6,fun v=>by simp only [putE,hq,if_false];simp [a7 v],fun v m=>?_⟩
        simp only [putE,hq,if_false,Bool.false_eq_true]
        cases m with
        | zero=>simp [nth]
        | succ m=>simp only [nth];rw [a8 v m];simp
theorem RV.ofVal {E:Env} {va:Bool} {cs:List C} {vs:Array Value} {v:V} (hl:va=false→cs.length=1) (hr:RL E cs vs) (h:V.ofCells (if va then some cs.length else none) cs=some v):RV E v (valOf va vs):=by
  cases va with
  | true=>
    simp only [if_true,V.ofCells] at h
    cases h
    exact .agg hr.1 hr.2
  | false=>
    have hl:=hl rfl
    match cs,hl with
    | [y],_=>cases h;exact .c (hr.2 0 y rfl)
theorem RV.pair {E:Env} {x y:V} {v u:Value} (h1:RV E x v) (h2:RV E y u):RV E (.tup [x,y]) (.tuple #[v,u]):=by
  refine .tup rfl fun i z hz=>?_
  cases i with
  | zero=>cases hz;exact h1
  | succ i=>
    cases i with
    | zero=>cases hz;exact h2
    | succ i=>cases hz
theorem op_lookup (hW:RW P cfg h pl fo w) (hρ:Rho s (mkEnv h pl fo w) ρ) {o:Oper} {t kt et:Nat} {m k:Operand} {m' k':Opd} {z:V} {ok ka va:Bool} {ks:List (Option IntKind)} (ho:o.op = .lookup t m k ok) (ht:P.underlying t=some (.map kt et))
    (hz:((P.info? et).bind (·.zero)).bind ofConst=some z) (hm:cOpd m=some m') (hk:cOpd k=some k') (K:KeyT P kt ka ks) {r:Nat} {v:V} {wr:Wr}
    (he:opEv r s h (.lookup ka va ks z ok m' k')=some (v,wr)):OpRes P cfg h pl fo w ((execOp ρ o).run P w) v (applyW h wr):=by
  have h1:=hρ m m' hm
  have h2:=hρ k k' hk
  simp only [opEv] at he
  split at he
  · rename_i o' key em ek
    rw [em] at h1
    split at he
    · rename_i ka' va' ks' es eo
      by_cases hc:ka'=ka∧va'=va∧ks'=ks∧V.isAgg (k'.ev s)=ka∧V.isAgg z=va∧kindsD ks key=true
      · rw [if_pos hc] at he
        obtain ⟨rfl,rfl,rfl,c1,c2,c3⟩:=hc
        obtain ⟨vs,q1,q2,q3⟩:=key_ok K h2 c1 ek c3
        generalize hv:ρ m=v0 at h1
        cases h1.c_inv with
        | @map _ b _ _ _ _ ho' hb=>
          have hro:=hW.obj o'
          rw [eo] at hro
          obtain ⟨b',entries,clock,hb',hblk,hsz,hent⟩:=hro
          have hbb:(pl o').blk=some b:=hb
          rw [hb'] at hbb;injection hbb with hbb;subst hbb
          have hE:Entries (mkEnv h pl fo w) ka' va' ks' es entries.toList:=Entries.of (by simpa using hsz) (fun i e hi=>by simpa using hent i e hi)
          have hblk':w.heap[b']?=some (.map entries clock):=hblk
          have hck:(Instr.checkKey entries.isEmpty 10000 kt (ρ k)).run P w = .ok () w:=by
            rw [q1]
            exact checkKey_flat w _ 20 kt ks' K.flat K.size _ _ (by rw [List.length_map,kindsD_len c3]) (K.val c3 q2 q3) 9980
          have hfk:=findKey_ok K c3 q2 q3 w hE
          have hrun:∀x,(match foundI key es entries.toList 0 with
              | some (_,v)=>x=(v,true)
              | none=>∃zv,(zeroValue et).run P w = .ok zv w∧x=(zv,false)) →
              (execOp ρ o).run P w = .ok (.value (if ok then .tuple #[x.1,.bool x.2] else x.1)) w:=by
            intro x hx
            rw [q1] at hck
            simp only [execOp,ho,Instr.lookup,Sem.run_bind,run_underlying',ht,Result.andThen_ok,hv,run_getMap hblk',Sem.run_pure,q1,hck,hfk]
            cases hf:foundI key es entries.toList 0 with
            | none=>
              rw [hf] at hx
              obtain ⟨zv,z1,rfl⟩:=hx
              simp only [Sem.run_bind,z1,Result.andThen_ok,Sem.run_pure]
            | some p=>
              rw [hf] at hx
              cases hx
              simp only [Sem.run_bind,Result.andThen_ok,Sem.run_pure]
          rcases found_find (k:=key) (i:=0) hE with ⟨a,b,_⟩ | ⟨j,e,e',a1,a2,a3,a4,a5,a6,_,_⟩
          · rw [b] at he
            cases he
            rw [a] at hrun
            cases hi:P.info? et with
            | none=>rw [hi] at hz;cases hz
            | some ti=>
              rw [hi] at hz
              simp only [Option.bind_some] at hz
              cases hzv:ti.zero with
              | none=>rw [hzv] at hz;cases hz
              | some zv=>
                rw [hzv] at hz
                simp only [Option.bind_some] at hz
                have hRz:RV (mkEnv h pl fo w) z zv:=ofConst_ok hz
                have hr:=hrun (zv,false) ⟨zv,by simp [zeroValue,hi,hzv],rfl⟩
                refine .pure hW hr ?_
                cases ok with
                | true=>exact RV.pair hRz (.c (.bool _))
                | false=>exact hRz
          · rw [a5] at he
            simp only at he
            cases hcs:V.ofCells (if va'=true then some e.2.length else none) e.2 with
            | none=>rw [hcs] at he;cases he
            | some x=>
              rw [hcs] at he
              cases he
              rw [a4] at hrun
              obtain ⟨vs2,r1,r2,r3⟩:=a3.val
              have hRx:RV (mkEnv h pl fo w) x e'.val:=by rw [r1];exact RV.ofVal r2 r3 hcs
              refine .pure hW (hrun (e'.val,true) rfl) ?_
              cases ok with
              | true=>exact RV.pair hRx (.c (.bool _))
              | false=>exact hRx
      · rw [if_neg hc] at he;cases he
    · cases he
  · cases he
theorem D.key_comm {a b:D} (h:D.key a b=true):D.key b a=true:=by
  cases a<;>cases b<;>simp [D.key] at h<;>simp [D.key,h]
theorem keyEq_comm : ∀{a b:List D},keyEq a b=true→keyEq b a=true
  | [],[],_=>rfl
  | a::as,b::bs,h=>by
    simp only [keyEq,Bool.and_eq_true] at h ⊢
    exact ⟨D.key_comm h.1,keyEq_comm h.2⟩
  | [],_::_,h=>by cases h
  | _::_,[],h=>by cases h
theorem sameBits_ok {K K':Kept} {w w':World}:∀{a b:D} {x y:Value} (n:Nat),RD K w a x→RD K' w' b y→(∀r,a ≠ .lst r)→D.key a b=true→(∀k m k' m',a = .int k m→b = .int k' m'→k=k')→Instr.sameBits n x y=true
  | a,b,x,y,n,h1,h2,hs,hk,hkk=>by
    cases h1 with
    | int k m=>
      cases h2 with
      | int k' m'=>
        have:=hkk k m k' m' rfl rfl
        subst this
        simp only [D.key,beq_iff_eq] at hk
        subst hk
        simp [Instr.sameBits]
      | _=>simp [D.key] at hk
    | bool m=>
      cases h2 with
      | bool m'=>
        simp only [D.key,beq_iff_eq] at hk
        subst hk
        simp [Instr.sameBits]
      | _=>simp [D.key] at hk
    | nil=>exact (hs _ rfl).elim
    | lst=>exact (hs _ rfl).elim
theorem keyEq_nth : ∀{ks:List (Option IntKind)} {a b:List D},kindsD ks a=true→kindsD ks b=true→keyEq a b=true→a.length=b.length∧∀(i:Nat) x y,nth a i=some x→nth b i=some y→D.key x y=true∧∀k m k' m',x = .int k m→y = .int k' m'→k=k'
  | [],[],[],_,_,_=>⟨rfl,fun i x y h=>by cases h⟩
  | some k::ks,.int k1 x::a,.int k2 y::b,h1,h2,h3=>by
    simp only [kindsD,Bool.and_eq_true,beq_iff_eq] at h1 h2
    simp only [keyEq,Bool.and_eq_true] at h3
    obtain ⟨p,q⟩:=keyEq_nth h1.2 h2.2 h3.2
    refine ⟨by simp [p],fun i u v hu hv=>?_⟩
    cases i with
    | zero=>
      cases hu;cases hv
      exact ⟨h3.1,fun _ _ _ _ e1 e2=>by cases e1;cases e2;rw [←h1.1,←h2.1]⟩
    | succ i=>exact q i u v hu hv
  | none::ks,.bool x::a,.bool y::b,h1,h2,h3=>by
    simp only [keyEq,Bool.and_eq_true] at h3
    obtain ⟨p,q⟩:=keyEq_nth (ks:=ks) (a:=a) (b:=b) (by simpa [kindsD] using h1) (by simpa [kindsD] using h2) h3.2
    refine ⟨by simp [p],fun i u v hu hv=>?_⟩
    cases i with
    | zero=>
      cases hu;cases hv
      exact ⟨h3.1,fun _ _ _ _ e1 e2=>by cases e1⟩
    | succ i=>exact q i u v hu hv
  | [],_::_,_,h1,_,_=>by simp [kindsD] at h1
  | [],[],_::_,_,h2,_=>by simp [kindsD] at h2
  | _::_,[],_,h1,_,_=>by simp [kindsD] at h1
  | some _::_,.bool _::_,_,h1,_,_=>by simp [kindsD] at h1
  | some _::_,.lst _::_,_,h1,_,_=>by simp [kindsD] at h1
  | none::_,.int _ _::_,_,h1,_,_=>by simp [kindsD] at h1
  | none::_,.lst _::_,_,h1,_,_=>by simp [kindsD] at h1
  | some _::_,.int _ _::_,[],_,h2,_=>by simp [kindsD] at h2
  | some _::_,.int _ _::_,.bool _::_,_,h2,_=>by simp [kindsD] at h2
  | some _::_,.int _ _::_,.lst _::_,_,h2,_=>by simp [kindsD] at h2
  | none::_,.bool _::_,[],_,h2,_=>by simp [kindsD] at h2
  | none::_,.bool _::_,.int _ _::_,_,h2,_=>by simp [kindsD] at h2
  | none::_,.bool _::_,.lst _::_,_,h2,_=>by simp [kindsD] at h2
theorem sameBits_key {ka:Bool} {ks:List (Option IntKind)} {a b:List D} {us vs:Array Value} {K K':Kept} {w w':World} (ha:kindsD ks a=true) (hb:kindsD ks b=true) (hq:keyEq a b=true) (hl:ka=false→a.length=1)
    (hu:us.size=a.length) (hv:vs.size=b.length) (h1:∀(i:Nat) (d:D),nth a i=some d→RD K w d (us.getD i undef)) (h2:∀(i:Nat) (d:D),nth b i=some d→RD K' w' d (vs.getD i undef)):Instr.sameBits 10000 (valOf ka us) (valOf ka vs)=true:=by
  obtain ⟨p,q⟩:=keyEq_nth ha hb hq
  have hsc:=kindsD_scal ha
  cases ka with
  | false=>
    have hl:=hl rfl
    have hl':b.length=1:=by omega
    match a,b,hl,hl' with
    | [x],[y],_,_=>
      obtain ⟨e1,e2⟩:=q 0 x y rfl rfl
      exact sameBits_ok _ (h1 0 x rfl) (h2 0 y rfl) (hsc 0 x rfl) e1 e2
  | true=>
    simp only [valOf,if_true]
    show Instr.sameBits (9999+1) _ _=true
    simp only [Instr.sameBits,Bool.and_eq_true,beq_iff_eq,List.all_eq_true]
    refine ⟨by omega,fun z hz=>?_⟩
    obtain ⟨i,hi,hz⟩:=List.getElem_of_mem hz
    have hi1:i<us.size:=by simp at hi;omega
    have hi2:i<vs.size:=by simp at hi;omega
    have hz':z=(us[i],vs[i]):=by rw [←hz];simp
    subst hz'
    have g1:∃x,nth a i=some x:=by rw [nth_get];exact ⟨_,List.getElem?_eq_getElem (by omega)⟩
    have g2:∃x,nth b i=some x:=by rw [nth_get];exact ⟨_,List.getElem?_eq_getElem (by omega)⟩
    obtain ⟨x,g1⟩:=g1
    obtain ⟨y,g2⟩:=g2
    obtain ⟨e1,e2⟩:=q i x y g1 g2
    have r1:=h1 i x g1
    have r2:=h2 i y g2
    have f1:us.getD i undef=us[i]:=by simp [Array.getD,hi1]
    have f2:vs.getD i undef=vs[i]:=by simp [Array.getD,hi2]
    rw [f1] at r1;rw [f2] at r2
    exact sameBits_ok _ r1 r2 (hsc i x g1) e1 e2
theorem op_mapupd (hW:RW P cfg h pl fo w) (hρ:Rho s (mkEnv h pl fo w) ρ) {o:Oper} {t kt et:Nat} {m k x:Operand} {m' k' x':Opd} {ka va:Bool} {ks:List (Option IntKind)} (ho:o.op = .mapUpdate t m k x) (ht:P.underlying t=some (.map kt et))
    (hm:cOpd m=some m') (hk:cOpd k=some k') (hx:cOpd x=some x') (K:KeyT P kt ka ks) {r:Nat} {v:V} {wr:Wr}
    (he:opEv r s h (.mapupd ka va ks m' k' x')=some (v,wr)):OpRes P cfg h pl fo w ((execOp ρ o).run P w) v (applyW h wr):=by
  have h1:=hρ m m' hm
  have h2:=hρ k k' hk
  have h3:=hρ x x' hx
  simp only [opEv] at he
  split at he
  · rename_i o' key l em ek el
    rw [em] at h1
    split at he
    · rename_i ka' va' ks' es eo
      by_cases hc:ka'=ka∧va'=va∧ks'=ks∧V.isAgg (k'.ev s)=ka∧V.isAgg (x'.ev s)=va∧kindsD ks key=true
      · rw [if_pos hc] at he
        cases he
        obtain ⟨rfl,rfl,rfl,c1,c2,c3⟩:=hc
        obtain ⟨vs,q1,q2,q3⟩:=key_ok K h2 c1 ek c3
        obtain ⟨us,u1,u2,u3⟩:∃us:Array Value,ρ x=valOf va' us∧(va'=false→l.length=1)∧RL (mkEnv h pl fo w) l us:=by
          obtain ⟨rl,_,_⟩:=laid_ok h3 el
          revert c2 el h3
          cases x'.ev s with
          | c y=>intro h3 el c2;cases c2;simp only [V.laid] at el;split at el<;>cases el;exact ⟨#[ρ x],rfl,fun _=>rfl,by have:=h3.c_inv;refine ⟨rfl,fun i c hc=>?_⟩;cases i with
            | zero=>cases hc;exact this
            | succ i=>cases hc⟩
          | agg cs=>intro h3 el c2;cases c2;simp only [V.laid] at el;split at el<;>cases el;generalize ρ x=y at *;cases h3 with
            | agg hn hr=>exact ⟨_,rfl,(fun e=>by cases e),hn,hr⟩
          | tup xs=>intro h3 el c2;cases el
        generalize hv:ρ m=v0 at h1
        cases h1.c_inv with
        | @map _ b _ _ _ _ ho' hb=>
          have hro:=hW.obj o'
          rw [eo] at hro
          obtain ⟨b',entries,clock,hb',hblk,hsz,hent⟩:=hro
          have hbb:(pl o').blk=some b:=hb
          rw [hb'] at hbb;injection hbb with hbb;subst hbb
          have hE:Entries (mkEnv h pl fo w) ka' va' ks' es entries.toList:=Entries.of (by simpa using hsz) (fun i e hi=>by simpa using hent i e hi)
          have hblk':w.heap[b']?=some (.map entries clock):=hblk
          have hck:(Instr.checkKey false 10000 kt (valOf ka' vs)).run P w = .ok () w:=
            checkKey_flat w _ 20 kt ks' K.flat K.size _ _ (by rw [List.length_map,kindsD_len c3]) (K.val c3 q2 q3) 9980
          have hfk:=findKey_ok K c3 q2 q3 w hE
          have hnew:∀{E:Env},(mkEnv h pl fo w).Le E→∀kl,REntry E ka' va' ks' key l { key:=valOf ka' vs,val:=ρ x,born:=kl }:=fun {E} hle kl=>
            { key:=⟨vs,rfl,q2,fun e=>by subst e;rw [kindsD_len c3,K.one],fun i d hi=>RD_scal (q3 i d hi) (kindsD_scal c3 i d hi)⟩,scal:=c3,val:=⟨us,u1,u2,u3.mono hle⟩ }
          have hold:∀{E:Env},(mkEnv h pl fo w).Le E→∀{k v e},REntry (mkEnv h pl fo w) ka' va' ks' k v e→REntry E ka' va' ks' k v e:=fun {E} hle {k v e} hq=>by
            obtain ⟨k1,g1,g2,g3,g4⟩:=hq.key
            obtain ⟨v1,g5,g6,g7⟩:=hq.val
            exact { key:=⟨k1,g1,g2,g3,fun i d hi=>RD_scal (g4 i d hi) (kindsD_scal hq.scal i d hi)⟩,scal:=hq.scal,val:=⟨v1,g5,g6,g7.mono hle⟩ }
          have fin:∀(entries':Array MapEntry) (clock':Nat),(execOp ρ o).run P w = .ok .skip (w.setBlk b' (.map entries' clock'))→entries'.size=(putE key l es).length →
              (∀{E:Env},(mkEnv h pl fo w).Le E→∀(i:Nat) e,nth (putE key l es) i=some e→∃e',entries'[i]?=some e'∧REntry E ka' va' ks' e.1 e.2 e') →
              OpRes P cfg h pl fo w ((execOp ρ o).run P w) undefV (applyW h [(o',.map ka' va' ks' (putE key l es))]):=fun entries' clock' e1 e2 e3=>by
            obtain ⟨A,B,C'⟩:=hW.update (o:=o') (x:=.map ka' va' ks' (putE key l es)) (ob:=.map entries' clock') (by rw [eo];rfl) hb' (by rw [eo];exact ⟨_,rfl⟩) rfl (fun hE=>
              ⟨b',entries',clock',hb',setBlk_get _ _ _ (Array.getElem?_eq_some_iff.1 hblk').1,e2,e3 hE⟩)
            exact ⟨undef,_,pl,.inr ⟨e1,rfl⟩,.c (.any _),A,B,C'⟩
          rcases found_find (k:=key) (i:=0) hE with ⟨a,_,pe⟩ | ⟨j,e,e',a1,a2,a3,a4,a5,a6,a7,a8⟩
          · refine fin (entries.push { key:=valOf ka' vs,val:=ρ x,born:=clock }) (clock+1) ?_ (by rw [pe];simp [hsz]) (fun hle i e he=>?_)
            · simp only [execOp,ho,Instr.mapUpdate,Sem.run_bind,run_underlying',ht,Result.andThen_ok,hv,run_getMap hblk',Sem.run_pure,q1,hck,hfk,a,run_setMap _ hblk']
            · rw [pe,nth_append] at he
              split at he
              · rename_i hi
                obtain ⟨e',f1,f2⟩:=hent i e he
                have:i<entries.size:=by omega
                exact ⟨e',by rw [Array.getElem?_push,if_neg (by omega)];exact f1,hold hle f2⟩
              · rename_i hi
                cases hi2:i-es.length with
                | succ n=>rw [hi2] at he;cases he
                | zero=>
                  rw [hi2] at he;cases he
                  exact ⟨_,by rw [Array.getElem?_push,if_pos (by omega)],hnew hle clock⟩
          · have ha2:entries[j]?=some e':=by simpa using a2
            obtain ⟨k1,g1,g2,g3,g4⟩:=a3.key
            have hsb:Instr.sameBits 10000 e'.key (valOf ka' vs)=true:=by
              rw [g1]
              have hcomm:keyEq e.1 key=true:=keyEq_comm a6
              exact sameBits_key a3.scal c3 hcomm g3 g2 q2 g4 q3
            refine fin (entries.modify j fun e=>{ e with key:=valOf ka' vs,val:=ρ x }) clock ?_ (by rw [a7];simp [hsz]) (fun hle i e he=>?_)
            · simp only [execOp,ho,Instr.mapUpdate,Sem.run_bind,run_underlying',ht,Result.andThen_ok,hv,run_getMap hblk',Sem.run_pure,q1,hck,hfk,a4,Nat.zero_add,ha2,Option.map_some,Option.getD_some,Instr.keyThatStays,hsb,if_true,run_setMap _ hblk']
            · rw [a8] at he
              by_cases hj:i=j
              · subst hj
                rw [if_pos rfl] at he;cases he
                exact ⟨_,by rw [Array.getElem?_modify,if_pos rfl,ha2];rfl,hnew hle e'.born⟩
              · rw [if_neg hj] at he
                obtain ⟨e',f1,f2⟩:=hent i e he
                exact ⟨e',by rw [Array.getElem?_modify,if_neg (fun e=>hj e.symm)];exact f1,hold hle f2⟩
      · rw [if_neg hc] at he;cases he
    · cases he
  · cases he
end
end Am
namespace Am
open Go
set_option linter.unusedVariables false
set_option linter.unusedSimpArgs false
variable {P:Program} {cfg:Cfg}
def AOp.opens : AOp→Bool
  | .call .. | .callv .. | .clone .. | .grow ..=>true
  | _=>false
theorem cOpds_one {l:List Operand} {x':Opd} (h:cOpds l=some [x']):∃x,l=[x]∧cOpd x=some x':=by
  match l with
  | []=>cases h
  | [x]=>
    simp only [cOpds] at h
    cases hx:cOpd x with
    | none=>rw [hx] at h;cases h
    | some y=>rw [hx] at h;cases h;exact ⟨x,rfl,hx⟩
  | x::y::l=>
    simp only [cOpds] at h
    cases hx:cOpd x with
    | none=>rw [hx] at h;cases h
    | some x1=>
      cases hy:cOpd y with
      | none=>rw [hx,hy] at h;cases h
      | some y1=>
        cases hl:cOpds l with
        | none=>rw [hx,hy,hl] at h;cases h
        | some l1=>rw [hx,hy,hl] at h;cases h
theorem cOpds_nil {l:List Operand} (h:cOpds l=some []):l=[]:=by
  cases l with
  | nil=>rfl
  | cons x l=>
    simp only [cOpds] at h
    cases hx:cOpd x with
    | none=>rw [hx] at h;cases h
    | some y=>
      cases hl:cOpds l with
      | none=>rw [hx,hl] at h;cases h
      | some l1=>rw [hx,hl] at h;cases h
theorem cOpds_two {l:List Operand} {x' y':Opd} (h:cOpds l=some [x',y']):∃x y,l=[x,y]∧cOpd x=some x'∧cOpd y=some y':=by
  cases l with
  | nil=>cases h
  | cons x l=>
    simp only [cOpds] at h
    cases hx:cOpd x with
    | none=>rw [hx] at h;cases h
    | some x1=>
      cases hl:cOpds l with
      | none=>rw [hx,hl] at h;cases h
      | some l1=>
        rw [hx,hl] at h;cases h
        obtain ⟨y,rfl,hy⟩:=cOpds_one hl
        exact ⟨x,y,rfl,hx,hy⟩
section
variable {h:List Obj} {pl:Nat→Pl} {fo:Kept} {w:World} {s:List V} {ρ:Operand→Value}
theorem stuck_pick {r:Nat} {v:V} {wr:Wr} (he:opEv r s h (.pick (.cst undefV) (.cst undefV) (.cst undefV))=some (v,wr)):False:=by
  simp [opEv,Opd.ev,undefV] at he
theorem op_ok (hfo:∀b,fo b→b<w.heap.size) (hW:RW P cfg h pl fo w) (hρ:Rho s (mkEnv h pl fo w) ρ) (hc:∀v,ρ (.const v)=v) {cfg2:Cfg} {o:Oper} {a:AOp} (ha:cOp P cfg2 o.op=some a) (hn:a.opens=false) {r:Nat} {v:V} {wr:Wr}
    (he:opEv r s h a=some (v,wr)):OpRes P cfg h pl fo w ((execOp ρ o).run P w) v (applyW h wr):=by
  generalize hop:o.op=op at ha
  cases op<;>simp only [cOp] at ha<;>try (cases ha;done)
  case move x=>
    cases hx:cOpd x<;>rw [hx] at ha<;>cases ha
    simp only [opEv,pureV,Option.some.injEq,Prod.mk.injEq] at he
    obtain ⟨rfl,rfl⟩:=he
    exact op_mov hW hρ (.inl hop) hx
  case assign x=>
    cases hx:cOpd x<;>rw [hx] at ha<;>cases ha
    simp only [opEv,pureV,Option.some.injEq,Prod.mk.injEq] at he
    obtain ⟨rfl,rfl⟩:=he
    exact op_mov hW hρ (.inr hop) hx
  case pick c x y=>
    split at ha<;>cases ha
    rename_i h1 h2 h3
    exact op_pick hW hρ hop h1 h2 h3 (by simpa only [opEv] using he)
  case alloc e=>
    cases hz:zeroT P e<;>rw [hz] at ha<;>cases ha
    exact op_alloc hfo hW hop hz he
  case box e x=>
    cases hx:cOpd x<;>rw [hx] at ha<;>cases ha
    exact op_box hfo hW hρ hop hx he
  case load t x=>
    split at ha<;>cases ha
    rename_i h1 h2
    exact op_load hW hρ hop h1 h2 he
  case store t x y=>
    split at ha<;>cases ha
    rename_i h1 h2 h3
    exact op_store hW hρ hop h1 h2 h3 he
  case fieldAddr t x k=>
    split at ha
    · rename_i fs x' h1 h2
      split at ha
      · rename_i f hf
        split at ha
        · rename_i n hs
          cases ha
          exact op_faddr hW hρ hop h1 hf hs h2 he
        · cases ha
      · cases ha
    · cases ha
  case indexAddr t x i=>
    split at ha
    · rename_i e x' i' h1 h2 h3
      cases hs:sizeT P e<;>rw [hs] at ha<;>cases ha
      exact op_iaddr hW hρ hop h1 hs h2 h3 he
    · rename_i l e x' i' h1 h2 h3
      cases hs:sizeT P e<;>rw [hs] at ha<;>cases ha
      exact op_iaddrA hW hρ hop h1 hs h2 h3 he
    · cases ha
  case field t x k=>
    split at ha
    · rename_i fs x' h1 h2
      split at ha
      · rename_i f hf
        cases hs:shapeT P f.type<;>rw [hs] at ha<;>cases ha
        exact op_fld hW hρ hop h1 hf hs h2 he
      · cases ha
    · cases ha
  case index t x i=>
    split at ha
    · rename_i l e x' i' h1 h2 h3
      split at ha
      · rename_i sz n hs hsh
        cases ha
        exact op_idx hW hρ hop h1 hs hsh h2 h3 he
      · cases ha
    · cases ha
  case binOp op t x y u=>
    split at ha
    · rename_i op' x' y' h1 h2 h3
      split at ha
      · rename_i k hu
        cases ha
        exact op_bin hW hρ hop h1 h2 h3 he
      · rename_i hu
        cases ha
        cases op<;>cases h1
        exact op_eqB (neg:=false) hW hρ hop rfl hu h2 h3 he
      · rename_i hu
        cases ha
        cases op<;>cases h1
        exact op_eqB (neg:=true) hW hρ hop rfl hu h2 h3 he
      · rename_i e hu
        split at ha
        · cases ha
          cases op<;>cases h1
          exact op_isnil (neg:=false) hW hρ hop rfl hu (hc _) h2 he
        · cases ha
      · rename_i e hu
        split at ha
        · cases ha
          cases op<;>cases h1
          exact op_isnil (neg:=true) hW hρ hop rfl hu (hc _) h2 he
        · cases ha
      · split at ha
        · rename_i ks n g1 g2 g3
          split at ha
          · rename_i hq
            cases ha
            cases op<;>cases h1
            exact op_eqA (neg:=false) hW hρ hop rfl g1 g2 g3 hq.1 hq.2 h2 h3 he
          · cases ha
        · cases ha
      · split at ha
        · rename_i ks n g1 g2 g3
          split at ha
          · rename_i hq
            cases ha
            cases op<;>cases h1
            exact op_eqA (neg:=true) hW hρ hop rfl g1 g2 g3 hq.1 hq.2 h2 h3 he
          · cases ha
        · cases ha
      · cases ha
    · cases ha
  case unOp op t x=>
    cases op<;>simp only [cOp] at ha<;>try (cases ha;done)
    · cases hx:cOpd x<;>rw [hx] at ha<;>cases ha
      exact op_neg hW hρ hop hx he
    · cases hx:cOpd x<;>rw [hx] at ha<;>cases ha
      exact op_not hW hρ hop hx he
  case convert t u x=>
    split at ha
    · rename_i h1 h2 h3
      cases ha
      exact op_conv hW hρ hop h1 h2 h3 he
    · cases ha
  case extract x i=>
    cases hx:cOpd x<;>rw [hx] at ha<;>cases ha
    exact op_extract hW hρ hop hx he
  case makeInterface t x=>
    cases ha
    exact (stuck_pick he).elim
  case panic x=>
    cases ha
    exact (stuck_pick he).elim
  case makeFunc fn first caps=>
    cases fn<;>simp only [cOp] at ha<;>try (cases ha;done)
    split at ha
    · rename_i h1 h2
      cases ha
      exact op_mkfn hW hρ hop (.inl ⟨cOpds_nil h1,rfl⟩) h2 he
    · rename_i h1 h2
      cases ha
      obtain ⟨x,e1,e2⟩:=cOpds_one h1
      exact op_mkfn hW hρ hop (.inr ⟨x,_,e1,rfl,e2⟩) h2 he
    · cases ha
  case build t ps=>
    split at ha
    · rename_i fs z h1 h2
      split at ha
      · rename_i hq
        cases hp:cParts P fs ps.toList<;>rw [hp] at ha<;>cases ha
        refine op_build hW hρ hop h1 h2 (fun f hf=>?_) hp he
        have:=List.all_eq_true.1 hq f hf
        exact Option.isSome_iff_exists.1 this
      · cases ha
    · rename_i l e z h1 h2
      split at ha
      · rename_i sz hs
        cases hp:cPartsA sz ps.toList<;>rw [hp] at ha<;>cases ha
        exact op_buildA hW hρ hop h1 h2 hs hp he
      · cases ha
    · cases ha
  case buildSlice t n ps=>
    by_cases hlc:cfg2.litcNow=true
    · rw [if_pos hlc] at ha
      unfold cListc at ha
      split at ha
      · rename_i e hu
        split at ha
        · rename_i z ps' h1 h2 h3
          split at ha
          · rename_i hq
            cases ha
            exact op_blistc hfo hW hρ hop hu h1 h2 h3 hq he
          · cases ha
        · cases ha
      · cases ha
    rw [if_neg hlc] at ha
    split at ha
    · rename_i e hu
      split at ha
      · rename_i sz z ps' h1 h2 h3
        split at ha
        · rename_i hq
          cases ha
          cases hlit:cfg2.litNow with
          | true=>rw [hlit] at he;exact op_blist hfo hW hρ hop hu h1 h2 h3 hq.1 hq.2 he
          | false=>rw [hlit] at he;exact op_bslice hfo hW hρ hop hu h1 h2 h3 hq.1 hq.2 he
        · cases ha
      · cases ha
    · cases ha
  case makeSlice t l c=>
    split at ha
    · rename_i e hu
      split at ha
      · rename_i sz b z l' c' h1 h2 h3 h4 h5
        split at ha
        · rename_i hq
          cases ha
          have hl:l = .tmp l':=by
            cases l with
            | tmp t=>cases h4;rfl
            | const v=>simp only [cOpd] at h4;cases hv:ofConst v<;>rw [hv] at h4<;>cases h4
            | func f=>cases h4
            | global g=>cases h4
          have hc':c = .tmp c':=by
            cases c with
            | tmp t=>cases h5;rfl
            | const v=>simp only [cOpd] at h5;cases hv:ofConst v<;>rw [hv] at h5<;>cases h5
            | func f=>cases h5
            | global g=>cases h5
          obtain ⟨rfl,q1,q2⟩:=hq
          subst hl hc'
          exact op_mkslice hfo hW hρ hop rfl (fun _ _ h=>h) hu h1 h2 h3 q1 q2 he
        · cases ha
      · rename_i sz b z l' c' h1 h2 h3 h4 h5
        split at ha
        · rename_i hq
          cases ha
          obtain ⟨rfl,q1,q2⟩:=hq
          have r1:=(hρ _ _ h4).c_inv.int_inv
          have r2:=(hρ _ _ h5).c_inv.int_inv
          exact op_mkslice hfo hW hρ hop h4 (fun k n h=>by rw [r1] at h;rw [r2];exact h) hu h1 h2 h3 q1 q2 he
        · cases ha
      · cases ha
    · cases ha
  case slice t x lo hi mx=>
    cases mx<;>simp only [cOp] at ha<;>try (cases ha;done)
    split at ha
    · rename_i e x' lo' hi' h1 h2 h3 h4
      cases hs:sizeT P e<;>rw [hs] at ha<;>cases ha
      exact op_slice hW hρ hop h1 hs h2 h3 h4 he
    · rename_i len e x' lo' hi' h1 h2 h3 h4
      split at ha
      · rename_i hs
        cases ha
        exact op_pslice hW hρ hop h1 hs h2 h3 h4 he
      · cases ha
    · cases ha
  case nilCheck x=>
    cases hx:cOpd x<;>rw [hx] at ha<;>cases ha
    exact op_nilchk hW hρ hop hx he
  case makeMap t n=>
    cases n<;>simp only [cOp] at ha<;>try (cases ha;done)
    split at ha
    · rename_i kt e hu
      split at ha
      · cases ha
        exact op_mkmap hfo hW hop he
      · cases ha
    · cases ha
  case lookup t m k ok=>
    split at ha
    · rename_i kt e hu
      split at ha
      · rename_i z m' k' h1 h2 h3
        split at ha
        · rename_i ka va ks n g1 g2 g3 g4
          split at ha
          · rename_i hq
            cases ha
            exact op_lookup hW hρ hop hu h1 h2 h3 ⟨g1,g3,by rw [g4,hq]⟩ he
          · cases ha
        · cases ha
      · cases ha
    · cases ha
  case mapUpdate t m k x=>
    split at ha
    · rename_i kt e hu
      split at ha
      · rename_i m' k' x' h1 h2 h3
        split at ha
        · rename_i ka va ks n g1 g2 g3 g4
          split at ha
          · rename_i hq
            cases ha
            exact op_mapupd hW hρ hop hu h1 h2 h3 ⟨g1,g3,by rw [g4,hq]⟩ he
          · cases ha
        · cases ha
      · cases ha
    · cases ha
  case call c=>
    unfold cCall at ha
    split at ha
    · split at ha
      · split at ha
        · cases ha;cases hn
        · cases ha
      · split at ha
        · split at ha
          · cases ha;cases hn
          · cases ha
        · cases ha;cases hn
    · cases ha;cases hn
    · rename_i x' h1 h2
      obtain ⟨x,e1,e2⟩:=cOpds_one h2
      split at ha
      · rename_i t ht
        split at ha
        · rename_i e hu
          cases ha
          exact op_len hW hρ hop h1 (by rw [←Array.toList_inj];exact e1) ht hu e2 he
        · cases ha
      · cases ha
    · rename_i x' y' h1 h2
      obtain ⟨x,y,e1,e2,e3⟩:=cOpds_two h2
      cases ha
      exact op_mm (isMax:=false) hW hρ hop h1 (by rw [←Array.toList_inj];exact e1) e2 e3 he
    · rename_i x' y' h1 h2
      obtain ⟨x,y,e1,e2,e3⟩:=cOpds_two h2
      cases ha
      exact op_mm (isMax:=true) hW hρ hop h1 (by rw [←Array.toList_inj];exact e1) e2 e3 he
    · rename_i x' y' h1 h2
      obtain ⟨x,y,e1,e2,e3⟩:=cOpds_two h2
      split at ha
      · rename_i t ht
        split at ha
        · rename_i e hu
          split at ha
          · rename_i hs
            cases ha
            exact op_copy hW hρ hop h1 (by rw [←Array.toList_inj];exact e1) ht hu hs e2 e3 he
          · cases ha
        · cases ha
      · cases ha
    · rename_i x' y' h1 h2
      obtain ⟨x,y,e1,e2,e3⟩:=cOpds_two h2
      split at ha
      · rename_i t u ht hu
        split at ha
        · rename_i e ex g1 g2
          split at ha
          · rename_i sz by_ g3 g4
            split at ha
            · rename_i z g5
              split at ha
              · rename_i hq
                cases ha
                refine op_append hfo hW hρ hop h1 (by rw [←Array.toList_inj];exact e1) ?_ g1 g2 g3 g4 g5 hq.1 hq.2.1 hq.2.2 e2 e3 he
                have a0:c.argTypes.toList[0]?=some t:=by simpa using ht
                have a1:c.argTypes.toList[1]?=some u:=by simpa using hu
                generalize c.argTypes.toList=l at a0 a1
                match l,a0,a1 with
                | p::q::l,a0,a1=>simp at a0 a1;simp [a0,a1]
              · cases ha
            · cases ha
          · cases ha
        · cases ha
      · cases ha
    · cases ha
end
end Am
