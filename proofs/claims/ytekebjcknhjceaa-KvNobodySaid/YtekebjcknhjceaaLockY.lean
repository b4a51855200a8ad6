/- Walks of trothref12: Drop, Take. Conditions: the table's block and row are given. -/
import Derived.Test.YtekebjcknhjceaaLockX
import Derived.Deep.RegionLaw
namespace Go.Mine
set_option linter.unusedVariables false
set_option linter.unusedSimpArgs false
theorem set_aput {A : LTab} (hA : A.Pairwise (fun x y => x.1 ≠ y.1)) {o k : Int} {i : Nat} {x : Lk} (hx : A[i]? = some x) (hk : x.1 = (k, o)) (v : Bool) : A.set i ((k, o), v) = aput (k, o) v A := by
  have hg : aget (k, o) A = some x.2 := by
    refine aget_of_mem hA ?_
    rw [← hk]
    exact List.mem_of_getElem? hx
  obtain ⟨hi, hxe⟩ := List.getElem?_eq_some_iff.1 hx
  rw [List.pairwise_iff_getElem] at hA
  unfold aput
  rw [if_pos (by rw [hg]; rfl)]
  apply List.ext_getElem (by simp)
  intro j h1 h2
  have hj : j < A.length := by simpa using h1
  rw [List.getElem_set, List.getElem_map]
  by_cases e : i = j
  · subst e
    rw [if_pos rfl, hxe, if_pos hk, hk]
  · rw [if_neg e]
    have : A[j].1 ≠ (k, o) := by
      intro q
      rcases Nat.lt_or_gt_of_ne e with h | h
      · exact hA i j hi hj h (by rw [hxe, hk, q])
      · exact hA j i hj hi h (by rw [hxe, hk, q])
    rw [if_neg this]
theorem same_aput {A : LTab} (hA : A.Pairwise (fun x y => x.1 ≠ y.1)) {o k : Int} {i : Nat} {x : Lk} (hx : A[i]? = some x) (hk : x.1 = (k, o)) : A = aput (k, o) x.2 A := by
  rw [← set_aput hA hx hk]
  obtain ⟨hi, hxe⟩ := List.getElem?_eq_some_iff.1 hx
  rw [show ((k, o), x.2) = x from Prod.ext hk.symm rfl, ← hxe, List.set_getElem_self]
theorem clash_put {A : LTab} (hA : Right A) (o k : Int) (al : Bool) : clashA (aput (k, o) ((aget (k, o) A).getD false || al) A) = A.any (confA o k al ((aget (k, o) A).getD false)) := by
  have hself := mem_aput_self (k, o) ((aget (k, o) A).getD false || al) A
  generalize hwas : (aget (k, o) A).getD false = was at *
  rw [Bool.eq_iff_iff]
  unfold clashA
  constructor
  · intro h
    rw [List.any_eq_true] at h
    obtain ⟨x, hx, h⟩ := h
    rw [List.any_eq_true] at h
    obtain ⟨y, hy, h⟩ := h
    simp only [Bool.and_eq_true, beq_iff_eq, bne_iff_ne] at h
    obtain ⟨⟨h1, h2⟩, h3⟩ := h
    rw [List.any_eq_true]
    rcases mem_aput hx with rfl | ⟨hxA, hxk⟩
    · rcases mem_aput hy with rfl | ⟨hyA, hyk⟩
      · exact absurd rfl h2
      · refine ⟨y, hyA, ?_⟩
        simp only at h1 h2 h3
        simp only [confA, Bool.and_eq_true, beq_iff_eq, bne_iff_ne]
        refine ⟨⟨h1.symm, fun q => h2 q.symm⟩, ?_⟩
        cases y.2 <;> cases al <;> cases was <;> simp_all
    · rcases mem_aput hy with rfl | ⟨hyA, hyk⟩
      · refine ⟨x, hxA, ?_⟩
        simp only at h1 h2
        simp only [confA, Bool.and_eq_true, beq_iff_eq, bne_iff_ne]
        refine ⟨⟨h1, h2⟩, by rw [h3]; rfl⟩
      · have := hA.clash x hxA y hyA h1 h2
        rw [h3] at this
        cases this
  · intro h
    rw [List.any_eq_true] at h
    obtain ⟨e, he, h⟩ := h
    simp only [confA, Bool.and_eq_true, beq_iff_eq, bne_iff_ne] at h
    obtain ⟨⟨h1, h2⟩, h3⟩ := h
    have hne : e.1 ≠ (k, o) := fun q => h2 (by rw [q])
    have he2 := mem_aput_other (v := was || al) he hne
    rw [List.any_eq_true]
    cases h4 : e.2
    · refine ⟨_, hself, ?_⟩
      rw [List.any_eq_true]
      refine ⟨e, he2, ?_⟩
      simp only [Bool.and_eq_true, beq_iff_eq, bne_iff_ne]
      refine ⟨⟨h1.symm, fun q => h2 q.symm⟩, ?_⟩
      rw [h4] at h3
      cases al <;> cases was <;> simp_all
    · refine ⟨e, he2, ?_⟩
      rw [List.any_eq_true]
      refine ⟨_, hself, ?_⟩
      simp only [Bool.and_eq_true, beq_iff_eq, bne_iff_ne]
      exact ⟨⟨h1, h2⟩, h4⟩
theorem take_ref {A : LTab} (hA : Right A) (o k : Int) (al : Bool) : takeA A o k al = if clashA (aput (k, o) ((aget (k, o) A).getD false || al) A) = true then (120, A) else if 64 < (aput (k, o) ((aget (k, o) A).getD false || al) A).length then (5, A) else (0, aput (k, o) ((aget (k, o) A).getD false || al) A) := by
  rw [clash_put hA]
  unfold takeA
  split
  · rfl
  · have hlen := hA.len
    cases hg : aget (k, o) A with
    | none =>
      have : (aput (k, o) ((none : Option Bool).getD false || al) A).length = A.length + 1 := by
        unfold aput
        rw [hg]
        simp
      rw [this]
      by_cases h : 64 ≤ A.length
      · rw [if_pos (by simpa using h), if_pos (by omega)]
      · rw [if_neg (by simpa using h), if_neg (by omega)]
    | some v =>
      have := aput_length_same (k := (k, o)) (v := v || al) (A := A) (by rw [hg]; rfl)
      rw [if_neg (by simp), if_neg (by simp only [Option.getD_some]; omega)]
end Go.Mine
namespace Go.Proofs.Ytekebjcknhjceaa
open Go.RowKit Go.Mine Go.Proofs.YtekebjcknhjceaaW.PrintWords
set_option linter.unusedVariables false
set_option linter.unusedSimpArgs false
theorem info56 : (Try.prog.info? 106).map (fun i => (i.zero, i.size, i.bytes)) = some (some (.agg #[.int .i64 0, .int .i64 0, .bool false]), 3, 24) := by kernel_rfl
theorem drop_count (o : Int) (A : LTab) : (A.length : Int) - (dropA o A).length = dropNA o A := by
  have : A.length = (dropA o A).length + dropNA o A := by
    unfold dropA dropNA
    induction A with
    | nil => rfl
    | cons x xs ih => cases h : ownA o x <;> simp [List.filter_cons, h, ih] <;> omega
  omega
theorem drop_le (o : Int) (A : LTab) : (dropA o A).length ≤ A.length := List.length_filter_le _ _
theorem bd1 (w : World) : Below w.heap.size w w.drew := ⟨rfl, rfl, rfl, Nat.le_refl _, fun _ _ => rfl⟩
theorem bdn (w : World) (n : Nat) : Below w.heap.size w (w.drewN n) := ⟨rfl, rfl, rfl, Nat.le_refl _, fun _ _ => rfl⟩
theorem blk_set' {w : World} {b : Nat} {cs : Array Value} {T : TypeId} (h : w.heap[b]? = some (.cells cs T (0, 0))) (j : Nat) (u : Value) : (w.setCell ⟨b, j, none⟩ u).heap[b]? = some (.cells (cs.setIfInBounds j u) T (0, 0)) := by
  simp [World.setCell, Array.getElem?_modify, h]
/-- The table's row is turned. -/
theorem RT.set {w : World} {b1 : Nat} {v v' : Value} {A' : LTab} (hb : w.heap[b1]? = some (.cells #[v] 47 (0, 0))) (hr : LkRow w v' A') : RT (w.setCell ⟨b1, 0, none⟩ v') b1 v' A' :=
  ⟨blk_set' hb 0 v', hr.move (fun k hk => Below.heap_setCell _ _ _ _ (fun q => hr.ne hb (by rw [hk]; exact congrArg some q)))⟩
/-- The document's store at a block: its pairs p, its works q, its table of locks. -/
def RS (w : World) (b1 : Nat) (p q v : Value) (A : LTab) : Prop := w.heap[b1]? = some (.cells #[p, q, v] 49 (0, 0)) ∧ LkRow w v A
theorem LkRow.ne49 {w : World} {v : Value} {cs : Array Value} {l : LTab} (h : LkRow w v l) {b : Nat} (hb : w.heap[b]? = some (.cells cs 49 (0, 0))) : v.ownBlock ≠ some b := by
  intro hk
  obtain ⟨h0, inner, ho, hr⟩ := h
  obtain ⟨cells, hc⟩ := own_typed ho b hk
  rw [hb] at hc
  simp at hc
theorem RS.lt {w : World} {b1 : Nat} {p q v : Value} {A : LTab} (h : RS w b1 p q v A) : b1 < w.heap.size := (Array.getElem?_eq_some_iff.1 h.1).1
theorem RS.cell {w : World} {b1 : Nat} {p q v : Value} {A : LTab} (h : RS w b1 p q v A) : w.cell? ⟨b1, 2, none⟩ = some v := by rw [cell_of_row w b1 2 _ _ _ h.1]; rfl
theorem RS.below {w w' : World} {b1 : Nat} {p q v : Value} {A : LTab} (h : RS w b1 p q v A) (hb : Below w.heap.size w w') : RS w' b1 p q v A :=
  ⟨(hb.block _ h.lt).trans h.1, h.2.move (fun k hk => hb.block _ (h.2.lt k hk))⟩
theorem RS.set {w : World} {b1 : Nat} {p q v v' : Value} {A' : LTab} (hb : w.heap[b1]? = some (.cells #[p, q, v] 49 (0, 0))) (hr : LkRow w v' A') : RS (w.setCell ⟨b1, 2, none⟩ v') b1 p q v' A' :=
  ⟨blk_set' hb 2 v', hr.move (fun k hk => Below.heap_setCell _ _ _ _ (fun e => hr.ne49 hb (by rw [hk]; exact congrArg some e)))⟩
theorem RS.fr {S : Nat → Prop} {w w' : World} {b1 : Nat} {p q v : Value} {A : LTab} (h : RS w b1 p q v A) (hf : Fr S w w') (hb : ¬ S b1) (hv : ∀ k, v.ownBlock = some k → ¬ S k) : RS w' b1 p q v A :=
  ⟨hf.at_ h.1 hb, h.2.move (fun k hk => hf.block k (h.2.lt k hk) (hv k hk))⟩
set_option maxRecDepth 100000 in
set_option maxHeartbeats 2000000 in
theorem ref_drop {w : World} {b1 : Nat} {p q v : Value} {A : LTab} (h : RS w b1 p q v A) (hn : A.length ≤ 1000) (o : Int) :
    Calls Try.prog 51 #[.pointer (some ⟨b1, 2, none⟩), .int .i64 o] w fun e w' => e = .returned (.int .i64 (dropNA o A)) ∧ ∃ v', RS w' b1 p q v' (dropA o A) ∧ (∀ k, v'.ownBlock = some k → w.heap.size ≤ k) ∧ Fr (fun i => i = b1) w w' := by
  have hc := h.cell
  have hlt := h.lt
  have HRT := hid h
  obtain ⟨A', c, rfl, hAc, hat⟩ := h.2.at_
  have HAT := hid hat
  clear hat h
  go_enter Try.func51, Try.ntmps51
  go_wp2_with fail
  go_loopg [5, 6] (A.length + 1) (fun m v5 v6 wr => ∃ i : Nat, v6 = .int .i64 i ∧ i ≤ A.length ∧ m = A.length + 1 - i ∧ klk.R 106 wr w.heap.size (fun _ => True) v5 (dropA o (A.take i)) ∧ Below w.heap.size w wr)
  case atStart => exact ⟨0, rfl, Nat.zero_le _, rfl, Kd.R_nil _ _ _ _ _, Below.refl _ _⟩
  case round =>
    obtain ⟨i, rfl, hi, hm, hR, hb⟩ := hrel
    have HN := hid hm
    have HR := hid hR
    have HB := hid hb
    have hcr : wr.cell? ⟨b1, 2, none⟩ = some (.slice A' A.length c) := (hb.cell (World.block_lt_of_cell? _ _ hc)).trans hc
    clear hm hR
    by_cases h1 : i < A.length
    · obtain ⟨x, hx⟩ : ∃ x, A[i]? = some x := ⟨_, List.getElem?_eq_getElem h1⟩
      obtain ⟨b, off, rfl, hbb, hcc⟩ := HAT.out i x hx
      have x0 : wr.cell? ⟨b, off + i * 3, none⟩ = some (.int .i64 x.1.1) := (hb.cell hbb).trans (hcc 0 _ rfl)
      have x1 : wr.cell? ⟨b, off + i * 3 + 1, none⟩ = some (.int .i64 x.1.2) := (hb.cell hbb).trans (hcc 1 _ rfl)
      have x2 : wr.cell? ⟨b, off + i * 3 + 2, none⟩ = some (.bool x.2) := (hb.cell hbb).trans (hcc 2 _ rfl)
      have htk : A.take (i + 1) = A.take i ++ [x] := by
        rw [List.take_succ_eq_append_getElem h1]
        have : A[i] = x := by rw [List.getElem?_eq_getElem h1] at hx; exact Option.some.inj hx
        rw [this]
      have HTK := hid htk
      have hdl : (dropA o (A.take i)).length ≤ 1000 := by
        have := drop_le o (A.take i)
        rw [List.length_take] at this
        omega
      have HDL := hid hdl
      clear hcc hx hb htk hdl
      cases qe : (x.1.2 != o)
      · have hd : dropA o (A.take (i + 1)) = dropA o (A.take i) := by
          rw [HTK.out]
          unfold dropA
          rw [List.filter_append]
          have : ownA o x = true := by simpa [ownA] using qe
          simp [this]
        have HD := hid hd
        clear hd
        go_wp2_with fail
        go_roundg (A.length + 1 - (i + 1))
        case measure => rw [HN.out]; omega
        case rel => exact ⟨i + 1, by go_num, by omega, rfl, by rw [HD.out]; exact HR.out, HB.out⟩
      · have hd : dropA o (A.take (i + 1)) = dropA o (A.take i) ++ [x] := by
          rw [HTK.out]
          unfold dropA
          rw [List.filter_append]
          have : ownA o x = false := by simpa [ownA] using qe
          simp [this]
        have HD := hid hd
        clear hd
        go_wp2_with (at_builtin; go_loud (refine Kd.R_append klk (w0 := w) w.heap.size rfl (.tmp 27) (.tmp 35) 45 106 _ 24 rfl Try.underlying45 info56 (by rfl) (by decide) (by decide) u5 (dropA o (A.take i)) x (encLk x) (fun _ => True) (fun _ => False) rfl rfl rfl (fun _ q => q.elim) (fun _ _ => trivial) HR.out HB.out HB.out.size (by have := HDL.out; omega) ?_); intro v7 w7 ho7 hb7 hg7 hat7)
        go_roundg (A.length + 1 - (i + 1))
        case measure => rw [HN.out]; omega
        case rel => exact ⟨i + 1, by go_num, by omega, rfl, by rw [HD.out]; exact ho7, hb7⟩
    · have hi2 : i = A.length := by omega
      subst hi2
      have hr2 := HR.out
      rw [List.take_length] at hr2
      have hown := hr2.1
      obtain ⟨A5, c5, hv5⟩ := Kd.R_slice hr2
      have hnb : ∀ k, u5.ownBlock = some k → w.heap.size ≤ k := fun k hk => (Kd.R_bound hr2).1 k hk |>.2.1
      subst hv5
      have hdl := drop_le o A
      have hdc := drop_count o A
      have HR2 := hid hr2
      have HNB := hid hnb
      have HDC := hid hdc
      have hz : wr.frozen? ⟨b1, 2, none⟩ = false := by
        have := (hb.block _ hlt).trans HRT.out.1
        simp [World.frozen?, this]
      clear hown hr2 hnb hdc
      go_wp2_with fail
      go_ret
      have hb1 : wr.heap[b1]? = some (.cells #[p, q, .slice A' A.length c] 49 (0, 0)) := (HB.out.block _ hlt).trans HRT.out.1
      refine ⟨by rw [HDC.out.symm]; go_num, .slice A5 (dropA o A).length c5, RS.set hb1 (Kd.R_lower HR2.out (Nat.zero_le _)), HNB.out, Fr.setCell (S := fun i => i = b1) (p := ⟨b1, 2, none⟩) ((Fr.of_below HB.out (Nat.le_refl _)).mono (fun _ q => q.elim)) (.inl rfl) _⟩

theorem RT.fr {S : Nat → Prop} {w w' : World} {b1 : Nat} {v : Value} {A : LTab} (h : RT w b1 v A) (hf : Fr S w w') (hb : ¬ S b1) (hv : ∀ k, v.ownBlock = some k → ¬ S k) : RT w' b1 v A :=
  ⟨hf.at_ h.1 hb, h.2.move (fun k hk => hf.block k (h.2.lt k hk) (hv k hk))⟩
theorem LkRow.C {w : World} {A' : Option Addr} {l : LTab} {n c : Nat} (h : LkRow w (.slice A' n c) l) : n = l.length ∧ n ≤ c ∧ klk.C w A' l.length l := Kd.R_reads' h
/-- What is done with the copied table: decided, and laid in. -/
def TakeRef (w : World) (b1 : Nat) (p q v : Value) (R : Int × LTab) (e : Ending) (w' : World) : Prop :=
  e = .returned (.int .i64 R.1) ∧ ∃ v', RS w' b1 p q v' R.2 ∧ (∀ j, v'.ownBlock = some j → v.ownBlock = some j ∨ w.heap.size ≤ j) ∧ Fr (fun i => i = b1) w w'
set_option maxRecDepth 100000 in
set_option maxHeartbeats 4000000 in
theorem ref_take {w : World} {b1 : Nat} {p q v : Value} {A : LTab} (h : RS w b1 p q v A) (hA : Right A) (o k : Int) (al : Bool) :
    Calls Try.prog 50 #[.pointer (some ⟨b1, 2, none⟩), .int .i64 o, .int .i64 k, .bool al] w (TakeRef w b1 p q v (takeA A o k al)) := by
  have hlen := hA.len
  have hT := take_ref hA o k al
  have hlt := h.lt
  have hbx : Below w.heap.size w (w.alloc (.cells #[.slice none 0 0] 47)) := (Below.refl _ _).alloc (Nat.le_refl _) _
  have hxx : (w.alloc (.cells #[.slice none 0 0] 47)).heap[w.heap.size]? = some (.cells #[.slice none 0 0] 47 (0, 0)) := (MapKept.heap_alloc w _).1
  have hsz : (w.alloc (.cells #[.slice none 0 0] 47)).heap.size = w.heap.size + 1 := by simp
  have hrt := h.below hbx
  obtain ⟨A', c, rfl, hAc, _⟩ := h.2.at_
  have hc1 := hrt.cell
  have hc2 : (w.alloc (.cells #[.slice none 0 0] 47)).cell? ⟨w.heap.size, 0, none⟩ = some (.slice none 0 0) := by rw [cell_of_row _ _ 0 _ _ _ hxx]; rfl
  have hC := (LkRow.C hrt.2).2.2
  have HT := hid hT
  have HRA := hid hA
  have HRT := hid hrt
  have HXX := hid hxx
  have HC := hid hC
  have HB := hid hbx
  clear h hrt hxx hC hbx hT hA
  go_enter Try.func50, Try.ntmps50
  go_wp2_with fail
  generalize w.alloc (.cells #[.slice none 0 0] 47) = wa at *
  go_region_law (refine Kd.R_append_rows_step klk (Rr := fun x cs => cs = encLk x) (w0 := wa.drew) wa.drew.heap.size (by rfl) (.tmp 17) (.tmp 21) 45 106 _ 24 rfl Try.underlying45 info56 (by rfl) (by decide) (by decide) (.slice none 0 0) [] A A' A.length c (fun _ => True) (fun _ => False) (by simp [Act.eval, Act.put]) (by simp [Act.eval, Act.put]) (Kd.R_nil _ _ _ _ _) HC.out (fun _ _ h => h) (fun _ h => h.elim) (fun _ _ => trivial) (Below.refl _ _) (Nat.le_refl _) (by simp; omega) ?_; intro v5 w5 ho5 hb5 hg5 hat5; have hb5' : w5.heap[w.heap.size]? = some (.cells #[.slice none 0 0] 47 (0, 0)) := (hb5.block _ (by show w.heap.size < wa.heap.size; omega)).trans HXX.out; have hz5 : w5.frozen? ⟨w.heap.size, 0, none⟩ = false := (by simp [World.frozen?, hb5']); have hc5 : w5.cell? ⟨w.heap.size, 0, none⟩ = some (.slice none 0 0) := (by rw [cell_of_row w5 _ 0 _ _ _ hb5']; rfl); have HO5 := hid ho5; have HB5 := hid hb5; have HX5 := hid hb5'; clear ho5 hb5 hg5 hat5 hb5'; obtain ⟨A5, c5, hv5⟩ := Kd.R_slice HO5.out; rw [List.nil_append] at hv5 HO5; subst hv5)
  all_goals
    have hr6 := RT.set HX5.out (Kd.R_lower HO5.out (Nat.zero_le _))
    have hbb5 : Below wa.heap.size wa w5 := (bd1 wa).trans HB5.out
    have hfx : Fr (fun i => i = w.heap.size) wa (w5.setCell ⟨w.heap.size, 0, none⟩ (.slice A5 A.length c5)) := Fr.setCell (S := fun i => i = w.heap.size) (p := ⟨w.heap.size, 0, none⟩) ((Fr.of_below hbb5 (Nat.le_refl _)).mono (fun _ q => q.elim)) (.inl rfl) _
    have hb1 : RS (w5.setCell ⟨w.heap.size, 0, none⟩ (.slice A5 A.length c5)) b1 p q (.slice A' A.length c) A := HRT.out.fr hfx (by intro q; omega) (fun j hj q => HRT.out.2.ne HXX.out (by rw [hj, q]))
    have hnb : ∀ j, (Value.slice A5 A.length c5).ownBlock = some j → w.heap.size < j := fun j hj => by
      have h1 : wa.heap.size ≤ j := ((Kd.R_bound HO5.out).1 j hj).2.1
      omega
    have hfw : Fr (fun _ => False) w (w5.setCell ⟨w.heap.size, 0, none⟩ (.slice A5 A.length c5)) := Fr.of_below (HB.out.trans (hfx.below HB.out.size (fun j hj q => by omega))) (Nat.le_refl _)
    generalize w5.setCell ⟨w.heap.size, 0, none⟩ (.slice A5 A.length c5) = w6 at *
    have HR6 := hid hr6
    have HB1 := hid hb1
    have HNB := hid hnb
    have HFW := hid hfw
    have hp := place_any hr6 (by omega) o k
    clear hr6 hb1 hnb hfw hfx hbb5 HX5 HB5 HO5 hz5 hc5 hc1 hc2 HC HB
    have hx6 := HR6.out.cell
    cases hpl : placeN A o k with
    | none =>
      have hpa : placeA A o k = -1 := by unfold placeA; rw [hpl]
      have hg := placeN_none hpl
      rw [hpa] at hp
      have hap : aput (k, o) ((aget (k, o) A).getD false || al) A = A ++ [((k, o), al)] := by unfold aput; rw [hg]; simp
      have hT := HT.out
      rw [hap] at hT
      have HP := hid hp
      have T2 := hid hT
      clear hp hpl hpa hg hap hT
      go_wp2_with fail
      refine HP.out.mono ?_
      rintro e w7 ⟨rfl, rfl⟩
      go_wp2_with (at_builtin; go_loud (refine Kd.R_append klk (w0 := w6) 0 rfl (.tmp 35) (.tmp 40) 45 106 _ 24 rfl Try.underlying45 info56 (by rfl) (by decide) (by decide) (.slice A5 A.length c5) A ((k, o), al) (encLk ((k, o), al)) (fun _ => True) (fun _ => False) rfl rfl rfl (fun _ q => q.elim) (fun _ _ => trivial) HR6.out.2 (Below.refl _ _) (Nat.zero_le _) (by omega) ?_); intro v8 w8 ho8 hb8 hg8 hat8; have hx8 : w8.heap[w.heap.size]? = some (.cells #[.slice A5 A.length c5] 47 (0, 0)) := (hg8.block _ HR6.out.lt (fun q => absurd (HNB.out _ q.symm) (by omega))).trans HR6.out.1; have hz8 : w8.frozen? ⟨w.heap.size, 0, none⟩ = false := (by simp [World.frozen?, hx8]); have hc8 : w8.cell? ⟨w.heap.size, 0, none⟩ = some (.slice A5 A.length c5) := (by rw [cell_of_row w8 _ 0 _ _ _ hx8]; rfl); have HO8 := hid ho8; have HX8 := hid hx8; have HG8 := hid hg8; have HAT8 := hid hat8; clear ho8 hb8 hg8 hat8 hx8; obtain ⟨A8, c8, hv8⟩ := Kd.R_slice HO8.out; rw [List.length_append, List.length_singleton] at hv8; subst hv8)
      have hrz := RT.set HX8.out HO8.out
      have hf8 : Fr (fun i => i = w.heap.size ∨ (Value.slice A5 A.length c5).ownBlock = some i) w6 (w8.setCell ⟨w.heap.size, 0, none⟩ (.slice A8 (A.length + 1) c8)) := Fr.setCell (p := ⟨w.heap.size, 0, none⟩) ((Fr.of_grown HG8.out).mono (fun j hj => .inr hj)) (.inl (.inl rfl)) _
      have hbz := HB1.out.fr hf8 (fun q => by
        rcases q with q | q
        · omega
        · have := HNB.out _ q
          omega) (fun j hj q => by
        rcases q with q | q
        · exact HB1.out.2.ne HR6.out.1 (by rw [hj, q])
        · have h1 := HNB.out _ q
          have h2 := HRT.out.2.lt j hj
          omega)
      have hvz : ∀ j, (Value.slice A8 (A.length + 1) c8).ownBlock = some j → w.heap.size ≤ j := fun j hj => by
        rcases HAT8.out with q | ⟨b, q, hb⟩
        · rw [q] at hj; exact Nat.le_of_lt (HNB.out j hj)
        · rw [hj] at q; cases q; exact Nat.le_trans HFW.out.size hb
      have hfz := HFW.out.trans hf8 (fun j hj => .inr (by
        rcases hj with q | q
        · omega
        · exact Nat.le_of_lt (HNB.out j q)))
      have hlz : (A ++ [((k, o), al)]).length ≤ 65 := by simp; omega
      have hA2 : ∃ A2, A2 = A ++ [((k, o), al)] := ⟨_, rfl⟩
      obtain ⟨A2, hA2⟩ := hA2
      have hln : A.length + 1 = A2.length := by rw [hA2]; simp
      rw [← hA2] at T2 hrz hlz
      rw [hln] at hrz hvz hbz hfz ⊢
      generalize w8.setCell ⟨w.heap.size, 0, none⟩ (.slice A8 A2.length c8) = wz at *
      have RZ := hid hrz
      have B1 := hid hbz
      have VZ := hid hvz
      have FZ := hid hfz
      have LZ := hid hlz
      clear hrz hbz hvz hfz hlz hf8 HO8 HX8 HG8 HAT8 hz8 hc8 hA2 HP hln hx6
      have hcl := hid (clash_ref RZ.out (by have := LZ.out; omega))
      have hcz1 := B1.out.cell
      have hczx := RZ.out.cell
      have hfz1 : wz.frozen? ⟨b1, 2, none⟩ = false := by simp [World.frozen?, B1.out.1]
      cases hq : clashA A2
      · rw [hq] at hcl
        have hq1 : ¬ clashA A2 = true := by rw [hq]; decide
        by_cases h64 : 64 < A2.length
        · have hR : takeA A o k al = (5, A) := by rw [T2.out, if_neg hq1, if_pos h64]
          have HRR := hid hR
          clear hq hq1 hR
          go_wp2_with fail
          refine hcl.out.mono ?_
          rintro e w10 ⟨rfl, q, hw10⟩
          subst hw10
          go_wp2_with fail
          go_ret
          unfold TakeRef
          rw [HRR.out]
          exact ⟨rfl, _, B1.out.below (bdn wz q), fun j hj => .inl hj, (FZ.out.mono (fun _ h => h.elim)).drewN q⟩
        · have hR : takeA A o k al = (0, A2) := by rw [T2.out, if_neg hq1, if_neg h64]
          have HRR := hid hR
          clear hq hq1 hR
          go_wp2_with fail
          refine hcl.out.mono ?_
          rintro e w10 ⟨rfl, q, hw10⟩
          subst hw10
          go_wp2_with fail
          go_ret
          unfold TakeRef
          rw [HRR.out]
          exact ⟨rfl, _, RS.set (B1.out.below (bdn wz q)).1 (RZ.out.below (bdn wz q)).2, fun j hj => .inr (VZ.out j hj), Fr.setCell (S := fun i => i = b1) (p := ⟨b1, 2, none⟩) ((FZ.out.mono (fun _ h => h.elim)).drewN q) (.inl rfl) _⟩
      · rw [hq] at hcl
        have hR : takeA A o k al = (120, A) := by rw [T2.out, if_pos hq]
        have HRR := hid hR
        clear hq hR
        go_wp2_with fail
        refine hcl.out.mono ?_
        rintro e w10 ⟨rfl, q, hw10⟩
        subst hw10
        go_wp2_with fail
        go_ret
        unfold TakeRef
        rw [HRR.out]
        exact ⟨rfl, _, B1.out.below (bdn wz q), fun j hj => .inl hj, (FZ.out.mono (fun _ h => h.elim)).drewN q⟩
    | some i =>
      have hpa : placeA A o k = i := by unfold placeA; rw [hpl]
      obtain ⟨x, hx, hxk⟩ := placeN_some hpl
      have hi := (List.getElem?_eq_some_iff.1 hx).1
      have hg := placeN_get HRA.out.keys hpl hx
      rw [hpa] at hp
      have hT := HT.out
      rw [hg] at hT
      cases hal : al
      · rw [hal] at hT
        rw [show ((some x.2 : Option Bool).getD false || false) = x.2 by simp, ← same_aput HRA.out.keys hx hxk] at hT
        have HP := hid hp
        have hA2 : ∃ A2, A2 = A := ⟨_, rfl⟩
        obtain ⟨A2, hA2⟩ := hA2
        have T2 : Hid (takeA A o k false = if clashA A2 = true then (120, A) else if 64 < A2.length then (5, A) else (0, A2)) := hid (by rw [hA2]; exact hT)
        have RZ : Hid (RT w6 w.heap.size (.slice A5 A.length c5) A2) := hid (by rw [hA2]; exact HR6.out)
        have B1 := HB1
        have VZ : Hid (∀ j, (Value.slice A5 A.length c5).ownBlock = some j → w.heap.size ≤ j) := hid (fun j hj => Nat.le_of_lt (HNB.out j hj))
        have FZ := HFW
        have LZ : Hid (A2.length ≤ 65) := hid (by rw [hA2]; omega)
        have hln : A.length = A2.length := by rw [hA2]
        clear hp hpl hpa hg hT hA2 hx
        subst hal
        go_wp2_with fail
        refine HP.out.mono ?_
        rintro e w7 ⟨rfl, rfl⟩
        rw [hln] at RZ VZ hx6 ⊢
        generalize w6 = wz at *
        have hcl := hid (clash_ref RZ.out (by have := LZ.out; omega))
        have hcz1 := B1.out.cell
        have hczx := RZ.out.cell
        have hfz1 : wz.frozen? ⟨b1, 2, none⟩ = false := by simp [World.frozen?, B1.out.1]
        cases hq : clashA A2
        · rw [hq] at hcl
          have hq1 : ¬ clashA A2 = true := by rw [hq]; decide
          by_cases h64 : 64 < A2.length
          · have hR : takeA A o k false = (5, A) := by rw [T2.out, if_neg hq1, if_pos h64]
            exfalso; omega
          · have hR : takeA A o k false = (0, A2) := by rw [T2.out, if_neg hq1, if_neg h64]
            have HRR := hid hR
            clear hq hq1 hR
            go_wp2_with fail
            refine hcl.out.mono ?_
            rintro e w10 ⟨rfl, q, hw10⟩
            subst hw10
            go_wp2_with fail
            go_ret
            unfold TakeRef
            rw [HRR.out]
            exact ⟨rfl, _, RS.set (B1.out.below (bdn wz q)).1 (RZ.out.below (bdn wz q)).2, fun j hj => .inr (VZ.out j hj), Fr.setCell (S := fun i => i = b1) (p := ⟨b1, 2, none⟩) ((FZ.out.mono (fun _ h => h.elim)).drewN q) (.inl rfl) _⟩
        · rw [hq] at hcl
          have hR : takeA A o k false = (120, A) := by rw [T2.out, if_pos hq]
          have HRR := hid hR
          clear hq hR
          go_wp2_with fail
          refine hcl.out.mono ?_
          rintro e w10 ⟨rfl, q, hw10⟩
          subst hw10
          go_wp2_with fail
          go_ret
          unfold TakeRef
          rw [HRR.out]
          exact ⟨rfl, _, B1.out.below (bdn wz q), fun j hj => .inl hj, (FZ.out.mono (fun _ h => h.elim)).drewN q⟩
      · rw [hal] at hT
        rw [show ((some x.2 : Option Bool).getD false || true) = true by simp, ← set_aput HRA.out.keys hx hxk] at hT
        obtain ⟨g, cp, hv, _, hgl, cells, hgc⟩ := Kd.R_form HR6.out.2 (by omega)
        injection hv with hv1 hv2 hv3
        subst hv1
        subst hv3
        have hat := HR6.out.2.at_
        obtain ⟨A9, c9, hv9, _, hat⟩ := hat
        injection hv9 with h91 h92 h93
        obtain ⟨b9, off9, he9, _, hcx⟩ := hat i x hx
        rw [← h91] at he9
        cases he9
        have hcx2 : ∀ j u, (encLk x)[j]? = some u → w6.cell? ⟨g, (i : Int).toNat * klk.sz + j, none⟩ = some u := fun j u hu => by
          have := hcx j u hu
          rw [Nat.zero_add] at this
          exact this
        have hgn := HNB.out g rfl
        have hic : (i : Int) < A.length := by omega
        have hi0 : (0 : Int) ≤ i := by omega
        have HX := hid hx
        have HXK := hid hxk
        have HCX := hid hcx2
        have HP := hid hp
        have HT2 := hid hT
        clear hp hpl hpa hg hT hcx hcx2 hat hx hxk h91 h92 h93 hgc
        subst hal
        go_wp2_with fail
        refine HP.out.mono ?_
        rintro e w7 ⟨rfl, rfl⟩
        go_wp2_with ((with_reducible refine gate_ (.store 4 (.tmp 51) (.const (.bool true))) rfl ?_); refine Kd.R_store klk (w0 := w6) 0 rfl rfl 4 (.tmp 51) (.const (.bool true)) rfl 106 (i : Int) 2 A ((k, o), true) (.bool true) [.bool true] (encLk x) (fun _ => True) (fun _ => False) rfl (by simp [klk]) rfl rfl (by kernel_rfl) (by intro u hu; simp at hu; subst hu; rfl) HR6.out.2 hi0 hic rfl HCX.out (by simp [klk]) (by show [Value.int .i64 x.1.1, .int .i64 x.1.2, .bool true] = encLk ((k, o), true); rw [HXK.out]; rfl) (fun _ q => q.elim) (Below.refl _ _) ?_; intro w8 hrow8 hb8 hg8; have hx8 : w8.heap[w.heap.size]? = some (.cells #[.slice (some ⟨g, 0, none⟩) A.length c5] 47 (0, 0)) := (hg8.block _ HR6.out.lt (fun q => by cases q; omega)).trans HR6.out.1; have HO8 := hid hrow8; have HX8 := hid hx8; have HG8 := hid hg8; have hc8 : w8.cell? ⟨w.heap.size, 0, none⟩ = some (.slice (some ⟨g, 0, none⟩) A.length c5) := (by rw [cell_of_row w8 _ 0 _ _ _ hx8]; rfl); clear hrow8 hb8 hg8 hx8)
        have hA2 : ∃ A2, A2 = A.set i ((k, o), true) := ⟨_, rfl⟩
        obtain ⟨A2, hA2⟩ := hA2
        have hln : A.length = A2.length := by rw [hA2]; simp
        have T2 : Hid (takeA A o k true = if clashA A2 = true then (120, A) else if 64 < A2.length then (5, A) else (0, A2)) := hid (by rw [hA2]; exact HT2.out)
        have hrow9 : LkRow w8 (.slice (some ⟨g, 0, none⟩) A.length c5) A2 := by rw [hA2]; exact HO8.out
        have RZ : Hid (RT w8 w.heap.size (.slice (some ⟨g, 0, none⟩) A.length c5) A2) := hid ⟨HX8.out, hrow9⟩
        have hf8 : Fr (fun j => some g = some j) w6 w8 := Fr.of_grown HG8.out
        have B1 := hid (HB1.out.fr hf8 (by intro q; cases q; omega) (fun j hj q => by
          cases q
          have h2 := HRT.out.2.lt g hj
          omega))
        have VZ : Hid (∀ j, (Value.slice (some ⟨g, 0, none⟩) A.length c5).ownBlock = some j → w.heap.size ≤ j) := hid (fun j hj => Nat.le_of_lt (HNB.out j hj))
        have FZ := hid (HFW.out.trans hf8 (fun j hj => .inr (by cases hj; omega)))
        have LZ : Hid (A2.length ≤ 65) := hid (by rw [← hln]; omega)
        clear hA2 HT2 hrow9 hf8 HO8 HX8 HG8 HX HXK HCX HP hx6
        rw [hln] at RZ VZ hc8 ⊢
        generalize w8 = wz at *
        have hcl := hid (clash_ref RZ.out (by have := LZ.out; omega))
        have hcz1 := B1.out.cell
        have hczx := RZ.out.cell
        have hfz1 : wz.frozen? ⟨b1, 2, none⟩ = false := by simp [World.frozen?, B1.out.1]
        cases hq : clashA A2
        · rw [hq] at hcl
          have hq1 : ¬ clashA A2 = true := by rw [hq]; decide
          by_cases h64 : 64 < A2.length
          · have hR : takeA A o k true = (5, A) := by rw [T2.out, if_neg hq1, if_pos h64]
            exfalso; omega
          · have hR : takeA A o k true = (0, A2) := by rw [T2.out, if_neg hq1, if_neg h64]
            have HRR := hid hR
            clear hq hq1 hR
            go_wp2_with fail
            refine hcl.out.mono ?_
            rintro e w10 ⟨rfl, q, hw10⟩
            subst hw10
            go_wp2_with fail
            go_ret
            unfold TakeRef
            rw [HRR.out]
            exact ⟨rfl, _, RS.set (B1.out.below (bdn wz q)).1 (RZ.out.below (bdn wz q)).2, fun j hj => .inr (VZ.out j hj), Fr.setCell (S := fun i => i = b1) (p := ⟨b1, 2, none⟩) ((FZ.out.mono (fun _ h => h.elim)).drewN q) (.inl rfl) _⟩
        · rw [hq] at hcl
          have hR : takeA A o k true = (120, A) := by rw [T2.out, if_pos hq]
          have HRR := hid hR
          clear hq hR
          go_wp2_with fail
          refine hcl.out.mono ?_
          rintro e w10 ⟨rfl, q, hw10⟩
          subst hw10
          go_wp2_with fail
          go_ret
          unfold TakeRef
          rw [HRR.out]
          exact ⟨rfl, _, B1.out.below (bdn wz q), fun j hj => .inl hj, (FZ.out.mono (fun _ h => h.elim)).drewN q⟩
end Go.Proofs.Ytekebjcknhjceaa
