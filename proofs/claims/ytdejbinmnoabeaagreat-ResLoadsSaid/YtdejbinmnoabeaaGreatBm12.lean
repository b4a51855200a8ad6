/- Texts of this seat, put together: LockY, KvD0, KvD1. -/
import Derived.Test.YtdejbinmnoabeaaGreatBm11
import Derived.Deep.RegionLaw
namespace Go.Mine
set_option linter.unusedVariables false
set_option linter.unusedSimpArgs false
theorem set_aput {A : LTab} (hA : A.Pairwise (fun x y => x.1 ≠ y.1)) {o k : Int} {i : Nat} {x : Lk} (hx : A[i]? = some x) (hk : x.1 = (k, o)) (v : Bool) : A.set i ((k, o), v) = aput (k, o) v A := by
  have hg : aget (k, o) A = some x.2 := by
    refine aget_of_mem hA ?_
    rw [← hk]
    exact List.mem_of_getElem? hx
  obtain ⟨hi, hxe⟩ := List.getElem?_eq_some_iff.1 hx
  rw [List.pairwise_iff_getElem] at hA
  unfold aput
  rw [if_pos (by rw [hg]; rfl)]
  apply List.ext_getElem (by simp)
  intro j h1 h2
  have hj : j < A.length := by simpa using h1
  rw [List.getElem_set, List.getElem_map]
  by_cases e : i = j
  · subst e
    rw [if_pos rfl, hxe, if_pos hk, hk]
  · rw [if_neg e]
    have : A[j].1 ≠ (k, o) := by
      intro q
      rcases Nat.lt_or_gt_of_ne e with h | h
      · exact hA i j hi hj h (by rw [hxe, hk, q])
      · exact hA j i hj hi h (by rw [hxe, hk, q])
    rw [if_neg this]
theorem same_aput {A : LTab} (hA : A.Pairwise (fun x y => x.1 ≠ y.1)) {o k : Int} {i : Nat} {x : Lk} (hx : A[i]? = some x) (hk : x.1 = (k, o)) : A = aput (k, o) x.2 A := by
  rw [← set_aput hA hx hk]
  obtain ⟨hi, hxe⟩ := List.getElem?_eq_some_iff.1 hx
  rw [show ((k, o), x.2) = x from Prod.ext hk.symm rfl, ← hxe, List.set_getElem_self]
theorem clash_put {A : LTab} (hA : Right A) (o k : Int) (al : Bool) : clashA (aput (k, o) ((aget (k, o) A).getD false || al) A) = A.any (confA o k al ((aget (k, o) A).getD false)) := by
  have hself := mem_aput_self (k, o) ((aget (k, o) A).getD false || al) A
  generalize hwas : (aget (k, o) A).getD false = was at *
  rw [Bool.eq_iff_iff]
  unfold clashA
  constructor
  · intro h
    rw [List.any_eq_true] at h
    obtain ⟨x, hx, h⟩ := h
    rw [List.any_eq_true] at h
    obtain ⟨y, hy, h⟩ := h
    simp only [Bool.and_eq_true, beq_iff_eq, bne_iff_ne] at h
    obtain ⟨⟨h1, h2⟩, h3⟩ := h
    rw [List.any_eq_true]
    rcases mem_aput hx with rfl | ⟨hxA, hxk⟩
    · rcases mem_aput hy with rfl | ⟨hyA, hyk⟩
      · exact absurd rfl h2
      · refine ⟨y, hyA, ?_⟩
        simp only at h1 h2 h3
        simp only [confA, Bool.and_eq_true, beq_iff_eq, bne_iff_ne]
        refine ⟨⟨h1.symm, fun q => h2 q.symm⟩, ?_⟩
        cases y.2 <;> cases al <;> cases was <;> simp_all
    · rcases mem_aput hy with rfl | ⟨hyA, hyk⟩
      · refine ⟨x, hxA, ?_⟩
        simp only at h1 h2
        simp only [confA, Bool.and_eq_true, beq_iff_eq, bne_iff_ne]
        refine ⟨⟨h1, h2⟩, by rw [h3]; rfl⟩
      · have := hA.clash x hxA y hyA h1 h2
        rw [h3] at this
        cases this
  · intro h
    rw [List.any_eq_true] at h
    obtain ⟨e, he, h⟩ := h
    simp only [confA, Bool.and_eq_true, beq_iff_eq, bne_iff_ne] at h
    obtain ⟨⟨h1, h2⟩, h3⟩ := h
    have hne : e.1 ≠ (k, o) := fun q => h2 (by rw [q])
    have he2 := mem_aput_other (v := was || al) he hne
    rw [List.any_eq_true]
    cases h4 : e.2
    · refine ⟨_, hself, ?_⟩
      rw [List.any_eq_true]
      refine ⟨e, he2, ?_⟩
      simp only [Bool.and_eq_true, beq_iff_eq, bne_iff_ne]
      refine ⟨⟨h1.symm, fun q => h2 q.symm⟩, ?_⟩
      rw [h4] at h3
      cases al <;> cases was <;> simp_all
    · refine ⟨e, he2, ?_⟩
      rw [List.any_eq_true]
      refine ⟨_, hself, ?_⟩
      simp only [Bool.and_eq_true, beq_iff_eq, bne_iff_ne]
      exact ⟨⟨h1, h2⟩, h4⟩
theorem take_ref {A : LTab} (hA : Right A) (o k : Int) (al : Bool) : takeA A o k al = if clashA (aput (k, o) ((aget (k, o) A).getD false || al) A) = true then (120, A) else if 64 < (aput (k, o) ((aget (k, o) A).getD false || al) A).length then (5, A) else (0, aput (k, o) ((aget (k, o) A).getD false || al) A) := by
  rw [clash_put hA]
  unfold takeA
  split
  · rfl
  · have hlen := hA.len
    cases hg : aget (k, o) A with
    | none =>
      have : (aput (k, o) ((none : Option Bool).getD false || al) A).length = A.length + 1 := by
        unfold aput
        rw [hg]
        simp
      rw [this]
      by_cases h : 64 ≤ A.length
      · rw [if_pos (by simpa using h), if_pos (by omega)]
      · rw [if_neg (by simpa using h), if_neg (by omega)]
    | some v =>
      have := aput_length_same (k := (k, o)) (v := v || al) (A := A) (by rw [hg]; rfl)
      rw [if_neg (by simp), if_neg (by simp only [Option.getD_some]; omega)]
end Go.Mine
namespace Go.Proofs.YtdejbinmnoabeaaGreat.D
open Go.Proofs.YtdejbinmnoabeaaGreat.K
variable {Ze : Z3}
open Go.RowKit Go.Mine Go.Proofs.YtdejbinmnoabeaaGreatW.PrintWords
set_option linter.unusedVariables false
set_option linter.unusedSimpArgs false
theorem info50 : (Tryz.prog.info? 167).map (fun i => (i.zero, i.size, i.bytes)) = some (some (.agg #[.int .i64 0, .int .i64 0, .bool false]), 3, 24) := by kernel_rfl
theorem drop_count (o : Int) (A : LTab) : (A.length : Int) - (dropA o A).length = dropNA o A := by
  have : A.length = (dropA o A).length + dropNA o A := by
    unfold dropA dropNA
    induction A with
    | nil => rfl
    | cons x xs ih => cases h : ownA o x <;> simp [List.filter_cons, h, ih] <;> omega
  omega
theorem drop_le (o : Int) (A : LTab) : (dropA o A).length ≤ A.length := List.length_filter_le _ _
theorem bd1 (w : World) : Below w.heap.size w w.drew := ⟨rfl, rfl, rfl, Nat.le_refl _, fun _ _ => rfl⟩
theorem bdn (w : World) (n : Nat) : Below w.heap.size w (w.drewN n) := ⟨rfl, rfl, rfl, Nat.le_refl _, fun _ _ => rfl⟩
theorem blk_set' {w : World} {b : Nat} {cs : Array Value} {T : TypeId} (h : w.heap[b]? = some (.cells cs T (0, 0))) (j : Nat) (u : Value) : (w.setCell ⟨b, j, none⟩ u).heap[b]? = some (.cells (cs.setIfInBounds j u) T (0, 0)) := by
  simp [World.setCell, Array.getElem?_modify, h]
theorem RT.set {w : World} {b1 : Nat} {v v' : Value} {A' : LTab} (hb : w.heap[b1]? = some (.cells #[v] 30 (0, 0))) (hr : LkRow w v' A') : RT (w.setCell ⟨b1, 0, none⟩ v') b1 v' A' :=
  ⟨blk_set' hb 0 v', hr.move (fun k hk => Below.heap_setCell _ _ _ _ (fun q => hr.ne hb (by rw [hk]; exact congrArg some q)))⟩
def RS (Ze : Z3) (w : World) (b1 : Nat) (p q v : Value) (A : LTab) : Prop := w.heap[b1]? = some (.cells #[p, q, v, Ze.a, Ze.b, Ze.c] 38 (0, 0)) ∧ LkRow w v A
theorem LkRow.ne38 {w : World} {v : Value} {cs : Array Value} {l : LTab} (h : LkRow w v l) {b : Nat} (hb : w.heap[b]? = some (.cells cs 38 (0, 0))) : v.ownBlock ≠ some b := by
  intro hk
  obtain ⟨h0, inner, ho, hr⟩ := h
  obtain ⟨cells, hc⟩ := own_typed ho b hk
  rw [hb] at hc
  simp at hc
theorem RS.lt {w : World} {b1 : Nat} {p q v : Value} {A : LTab} (h : RS Ze w b1 p q v A) : b1 < w.heap.size := (Array.getElem?_eq_some_iff.1 h.1).1
theorem RS.cell {w : World} {b1 : Nat} {p q v : Value} {A : LTab} (h : RS Ze w b1 p q v A) : w.cell? ⟨b1, 2, none⟩ = some v := by rw [cell_of_row w b1 2 _ _ _ h.1]; rfl
theorem RS.below {w w' : World} {b1 : Nat} {p q v : Value} {A : LTab} (h : RS Ze w b1 p q v A) (hb : Below w.heap.size w w') : RS Ze w' b1 p q v A :=
  ⟨(hb.block _ h.lt).trans h.1, h.2.move (fun k hk => hb.block _ (h.2.lt k hk))⟩
theorem RS.set {w : World} {b1 : Nat} {p q v v' : Value} {A' : LTab} (hb : w.heap[b1]? = some (.cells #[p, q, v, Ze.a, Ze.b, Ze.c] 38 (0, 0))) (hr : LkRow w v' A') : RS Ze (w.setCell ⟨b1, 2, none⟩ v') b1 p q v' A' :=
  ⟨blk_set' hb 2 v', hr.move (fun k hk => Below.heap_setCell _ _ _ _ (fun e => hr.ne38 hb (by rw [hk]; exact congrArg some e)))⟩
theorem RS.fr {S : Nat → Prop} {w w' : World} {b1 : Nat} {p q v : Value} {A : LTab} (h : RS Ze w b1 p q v A) (hf : Fr S w w') (hb : ¬ S b1) (hv : ∀ k, v.ownBlock = some k → ¬ S k) : RS Ze w' b1 p q v A :=
  ⟨hf.at_ h.1 hb, h.2.move (fun k hk => hf.block k (h.2.lt k hk) (hv k hk))⟩
set_option maxRecDepth 100000 in
set_option maxHeartbeats 2000000 in
theorem ref_drop {w : World} {b1 : Nat} {p q v : Value} {A : LTab} (h : RS Ze w b1 p q v A) (hn : A.length ≤ 1000) (o : Int) :
    Calls Tryz.prog 106 #[.pointer (some ⟨b1, 2, none⟩), .int .i64 o] w fun e w' => e = .returned (.int .i64 (dropNA o A)) ∧ ∃ v', RS Ze w' b1 p q v' (dropA o A) ∧ (∀ k, v'.ownBlock = some k → w.heap.size ≤ k) ∧ Fr (fun i => i = b1) w w' := by
  have hc := h.cell
  have hlt := h.lt
  have HRT := hid h
  obtain ⟨A', c, rfl, hAc, hat⟩ := h.2.at_
  have HAT := hid hat
  clear hat h
  go_enter Tryz.func106, Tryz.ntmps106
  go_wp2_with fail
  go_loopg [5, 6] (A.length + 1) (fun m v5 v6 wr => ∃ i : Nat, v6 = .int .i64 i ∧ i ≤ A.length ∧ m = A.length + 1 - i ∧ klk.R 167 wr w.heap.size (fun _ => True) v5 (dropA o (A.take i)) ∧ Below w.heap.size w wr)
  case atStart => exact ⟨0, rfl, Nat.zero_le _, rfl, Kd.R_nil _ _ _ _ _, Below.refl _ _⟩
  case round =>
    obtain ⟨i, rfl, hi, hm, hR, hb⟩ := hrel
    have HN := hid hm
    have HR := hid hR
    have HB := hid hb
    have hcr : wr.cell? ⟨b1, 2, none⟩ = some (.slice A' A.length c) := (hb.cell (World.block_lt_of_cell? _ _ hc)).trans hc
    clear hm hR
    by_cases h1 : i < A.length
    · obtain ⟨x, hx⟩ : ∃ x, A[i]? = some x := ⟨_, List.getElem?_eq_getElem h1⟩
      obtain ⟨b, off, rfl, hbb, hcc⟩ := HAT.out i x hx
      have x0 : wr.cell? ⟨b, off + i * 3, none⟩ = some (.int .i64 x.1.1) := (hb.cell hbb).trans (hcc 0 _ rfl)
      have x1 : wr.cell? ⟨b, off + i * 3 + 1, none⟩ = some (.int .i64 x.1.2) := (hb.cell hbb).trans (hcc 1 _ rfl)
      have x2 : wr.cell? ⟨b, off + i * 3 + 2, none⟩ = some (.bool x.2) := (hb.cell hbb).trans (hcc 2 _ rfl)
      have htk : A.take (i + 1) = A.take i ++ [x] := by
        rw [List.take_succ_eq_append_getElem h1]
        have : A[i] = x := by rw [List.getElem?_eq_getElem h1] at hx; exact Option.some.inj hx
        rw [this]
      have HTK := hid htk
      have hdl : (dropA o (A.take i)).length ≤ 1000 := by
        have := drop_le o (A.take i)
        rw [List.length_take] at this
        omega
      have HDL := hid hdl
      clear hcc hx hb htk hdl
      cases qe : (x.1.2 != o)
      · have hd : dropA o (A.take (i + 1)) = dropA o (A.take i) := by
          rw [HTK.out]
          unfold dropA
          rw [List.filter_append]
          have : ownA o x = true := by simpa [ownA] using qe
          simp [this]
        have HD := hid hd
        clear hd
        go_wp2_with fail
        go_roundg (A.length + 1 - (i + 1))
        case measure => rw [HN.out]; omega
        case rel => exact ⟨i + 1, by go_num, by omega, rfl, by rw [HD.out]; exact HR.out, HB.out⟩
      · have hd : dropA o (A.take (i + 1)) = dropA o (A.take i) ++ [x] := by
          rw [HTK.out]
          unfold dropA
          rw [List.filter_append]
          have : ownA o x = false := by simpa [ownA] using qe
          simp [this]
        have HD := hid hd
        clear hd
        go_wp2_with (at_builtin; go_loud (refine Kd.R_append klk (w0 := w) w.heap.size rfl (.tmp 27) (.tmp 35) 28 167 _ 24 rfl Tryz.underlying28 info50 (by rfl) (by decide) (by decide) u5 (dropA o (A.take i)) x (encLk x) (fun _ => True) (fun _ => False) rfl rfl rfl (fun _ q => q.elim) (fun _ _ => trivial) HR.out HB.out HB.out.size (by have := HDL.out; omega) ?_); intro v7 w7 ho7 hb7 hg7 hat7)
        go_roundg (A.length + 1 - (i + 1))
        case measure => rw [HN.out]; omega
        case rel => exact ⟨i + 1, by go_num, by omega, rfl, by rw [HD.out]; exact ho7, hb7⟩
    · have hi2 : i = A.length := by omega
      subst hi2
      have hr2 := HR.out
      rw [List.take_length] at hr2
      have hown := hr2.1
      obtain ⟨A5, c5, hv5⟩ := Kd.R_slice hr2
      have hnb : ∀ k, u5.ownBlock = some k → w.heap.size ≤ k := fun k hk => (Kd.R_bound hr2).1 k hk |>.2.1
      subst hv5
      have hdl := drop_le o A
      have hdc := drop_count o A
      have HR2 := hid hr2
      have HNB := hid hnb
      have HDC := hid hdc
      have hz : wr.frozen? ⟨b1, 2, none⟩ = false := by
        have := (hb.block _ hlt).trans HRT.out.1
        simp [World.frozen?, this]
      clear hown hr2 hnb hdc
      go_wp2_with fail
      go_ret
      have hb1 : wr.heap[b1]? = some (.cells #[p, q, .slice A' A.length c, Ze.a, Ze.b, Ze.c] 38 (0, 0)) := (HB.out.block _ hlt).trans HRT.out.1
      refine ⟨by rw [HDC.out.symm]; go_num, .slice A5 (dropA o A).length c5, RS.set hb1 (Kd.R_lower HR2.out (Nat.zero_le _)), HNB.out, Fr.setCell (S := fun i => i = b1) (p := ⟨b1, 2, none⟩) ((Fr.of_below HB.out (Nat.le_refl _)).mono (fun _ q => q.elim)) (.inl rfl) _⟩
theorem RT.fr {S : Nat → Prop} {w w' : World} {b1 : Nat} {v : Value} {A : LTab} (h : RT w b1 v A) (hf : Fr S w w') (hb : ¬ S b1) (hv : ∀ k, v.ownBlock = some k → ¬ S k) : RT w' b1 v A :=
  ⟨hf.at_ h.1 hb, h.2.move (fun k hk => hf.block k (h.2.lt k hk) (hv k hk))⟩
theorem LkRow.C {w : World} {A' : Option Addr} {l : LTab} {n c : Nat} (h : LkRow w (.slice A' n c) l) : n = l.length ∧ n ≤ c ∧ klk.C w A' l.length l := Kd.R_reads' h
def TakeRef (Ze : Z3) (w : World) (b1 : Nat) (p q v : Value) (R : Int × LTab) (e : Ending) (w' : World) : Prop :=
  e = .returned (.int .i64 R.1) ∧ ∃ v', RS Ze w' b1 p q v' R.2 ∧ (∀ j, v'.ownBlock = some j → v.ownBlock = some j ∨ w.heap.size ≤ j) ∧ Fr (fun i => i = b1) w w'
set_option maxRecDepth 100000 in
set_option maxHeartbeats 4000000 in
theorem ref_take {w : World} {b1 : Nat} {p q v : Value} {A : LTab} (h : RS Ze w b1 p q v A) (hA : Right A) (o k : Int) (al : Bool) :
    Calls Tryz.prog 105 #[.pointer (some ⟨b1, 2, none⟩), .int .i64 o, .int .i64 k, .bool al] w (TakeRef Ze w b1 p q v (takeA A o k al)) := by
  have hlen := hA.len
  have hT := take_ref hA o k al
  have hlt := h.lt
  have hbx : Below w.heap.size w (w.alloc (.cells #[.slice none 0 0] 30)) := (Below.refl _ _).alloc (Nat.le_refl _) _
  have hxx : (w.alloc (.cells #[.slice none 0 0] 30)).heap[w.heap.size]? = some (.cells #[.slice none 0 0] 30 (0, 0)) := (MapKept.heap_alloc w _).1
  have hsz : (w.alloc (.cells #[.slice none 0 0] 30)).heap.size = w.heap.size + 1 := by simp
  have hrt := h.below hbx
  obtain ⟨A', c, rfl, hAc, _⟩ := h.2.at_
  have hc1 := hrt.cell
  have hc2 : (w.alloc (.cells #[.slice none 0 0] 30)).cell? ⟨w.heap.size, 0, none⟩ = some (.slice none 0 0) := by rw [cell_of_row _ _ 0 _ _ _ hxx]; rfl
  have hC := (LkRow.C hrt.2).2.2
  have HT := hid hT
  have HRA := hid hA
  have HRT := hid hrt
  have HXX := hid hxx
  have HC := hid hC
  have HB := hid hbx
  clear h hrt hxx hC hbx hT hA
  go_enter Tryz.func105, Tryz.ntmps105
  go_wp2_with fail
  generalize w.alloc (.cells #[.slice none 0 0] 30) = wa at *
  go_region_law (refine Kd.R_append_rows_step klk (Rr := fun x cs => cs = encLk x) (w0 := wa.drew) wa.drew.heap.size (by rfl) (.tmp 17) (.tmp 21) 28 167 _ 24 rfl Tryz.underlying28 info50 (by rfl) (by decide) (by decide) (.slice none 0 0) [] A A' A.length c (fun _ => True) (fun _ => False) (by simp [Act.eval, Act.put]) (by simp [Act.eval, Act.put]) (Kd.R_nil _ _ _ _ _) HC.out (fun _ _ h => h) (fun _ h => h.elim) (fun _ _ => trivial) (Below.refl _ _) (Nat.le_refl _) (by simp; omega) ?_; intro v5 w5 ho5 hb5 hg5 hat5; have hb5' : w5.heap[w.heap.size]? = some (.cells #[.slice none 0 0] 30 (0, 0)) := (hb5.block _ (by show w.heap.size < wa.heap.size; omega)).trans HXX.out; have hz5 : w5.frozen? ⟨w.heap.size, 0, none⟩ = false := (by simp [World.frozen?, hb5']); have hc5 : w5.cell? ⟨w.heap.size, 0, none⟩ = some (.slice none 0 0) := (by rw [cell_of_row w5 _ 0 _ _ _ hb5']; rfl); have HO5 := hid ho5; have HB5 := hid hb5; have HX5 := hid hb5'; clear ho5 hb5 hg5 hat5 hb5'; obtain ⟨A5, c5, hv5⟩ := Kd.R_slice HO5.out; rw [List.nil_append] at hv5 HO5; subst hv5)
  all_goals
    have hr6 := RT.set HX5.out (Kd.R_lower HO5.out (Nat.zero_le _))
    have hbb5 : Below wa.heap.size wa w5 := (bd1 wa).trans HB5.out
    have hfx : Fr (fun i => i = w.heap.size) wa (w5.setCell ⟨w.heap.size, 0, none⟩ (.slice A5 A.length c5)) := Fr.setCell (S := fun i => i = w.heap.size) (p := ⟨w.heap.size, 0, none⟩) ((Fr.of_below hbb5 (Nat.le_refl _)).mono (fun _ q => q.elim)) (.inl rfl) _
    have hb1 : RS Ze (w5.setCell ⟨w.heap.size, 0, none⟩ (.slice A5 A.length c5)) b1 p q (.slice A' A.length c) A := HRT.out.fr hfx (by intro q; omega) (fun j hj q => HRT.out.2.ne HXX.out (by rw [hj, q]))
    have hnb : ∀ j, (Value.slice A5 A.length c5).ownBlock = some j → w.heap.size < j := fun j hj => by
      have h1 : wa.heap.size ≤ j := ((Kd.R_bound HO5.out).1 j hj).2.1
      omega
    have hfw : Fr (fun _ => False) w (w5.setCell ⟨w.heap.size, 0, none⟩ (.slice A5 A.length c5)) := Fr.of_below (HB.out.trans (hfx.below HB.out.size (fun j hj q => by omega))) (Nat.le_refl _)
    generalize w5.setCell ⟨w.heap.size, 0, none⟩ (.slice A5 A.length c5) = w6 at *
    have HR6 := hid hr6
    have HB1 := hid hb1
    have HNB := hid hnb
    have HFW := hid hfw
    have hp := place_any hr6 (by omega) o k
    clear hr6 hb1 hnb hfw hfx hbb5 HX5 HB5 HO5 hz5 hc5 hc1 hc2 HC HB
    have hx6 := HR6.out.cell
    cases hpl : placeN A o k with
    | none =>
      have hpa : placeA A o k = -1 := by unfold placeA; rw [hpl]
      have hg := placeN_none hpl
      rw [hpa] at hp
      have hap : aput (k, o) ((aget (k, o) A).getD false || al) A = A ++ [((k, o), al)] := by unfold aput; rw [hg]; simp
      have hT := HT.out
      rw [hap] at hT
      have HP := hid hp
      have T2 := hid hT
      clear hp hpl hpa hg hap hT
      go_wp2_with fail
      refine HP.out.mono ?_
      rintro e w7 ⟨rfl, rfl⟩
      go_wp2_with (at_builtin; go_loud (refine Kd.R_append klk (w0 := w6) 0 rfl (.tmp 35) (.tmp 40) 28 167 _ 24 rfl Tryz.underlying28 info50 (by rfl) (by decide) (by decide) (.slice A5 A.length c5) A ((k, o), al) (encLk ((k, o), al)) (fun _ => True) (fun _ => False) rfl rfl rfl (fun _ q => q.elim) (fun _ _ => trivial) HR6.out.2 (Below.refl _ _) (Nat.zero_le _) (by omega) ?_); intro v8 w8 ho8 hb8 hg8 hat8; have hx8 : w8.heap[w.heap.size]? = some (.cells #[.slice A5 A.length c5] 30 (0, 0)) := (hg8.block _ HR6.out.lt (fun q => absurd (HNB.out _ q.symm) (by omega))).trans HR6.out.1; have hz8 : w8.frozen? ⟨w.heap.size, 0, none⟩ = false := (by simp [World.frozen?, hx8]); have hc8 : w8.cell? ⟨w.heap.size, 0, none⟩ = some (.slice A5 A.length c5) := (by rw [cell_of_row w8 _ 0 _ _ _ hx8]; rfl); have HO8 := hid ho8; have HX8 := hid hx8; have HG8 := hid hg8; have HAT8 := hid hat8; clear ho8 hb8 hg8 hat8 hx8; obtain ⟨A8, c8, hv8⟩ := Kd.R_slice HO8.out; rw [List.length_append, List.length_singleton] at hv8; subst hv8)
      have hrz := RT.set HX8.out HO8.out
      have hf8 : Fr (fun i => i = w.heap.size ∨ (Value.slice A5 A.length c5).ownBlock = some i) w6 (w8.setCell ⟨w.heap.size, 0, none⟩ (.slice A8 (A.length + 1) c8)) := Fr.setCell (p := ⟨w.heap.size, 0, none⟩) ((Fr.of_grown HG8.out).mono (fun j hj => .inr hj)) (.inl (.inl rfl)) _
      have hbz := HB1.out.fr hf8 (fun q => by
        rcases q with q | q
        · omega
        · have := HNB.out _ q
          omega) (fun j hj q => by
        rcases q with q | q
        · exact HB1.out.2.ne HR6.out.1 (by rw [hj, q])
        · have h1 := HNB.out _ q
          have h2 := HRT.out.2.lt j hj
          omega)
      have hvz : ∀ j, (Value.slice A8 (A.length + 1) c8).ownBlock = some j → w.heap.size ≤ j := fun j hj => by
        rcases HAT8.out with q | ⟨b, q, hb⟩
        · rw [q] at hj; exact Nat.le_of_lt (HNB.out j hj)
        · rw [hj] at q; cases q; exact Nat.le_trans HFW.out.size hb
      have hfz := HFW.out.trans hf8 (fun j hj => .inr (by
        rcases hj with q | q
        · omega
        · exact Nat.le_of_lt (HNB.out j q)))
      have hlz : (A ++ [((k, o), al)]).length ≤ 65 := by simp; omega
      have hA2 : ∃ A2, A2 = A ++ [((k, o), al)] := ⟨_, rfl⟩
      obtain ⟨A2, hA2⟩ := hA2
      have hln : A.length + 1 = A2.length := by rw [hA2]; simp
      rw [← hA2] at T2 hrz hlz
      rw [hln] at hrz hvz hbz hfz ⊢
      generalize w8.setCell ⟨w.heap.size, 0, none⟩ (.slice A8 A2.length c8) = wz at *
      have RZ := hid hrz
      have B1 := hid hbz
      have VZ := hid hvz
      have FZ := hid hfz
      have LZ := hid hlz
      clear hrz hbz hvz hfz hlz hf8 HO8 HX8 HG8 HAT8 hz8 hc8 hA2 HP hln hx6
      have hcl := hid (clash_ref RZ.out (by have := LZ.out; omega))
      have hcz1 := B1.out.cell
      have hczx := RZ.out.cell
      have hfz1 : wz.frozen? ⟨b1, 2, none⟩ = false := by simp [World.frozen?, B1.out.1]
      cases hq : clashA A2
      · rw [hq] at hcl
        have hq1 : ¬ clashA A2 = true := by rw [hq]; decide
        by_cases h64 : 64 < A2.length
        · have hR : takeA A o k al = (5, A) := by rw [T2.out, if_neg hq1, if_pos h64]
          have HRR := hid hR
          clear hq hq1 hR
          go_wp2_with fail
          refine hcl.out.mono ?_
          rintro e w10 ⟨rfl, q, hw10⟩
          subst hw10
          go_wp2_with fail
          go_ret
          unfold TakeRef
          rw [HRR.out]
          exact ⟨rfl, _, B1.out.below (bdn wz q), fun j hj => .inl hj, (FZ.out.mono (fun _ h => h.elim)).drewN q⟩
        · have hR : takeA A o k al = (0, A2) := by rw [T2.out, if_neg hq1, if_neg h64]
          have HRR := hid hR
          clear hq hq1 hR
          go_wp2_with fail
          refine hcl.out.mono ?_
          rintro e w10 ⟨rfl, q, hw10⟩
          subst hw10
          go_wp2_with fail
          go_ret
          unfold TakeRef
          rw [HRR.out]
          exact ⟨rfl, _, RS.set (B1.out.below (bdn wz q)).1 (RZ.out.below (bdn wz q)).2, fun j hj => .inr (VZ.out j hj), Fr.setCell (S := fun i => i = b1) (p := ⟨b1, 2, none⟩) ((FZ.out.mono (fun _ h => h.elim)).drewN q) (.inl rfl) _⟩
      · rw [hq] at hcl
        have hR : takeA A o k al = (120, A) := by rw [T2.out, if_pos hq]
        have HRR := hid hR
        clear hq hR
        go_wp2_with fail
        refine hcl.out.mono ?_
        rintro e w10 ⟨rfl, q, hw10⟩
        subst hw10
        go_wp2_with fail
        go_ret
        unfold TakeRef
        rw [HRR.out]
        exact ⟨rfl, _, B1.out.below (bdn wz q), fun j hj => .inl hj, (FZ.out.mono (fun _ h => h.elim)).drewN q⟩
    | some i =>
      have hpa : placeA A o k = i := by unfold placeA; rw [hpl]
      obtain ⟨x, hx, hxk⟩ := placeN_some hpl
      have hi := (List.getElem?_eq_some_iff.1 hx).1
      have hg := placeN_get HRA.out.keys hpl hx
      rw [hpa] at hp
      have hT := HT.out
      rw [hg] at hT
      cases hal : al
      · rw [hal] at hT
        rw [show ((some x.2 : Option Bool).getD false || false) = x.2 by simp, ← same_aput HRA.out.keys hx hxk] at hT
        have HP := hid hp
        have hA2 : ∃ A2, A2 = A := ⟨_, rfl⟩
        obtain ⟨A2, hA2⟩ := hA2
        have T2 : Hid (takeA A o k false = if clashA A2 = true then (120, A) else if 64 < A2.length then (5, A) else (0, A2)) := hid (by rw [hA2]; exact hT)
        have RZ : Hid (RT w6 w.heap.size (.slice A5 A.length c5) A2) := hid (by rw [hA2]; exact HR6.out)
        have B1 := HB1
        have VZ : Hid (∀ j, (Value.slice A5 A.length c5).ownBlock = some j → w.heap.size ≤ j) := hid (fun j hj => Nat.le_of_lt (HNB.out j hj))
        have FZ := HFW
        have LZ : Hid (A2.length ≤ 65) := hid (by rw [hA2]; omega)
        have hln : A.length = A2.length := by rw [hA2]
        clear hp hpl hpa hg hT hA2 hx
        subst hal
        go_wp2_with fail
        refine HP.out.mono ?_
        rintro e w7 ⟨rfl, rfl⟩
        rw [hln] at RZ VZ hx6 ⊢
        generalize w6 = wz at *
        have hcl := hid (clash_ref RZ.out (by have := LZ.out; omega))
        have hcz1 := B1.out.cell
        have hczx := RZ.out.cell
        have hfz1 : wz.frozen? ⟨b1, 2, none⟩ = false := by simp [World.frozen?, B1.out.1]
        cases hq : clashA A2
        · rw [hq] at hcl
          have hq1 : ¬ clashA A2 = true := by rw [hq]; decide
          by_cases h64 : 64 < A2.length
          · have hR : takeA A o k false = (5, A) := by rw [T2.out, if_neg hq1, if_pos h64]
            exfalso; omega
          · have hR : takeA A o k false = (0, A2) := by rw [T2.out, if_neg hq1, if_neg h64]
            have HRR := hid hR
            clear hq hq1 hR
            go_wp2_with fail
            refine hcl.out.mono ?_
            rintro e w10 ⟨rfl, q, hw10⟩
            subst hw10
            go_wp2_with fail
            go_ret
            unfold TakeRef
            rw [HRR.out]
            exact ⟨rfl, _, RS.set (B1.out.below (bdn wz q)).1 (RZ.out.below (bdn wz q)).2, fun j hj => .inr (VZ.out j hj), Fr.setCell (S := fun i => i = b1) (p := ⟨b1, 2, none⟩) ((FZ.out.mono (fun _ h => h.elim)).drewN q) (.inl rfl) _⟩
        · rw [hq] at hcl
          have hR : takeA A o k false = (120, A) := by rw [T2.out, if_pos hq]
          have HRR := hid hR
          clear hq hR
          go_wp2_with fail
          refine hcl.out.mono ?_
          rintro e w10 ⟨rfl, q, hw10⟩
          subst hw10
          go_wp2_with fail
          go_ret
          unfold TakeRef
          rw [HRR.out]
          exact ⟨rfl, _, B1.out.below (bdn wz q), fun j hj => .inl hj, (FZ.out.mono (fun _ h => h.elim)).drewN q⟩
      · rw [hal] at hT
        rw [show ((some x.2 : Option Bool).getD false || true) = true by simp, ← set_aput HRA.out.keys hx hxk] at hT
        obtain ⟨g, cp, hv, _, hgl, cells, hgc⟩ := Kd.R_form HR6.out.2 (by omega)
        injection hv with hv1 hv2 hv3
        subst hv1
        subst hv3
        have hat := HR6.out.2.at_
        obtain ⟨A9, c9, hv9, _, hat⟩ := hat
        injection hv9 with h91 h92 h93
        obtain ⟨b9, off9, he9, _, hcx⟩ := hat i x hx
        rw [← h91] at he9
        cases he9
        have hcx2 : ∀ j u, (encLk x)[j]? = some u → w6.cell? ⟨g, (i : Int).toNat * klk.sz + j, none⟩ = some u := fun j u hu => by
          have := hcx j u hu
          rw [Nat.zero_add] at this
          exact this
        have hgn := HNB.out g rfl
        have hic : (i : Int) < A.length := by omega
        have hi0 : (0 : Int) ≤ i := by omega
        have HX := hid hx
        have HXK := hid hxk
        have HCX := hid hcx2
        have HP := hid hp
        have HT2 := hid hT
        clear hp hpl hpa hg hT hcx hcx2 hat hx hxk h91 h92 h93 hgc
        subst hal
        go_wp2_with fail
        refine HP.out.mono ?_
        rintro e w7 ⟨rfl, rfl⟩
        go_wp2_with ((with_reducible refine gate_ (.store 4 (.tmp 51) (.const (.bool true))) rfl ?_); refine Kd.R_store klk (w0 := w6) 0 rfl rfl 4 (.tmp 51) (.const (.bool true)) rfl 167 (i : Int) 2 A ((k, o), true) (.bool true) [.bool true] (encLk x) (fun _ => True) (fun _ => False) rfl (by simp [klk]) rfl rfl (by kernel_rfl) (by intro u hu; simp at hu; subst hu; rfl) HR6.out.2 hi0 hic rfl HCX.out (by simp [klk]) (by show [Value.int .i64 x.1.1, .int .i64 x.1.2, .bool true] = encLk ((k, o), true); rw [HXK.out]; rfl) (fun _ q => q.elim) (Below.refl _ _) ?_; intro w8 hrow8 hb8 hg8; have hx8 : w8.heap[w.heap.size]? = some (.cells #[.slice (some ⟨g, 0, none⟩) A.length c5] 30 (0, 0)) := (hg8.block _ HR6.out.lt (fun q => by cases q; omega)).trans HR6.out.1; have HO8 := hid hrow8; have HX8 := hid hx8; have HG8 := hid hg8; have hc8 : w8.cell? ⟨w.heap.size, 0, none⟩ = some (.slice (some ⟨g, 0, none⟩) A.length c5) := (by rw [cell_of_row w8 _ 0 _ _ _ hx8]; rfl); clear hrow8 hb8 hg8 hx8)
        have hA2 : ∃ A2, A2 = A.set i ((k, o), true) := ⟨_, rfl⟩
        obtain ⟨A2, hA2⟩ := hA2
        have hln : A.length = A2.length := by rw [hA2]; simp
        have T2 : Hid (takeA A o k true = if clashA A2 = true then (120, A) else if 64 < A2.length then (5, A) else (0, A2)) := hid (by rw [hA2]; exact HT2.out)
        have hrow9 : LkRow w8 (.slice (some ⟨g, 0, none⟩) A.length c5) A2 := by rw [hA2]; exact HO8.out
        have RZ : Hid (RT w8 w.heap.size (.slice (some ⟨g, 0, none⟩) A.length c5) A2) := hid ⟨HX8.out, hrow9⟩
        have hf8 : Fr (fun j => some g = some j) w6 w8 := Fr.of_grown HG8.out
        have B1 := hid (HB1.out.fr hf8 (by intro q; cases q; omega) (fun j hj q => by
          cases q
          have h2 := HRT.out.2.lt g hj
          omega))
        have VZ : Hid (∀ j, (Value.slice (some ⟨g, 0, none⟩) A.length c5).ownBlock = some j → w.heap.size ≤ j) := hid (fun j hj => Nat.le_of_lt (HNB.out j hj))
        have FZ := hid (HFW.out.trans hf8 (fun j hj => .inr (by cases hj; omega)))
        have LZ : Hid (A2.length ≤ 65) := hid (by rw [← hln]; omega)
        clear hA2 HT2 hrow9 hf8 HO8 HX8 HG8 HX HXK HCX HP hx6
        rw [hln] at RZ VZ hc8 ⊢
        generalize w8 = wz at *
        have hcl := hid (clash_ref RZ.out (by have := LZ.out; omega))
        have hcz1 := B1.out.cell
        have hczx := RZ.out.cell
        have hfz1 : wz.frozen? ⟨b1, 2, none⟩ = false := by simp [World.frozen?, B1.out.1]
        cases hq : clashA A2
        · rw [hq] at hcl
          have hq1 : ¬ clashA A2 = true := by rw [hq]; decide
          by_cases h64 : 64 < A2.length
          · have hR : takeA A o k true = (5, A) := by rw [T2.out, if_neg hq1, if_pos h64]
            exfalso; omega
          · have hR : takeA A o k true = (0, A2) := by rw [T2.out, if_neg hq1, if_neg h64]
            have HRR := hid hR
            clear hq hq1 hR
            go_wp2_with fail
            refine hcl.out.mono ?_
            rintro e w10 ⟨rfl, q, hw10⟩
            subst hw10
            go_wp2_with fail
            go_ret
            unfold TakeRef
            rw [HRR.out]
            exact ⟨rfl, _, RS.set (B1.out.below (bdn wz q)).1 (RZ.out.below (bdn wz q)).2, fun j hj => .inr (VZ.out j hj), Fr.setCell (S := fun i => i = b1) (p := ⟨b1, 2, none⟩) ((FZ.out.mono (fun _ h => h.elim)).drewN q) (.inl rfl) _⟩
        · rw [hq] at hcl
          have hR : takeA A o k true = (120, A) := by rw [T2.out, if_pos hq]
          have HRR := hid hR
          clear hq hR
          go_wp2_with fail
          refine hcl.out.mono ?_
          rintro e w10 ⟨rfl, q, hw10⟩
          subst hw10
          go_wp2_with fail
          go_ret
          unfold TakeRef
          rw [HRR.out]
          exact ⟨rfl, _, B1.out.below (bdn wz q), fun j hj => .inl hj, (FZ.out.mono (fun _ h => h.elim)).drewN q⟩
end Go.Proofs.YtdejbinmnoabeaaGreat.D
namespace Go.Mine
set_option linter.unusedVariables false
set_option linter.unusedSimpArgs false
structure DSt where
  L : List (Int × Int)
  ws : List (Int × KW)
  lk : LTab
def DSt.find (s : DSt) (n : Int) : Option KW := aget n s.ws
def DSt.value (s : DSt) (k : Int) : Int × Bool := match s.L.find? (fun e => e.1 == k) with | some e => (e.2, true) | none => (0, false)
end Go.Mine
namespace Go.Proofs.YtdejbinmnoabeaaGreat.D
open Go.Proofs.YtdejbinmnoabeaaGreat.K
variable {Ze : Z3}
open Go.RowKit Go.Mine Go.Proofs.YtdejbinmnoabeaaGreatW.PrintWords
set_option linter.unusedVariables false
set_option linter.unusedSimpArgs false
def encPr (x : Int × Int) : List Value := [.int .i64 x.1, .int .u64 x.2]
def kpr : Kd (Int × Int) where
  sz := 2
  E := []
  K := fun _ x cs => cs = encPr x
  M := fun _ _ _ x cs => cs = encPr x
  K_len := fun h => by rw [h]; rfl
  K_one := fun h u hu => by rw [h] at hu; simp [encPr] at hu; rcases hu with rfl | rfl <;> rfl
  K_below := fun _ h => h
  K_of_M := fun h => h
  M_mono := fun _ h => h
  M_bound := fun h => h
  M_move := fun _ h => h
  M_lower := fun _ h => h
def kwp : Kd Nat where
  sz := 1
  E := []
  K := fun _ x cs => cs = [ptrV x]
  M := fun _ _ _ x cs => cs = [ptrV x]
  K_len := fun h => by rw [h]; rfl
  K_one := fun h u hu => by rw [h] at hu; simp at hu; subst hu; rfl
  K_below := fun _ h => h
  K_of_M := fun h => h
  M_mono := fun _ h => h
  M_bound := fun h => h
  M_move := fun _ h => h
  M_lower := fun _ h => h
abbrev PrRow (w : World) (v : Value) (l : List (Int × Int)) : Prop := kpr.R 106 w 0 (fun _ => True) v l
abbrev WpRow (w : World) (v : Value) (l : List Nat) : Prop := kwp.R 100 w 0 (fun _ => True) v l
theorem PrRow.move {w w1 : World} {v : Value} {l : List (Int × Int)} (h : PrRow w v l) (hm : ∀ k, v.ownBlock = some k → w1.heap[k]? = w.heap[k]?) : PrRow w1 v l := by
  obtain ⟨h0, inner, ho, hr⟩ := h
  exact ⟨h0, inner, own_move ho hm, hr⟩
theorem WpRow.move {w w1 : World} {v : Value} {l : List Nat} (h : WpRow w v l) (hm : ∀ k, v.ownBlock = some k → w1.heap[k]? = w.heap[k]?) : WpRow w1 v l := by
  obtain ⟨h0, inner, ho, hr⟩ := h
  exact ⟨h0, inner, own_move ho hm, hr⟩
theorem row_lt {α : Type} {d : Kd α} {e : Nat} {w : World} {v : Value} {l : List α} (h : d.R e w 0 (fun _ => True) v l) (k : Nat) (hk : v.ownBlock = some k) : k < w.heap.size := by
  obtain ⟨h0, inner, ho, hr⟩ := h
  obtain ⟨cells, hc⟩ := own_typed ho k hk
  exact (Array.getElem?_eq_some_iff.1 hc).1
def RowAt {α : Type} (enc : α → List Value) (sz : Nat) (w : World) (A : Option Addr) (l : List α) : Prop :=
  ∀ i x, l[i]? = some x → ∃ b off, A = some ⟨b, off, none⟩ ∧ b < w.heap.size ∧ ∀ j v, (enc x)[j]? = some v → w.cell? ⟨b, off + i * sz + j, none⟩ = some v
theorem pr_at {w : World} {v : Value} {l : List (Int × Int)} (h : PrRow w v l) : ∃ A c, v = .slice A l.length c ∧ l.length ≤ c ∧ RowAt encPr 2 w A l := by
  obtain ⟨h0, inner, ho, hr⟩ := h
  rcases ho.2 with ⟨hv, h0⟩ | ⟨g, cap, cur, hv, hg, hh, h1, h2, h3, h4⟩
  · have hl : l = [] := List.eq_nil_of_length_eq_zero h0
    subst hl
    exact ⟨none, 0, hv, Nat.le_refl _, fun i x hx => by simp at hx⟩
  · refine ⟨_, cap, hv, h1, fun i x hx => ⟨g, 0, rfl, (Array.getElem?_eq_some_iff.1 hh).1, fun j u hu => ?_⟩⟩
    have h5 : (inner.drop (i * 2)).take 2 = encPr x := hr.2 i x hx
    have hj : j < 2 := by have := (List.getElem?_eq_some_iff.1 hu).1; simpa [encPr] using this
    have h6 : inner[i * 2 + j]? = some u := by
      rw [← h5, List.getElem?_take_of_lt hj, List.getElem?_drop] at hu
      exact hu
    have := ho.cells (g := g) (by rw [hv]; simp [Value.ownBlock]) _ u h6
    rw [add_plain] at this
    rw [Nat.zero_add]
    exact this
theorem wp_at {w : World} {v : Value} {l : List Nat} (h : WpRow w v l) : ∃ A c, v = .slice A l.length c ∧ l.length ≤ c ∧ RowAt (fun x => [ptrV x]) 1 w A l := by
  obtain ⟨h0, inner, ho, hr⟩ := h
  rcases ho.2 with ⟨hv, h0⟩ | ⟨g, cap, cur, hv, hg, hh, h1, h2, h3, h4⟩
  · have hl : l = [] := List.eq_nil_of_length_eq_zero h0
    subst hl
    exact ⟨none, 0, hv, Nat.le_refl _, fun i x hx => by simp at hx⟩
  · refine ⟨_, cap, hv, h1, fun i x hx => ⟨g, 0, rfl, (Array.getElem?_eq_some_iff.1 hh).1, fun j u hu => ?_⟩⟩
    have h5 : (inner.drop (i * 1)).take 1 = [ptrV x] := hr.2 i x hx
    have hj : j < 1 := by have := (List.getElem?_eq_some_iff.1 hu).1; simpa using this
    have h6 : inner[i * 1 + j]? = some u := by
      simp only at hu
      rw [← h5, List.getElem?_take_of_lt hj, List.getElem?_drop] at hu
      exact hu
    have := ho.cells (g := g) (by rw [hv]; simp [Value.ownBlock]) _ u h6
    rw [add_plain] at this
    rw [Nat.zero_add]
    exact this
structure DsR (Ze : Z3) (F : Nat → Prop) (w : World) (b1 : Nat) (L : List (Int × Int)) (I : List WI) (lk : LTab) (pv qv tv : Value) : Prop where
  fb : ∀ i, F i → i < w.heap.size
  b : F b1
  blk : w.heap[b1]? = some (.cells #[pv, qv, tv, Ze.a, Ze.b, Ze.c] 38 (0, 0))
  pr : PrRow w pv L
  wp : WpRow w qv (I.map (·.wb))
  lr : LkRow w tv lk
  pF : ∀ k, pv.ownBlock = some k → F k
  qF : ∀ k, qv.ownBlock = some k → F k
  tF : ∀ k, tv.ownBlock = some k → F k
  wk : ∀ x ∈ I, F x.wb ∧ w.heap[x.wb]? = some (.cells #[.int .i64 x.n, x.v, .bool x.p] 123 (0, 0)) ∧ ChRow w x.v x.l ∧ (∀ k, x.v.ownBlock = some k → F k)
  apart : I.Pairwise (fun x y => x.wb ≠ y.wb ∧ ∀ k, x.v.ownBlock = some k → y.v.ownBlock ≠ some k)
section
variable {F F' : Nat → Prop} {w w' : World} {b1 : Nat} {L : List (Int × Int)} {I : List WI} {lk : LTab} {pv qv tv : Value}
theorem DsR.fr {S : Nat → Prop} (h : DsR Ze F w b1 L I lk pv qv tv) (hf : Fr S w w') (hS : ∀ i, F i → ¬ S i) : DsR Ze F w' b1 L I lk pv qv tv where
  fb i hi := Nat.lt_of_lt_of_le (h.fb i hi) hf.size
  b := h.b
  blk := hf.at_ h.blk (hS _ h.b)
  pr := h.pr.move (fun k hk => hf.block k (row_lt h.pr k hk) (hS _ (h.pF k hk)))
  wp := h.wp.move (fun k hk => hf.block k (row_lt h.wp k hk) (hS _ (h.qF k hk)))
  lr := h.lr.move (fun k hk => hf.block k (row_lt h.lr k hk) (hS _ (h.tF k hk)))
  pF := h.pF
  qF := h.qF
  tF := h.tF
  wk x hx := ⟨(h.wk x hx).1, hf.at_ (h.wk x hx).2.1 (hS _ (h.wk x hx).1), (h.wk x hx).2.2.1.move (fun k hk => hf.block k ((h.wk x hx).2.2.1.lt k hk) (hS _ ((h.wk x hx).2.2.2 k hk))), (h.wk x hx).2.2.2⟩
  apart := h.apart
theorem DsR.below (h : DsR Ze F w b1 L I lk pv qv tv) (hb : Below w.heap.size w w') : DsR Ze F w' b1 L I lk pv qv tv := h.fr (Fr.of_below hb (Nat.le_refl _)) (fun _ _ q => q)
end
def findB (I : List WI) (n : Int) : Option Nat := (I.find? (fun x => decide (x.n = n))).map (·.wb)
set_option maxRecDepth 100000 in
set_option maxHeartbeats 2000000 in
theorem dfind_any {F : Nat → Prop} {w : World} {b1 : Nat} {L : List (Int × Int)} {I : List WI} {lk : LTab} {pv qv tv : Value} (h : DsR Ze F w b1 L I lk pv qv tv) (hn : I.length ≤ 1000000) (n : Int) :
    Calls Tryz.prog 39 #[.pointer (some ⟨b1, 0, none⟩), .int .i64 n] w fun e w' => e = .returned (.pointer ((findB I n).map (fun b => ⟨b, 0, none⟩))) ∧ w = w' := by
  have hc : w.cell? ⟨b1, 1, none⟩ = some qv := by rw [cell_of_row w b1 1 _ _ _ h.blk]; rfl
  obtain ⟨A, c, rfl, hAc, hat⟩ := wp_at h.wp
  have HAT := hid hat
  have H := hid h
  clear hat h
  rw [List.length_map] at hc hAc
  go_enter Tryz.func39, Tryz.ntmps39
  go_wp2_with fail
  go_loopg [5] (I.length + 1) (fun m v wr => ∃ i : Nat, v = .int .i64 i ∧ i ≤ I.length ∧ m = I.length + 1 - i ∧ wr = w ∧ ∀ j x, j < i → I[j]? = some x → (x.n == n) = false)
  case atStart => exact ⟨0, rfl, Nat.zero_le _, rfl, rfl, fun j x hj => by omega⟩
  case round =>
    obtain ⟨i, rfl, hi, hm, hw, hno⟩ := hrel
    subst hw
    have HN := hid hm
    have HNO := hid hno
    clear hm hno
    by_cases h1 : i < I.length
    · obtain ⟨x, hx⟩ : ∃ x, I[i]? = some x := ⟨_, List.getElem?_eq_getElem h1⟩
      obtain ⟨b, off, rfl, hb, hcc⟩ := HAT.out i x.wb (by rw [List.getElem?_map, hx]; rfl)
      have k0 : wr.cell? ⟨b, off + i, none⟩ = some (ptrV x.wb) := by have := hcc 0 _ rfl; simpa using this
      have hwk := H.out.wk x (List.mem_of_getElem? hx)
      have k1 : wr.cell? ⟨x.wb, 0, none⟩ = some (.int .i64 x.n) := by rw [cell_of_row _ _ 0 _ _ _ hwk.2.1]; rfl
      have HX := hid hx
      clear hcc hx hwk
      cases q1 : (x.n == n)
      · go_wp2_with fail
        go_roundg (I.length + 1 - (i + 1))
        case measure => rw [HN.out]; omega
        case rel =>
          refine ⟨i + 1, by go_num, by omega, rfl, rfl, fun j y hj hy => ?_⟩
          rcases Nat.lt_succ_iff_lt_or_eq.1 hj with hj | rfl
          · exact HNO.out j y hj hy
          · rw [HX.out] at hy; cases hy; exact q1
      · have hp : findB I n = some x.wb := by
          have : I.find? (fun x => decide (x.n = n)) = some x := by
            obtain ⟨hi2, he⟩ := List.getElem?_eq_some_iff.1 HX.out
            rw [List.find?_eq_some_iff_getElem]
            refine ⟨by simpa using q1, i, hi2, he, fun j hj => ?_⟩
            have := HNO.out j _ hj (List.getElem?_eq_getElem (by omega))
            simpa using this
          unfold findB
          rw [this]
          rfl
        have HP := hid hp
        clear hp
        go_wp2_with fail
        go_ret
        exact ⟨by rw [HP.out]; rfl, rfl⟩
    · have hp : findB I n = none := by
        have : I.find? (fun x => decide (x.n = n)) = none := by
          rw [List.find?_eq_none]
          intro x hx
          obtain ⟨j, hj, rfl⟩ := List.mem_iff_getElem.1 hx
          have := HNO.out j _ (by omega) (List.getElem?_eq_getElem hj)
          simpa using this
        unfold findB
        rw [this]
        rfl
      have HP := hid hp
      clear hp
      go_wp2_with fail
      go_ret
      exact ⟨by rw [HP.out]; rfl, rfl⟩
end Go.Proofs.YtdejbinmnoabeaaGreat.D
namespace Go.Proofs.YtdejbinmnoabeaaGreat.D
open Go.Proofs.YtdejbinmnoabeaaGreat.K
variable {Ze : Z3}
open Go.RowKit Go.Mine Go.Proofs.YtdejbinmnoabeaaGreatW.PrintWords
set_option linter.unusedVariables false
set_option linter.unusedSimpArgs false
theorem info100 : (Tryz.prog.info? 100).map (fun i => (i.zero, i.size, i.bytes)) = some (some (.pointer none), 1, 8) := by kernel_rfl
section
variable {F F' : Nat → Prop} {w w' : World} {b1 : Nat} {L L' : List (Int × Int)} {I I' : List WI} {lk lk' : LTab} {pv qv tv pv' qv' tv' : Value}
theorem PrRow.ne (h : PrRow w pv L) {cs : Array Value} {t : Nat} (hb : w.heap[b1]? = some (.cells cs t (0, 0))) (ht : 106 ≠ t) : pv.ownBlock ≠ some b1 := by
  intro hk
  obtain ⟨h0, inner, ho, hr⟩ := h
  obtain ⟨cells, hc⟩ := own_typed ho b1 hk
  rw [hb] at hc
  simp at hc
  exact ht hc.2.symm
theorem WpRow.ne {l : List Nat} (h : WpRow w qv l) {cs : Array Value} {t : Nat} (hb : w.heap[b1]? = some (.cells cs t (0, 0))) (ht : 100 ≠ t) : qv.ownBlock ≠ some b1 := by
  intro hk
  obtain ⟨h0, inner, ho, hr⟩ := h
  obtain ⟨cells, hc⟩ := own_typed ho b1 hk
  rw [hb] at hc
  simp at hc
  exact ht hc.2.symm
theorem _root_.Go.Proofs.YtdejbinmnoabeaaGreat.K.ChRow.ne {v : Value} {l : List Ch} (h : ChRow w v l) {cs : Array Value} {t : Nat} (hb : w.heap[b1]? = some (.cells cs t (0, 0))) (ht : 90 ≠ t) : v.ownBlock ≠ some b1 := by
  intro hk
  obtain ⟨cells, hc⟩ := h.typed b1 hk
  rw [hb] at hc
  simp at hc
  exact ht hc.2.symm
theorem DsR.wb_ne (h : DsR Ze F w b1 L I lk pv qv tv) {x : WI} (hx : x ∈ I) : x.wb ≠ b1 := by
  intro e
  have h1 := (h.wk x hx).2.1
  rw [e, h.blk] at h1
  simp at h1
theorem DsR.turn (h : DsR Ze F w b1 L I lk pv qv tv) (hf : Fr (fun i => i = b1) w w') (hb : w'.heap[b1]? = some (.cells #[pv', qv', tv', Ze.a, Ze.b, Ze.c] 38 (0, 0)))
    (hp : PrRow w' pv' L') (hq : WpRow w' qv' (I'.map (·.wb))) (ht : LkRow w' tv' lk') (hI : I'.Sublist I)
    (op : ∀ j, pv'.ownBlock = some j → pv.ownBlock = some j ∨ w.heap.size ≤ j) (oq : ∀ j, qv'.ownBlock = some j → qv.ownBlock = some j ∨ w.heap.size ≤ j) (ot : ∀ j, tv'.ownBlock = some j → tv.ownBlock = some j ∨ w.heap.size ≤ j) :
    DsR Ze (more F w w') w' b1 L' I' lk' pv' qv' tv' where
  fb := more_lt h.fb hf.size
  b := .inl h.b
  blk := hb
  pr := hp
  wp := hq
  lr := ht
  pF k hk := (op k hk).elim (fun q => .inl (h.pF k q)) (fun q => .inr ⟨q, row_lt hp k hk⟩)
  qF k hk := (oq k hk).elim (fun q => .inl (h.qF k q)) (fun q => .inr ⟨q, row_lt hq k hk⟩)
  tF k hk := (ot k hk).elim (fun q => .inl (h.tF k q)) (fun q => .inr ⟨q, row_lt ht k hk⟩)
  wk x hx := by
    have hxI := hI.subset hx
    have h1 := h.wk x hxI
    have h2 : x.wb ≠ b1 := h.wb_ne hxI
    exact ⟨.inl h1.1, hf.at_ h1.2.1 (fun q => h2 q), h1.2.2.1.move (fun k hk => hf.block k (h1.2.2.1.lt k hk) (fun q => h1.2.2.1.ne h.blk (by decide) (by rw [hk, q]))), fun k hk => .inl (h1.2.2.2 k hk)⟩
  apart := h.apart.sublist hI
end
set_option maxRecDepth 100000 in
set_option maxHeartbeats 4000000 in
theorem ddrop_any {F : Nat → Prop} {w : World} {b1 : Nat} {L : List (Int × Int)} {I : List WI} {lk : LTab} {pv qv tv : Value} (h : DsR Ze F w b1 L I lk pv qv tv) (hn : I.length ≤ 1000) (hl : lk.length ≤ 1000) (n : Int) :
    Calls Tryz.prog 101 #[.pointer (some ⟨b1, 0, none⟩), .int .i64 n] w fun e w' => e = .returned (.tuple #[]) ∧ ∃ qv' tv', DsR Ze (more F w w') w' b1 L (I.filter (fun x => x.n != n)) (dropA n lk) pv qv' tv' ∧ Fr (fun i => i = b1) w w' := by
  have H := hid h
  have hd := ref_drop (⟨h.blk, h.lr⟩ : RS Ze w b1 pv qv tv lk) hl n
  clear h
  go_enter Tryz.func101, Tryz.ntmps101
  go_wp2_with fail
  refine hd.mono ?_
  rintro e w1 ⟨rfl, tv1, hr1, ho1, hf1⟩
  have hqr : WpRow w1 qv (I.map (·.wb)) := H.out.wp.move (fun k hk => hf1.block k (row_lt H.out.wp k hk) (fun q => H.out.wp.ne H.out.blk (by decide) (by rw [hk, q])))
  have hpr : PrRow w1 pv L := H.out.pr.move (fun k hk => hf1.block k (row_lt H.out.pr k hk) (fun q => H.out.pr.ne H.out.blk (by decide) (by rw [hk, q])))
  have hwk : ∀ x ∈ I, w1.heap[x.wb]? = some (.cells #[.int .i64 x.n, x.v, .bool x.p] 123 (0, 0)) := fun x hx => hf1.at_ (H.out.wk x hx).2.1 (fun q => H.out.wb_ne hx q)
  have hc : w1.cell? ⟨b1, 1, none⟩ = some qv := by rw [cell_of_row w1 b1 1 _ _ _ hr1.1]; rfl
  have HQ := hid hqr
  have HP := hid hpr
  have HW := hid hwk
  have HR1 := hid hr1
  have HO1 := hid ho1
  have HF1 := hid hf1
  have hlt := hr1.lt
  obtain ⟨A, c, rfl, hAc, hat⟩ := wp_at hqr
  have HAT := hid hat
  rw [List.length_map] at hc hAc
  clear hat hqr hpr hwk hr1 ho1 hf1 hd
  go_wp2_with fail
  go_loopg [4, 5] (I.length + 1) (fun m v4 v5 wr => ∃ i : Nat, v5 = .int .i64 i ∧ i ≤ I.length ∧ m = I.length + 1 - i ∧ kwp.R 100 wr w1.heap.size (fun _ => True) v4 (((I.take i).filter (fun x => x.n != n)).map (·.wb)) ∧ Below w1.heap.size w1 wr)
  case atStart => exact ⟨0, rfl, Nat.zero_le _, rfl, Kd.R_nil _ _ _ _ _, Below.refl _ _⟩
  case round =>
    obtain ⟨i, rfl, hi, hm, hR, hb⟩ := hrel
    have HN := hid hm
    have HR := hid hR
    have HB := hid hb
    have hcr : wr.cell? ⟨b1, 1, none⟩ = some (.slice A I.length c) := (hb.cell (World.block_lt_of_cell? _ _ hc)).trans hc
    clear hm hR
    by_cases h1 : i < I.length
    · obtain ⟨x, hx⟩ : ∃ x, I[i]? = some x := ⟨_, List.getElem?_eq_getElem h1⟩
      obtain ⟨b, off, rfl, hbb, hcc⟩ := HAT.out i x.wb (by rw [List.getElem?_map, hx]; rfl)
      have k0 : wr.cell? ⟨b, off + i, none⟩ = some (ptrV x.wb) := (hb.cell hbb).trans (by have := hcc 0 _ rfl; simpa using this)
      have hw1 := HW.out x (List.mem_of_getElem? hx)
      have hw2 : w1.cell? ⟨x.wb, 0, none⟩ = some (.int .i64 x.n) := by rw [cell_of_row _ _ 0 _ _ _ hw1]; rfl
      have k1 : wr.cell? ⟨x.wb, 0, none⟩ = some (.int .i64 x.n) := (hb.cell (World.block_lt_of_cell? _ _ hw2)).trans hw2
      have htk : I.take (i + 1) = I.take i ++ [x] := by
        rw [List.take_succ_eq_append_getElem h1]
        have : I[i] = x := by rw [List.getElem?_eq_getElem h1] at hx; exact Option.some.inj hx
        rw [this]
      have HTK := hid htk
      have hdl : (((I.take i).filter (fun x => x.n != n)).map (·.wb)).length ≤ 1000 := by
        rw [List.length_map]
        have := List.length_filter_le (fun x : WI => x.n != n) (I.take i)
        rw [List.length_take] at this
        omega
      have HDL := hid hdl
      clear hcc hx hb htk hdl hw1 hw2
      cases qe : (x.n != n)
      · have hd : (I.take (i + 1)).filter (fun x => x.n != n) = (I.take i).filter (fun x => x.n != n) := by
          rw [HTK.out, List.filter_append]
          simp [qe]
        have HD := hid hd
        clear hd
        go_wp2_with fail
        go_roundg (I.length + 1 - (i + 1))
        case measure => rw [HN.out]; omega
        case rel => exact ⟨i + 1, by go_num, by omega, rfl, by rw [HD.out]; exact HR.out, HB.out⟩
      · have hd : (I.take (i + 1)).filter (fun x => x.n != n) = (I.take i).filter (fun x => x.n != n) ++ [x] := by
          rw [HTK.out, List.filter_append]
          simp [qe]
        have HD := hid hd
        clear hd
        go_wp2_with (at_builtin; go_loud (refine Kd.R_append kwp (w0 := w1) w1.heap.size rfl (.tmp 32) (.tmp 40) 27 100 _ 8 rfl Tryz.underlying27 info100 (by rfl) (by decide) (by decide) u4 (((I.take i).filter (fun x => x.n != n)).map (·.wb)) x.wb [ptrV x.wb] (fun _ => True) (fun _ => False) rfl rfl rfl (fun _ q => q.elim) (fun _ _ => trivial) HR.out HB.out HB.out.size (by have := HDL.out; omega) ?_); intro v7 w7 ho7 hb7 hg7 hat7)
        go_roundg (I.length + 1 - (i + 1))
        case measure => rw [HN.out]; omega
        case rel => exact ⟨i + 1, by go_num, by omega, rfl, by rw [HD.out, List.map_append]; exact ho7, hb7⟩
    · have hi2 : i = I.length := by omega
      subst hi2
      have hr2 := HR.out
      rw [List.take_length] at hr2
      obtain ⟨A5, c5, hv5⟩ := Kd.R_slice hr2
      have hnb : ∀ k, u4.ownBlock = some k → w1.heap.size ≤ k := fun k hk => (Kd.R_bound hr2).1 k hk |>.2.1
      subst hv5
      have HR2 := hid hr2
      have HNB := hid hnb
      have hb1 : wr.heap[b1]? = some (.cells #[pv, .slice A I.length c, tv1, Ze.a, Ze.b, Ze.c] 38 (0, 0)) := by
        have := (hb.block _ hlt).trans HR1.out.1
        rwa [List.length_map] at this
      have hz : wr.frozen? ⟨b1, 1, none⟩ = false := by simp [World.frozen?, hb1]
      have HB1 := hid hb1
      clear hr2 hnb hb1
      go_wp2_with fail
      have hbw : Fr (fun i => i = b1) w1 (wr.setCell ⟨b1, 1, none⟩ (.slice A5 (((I.filter (fun x => x.n != n)).map (·.wb))).length c5)) := Fr.setCell (S := fun i => i = b1) (p := ⟨b1, 1, none⟩) ((Fr.of_below HB.out (Nat.le_refl _)).mono (fun _ q => q.elim)) (.inl rfl) _
      have hb2 := blk_set' HB1.out 1 (.slice A5 (((I.filter (fun x => x.n != n)).map (·.wb))).length c5)
      have hq2 : WpRow (wr.setCell ⟨b1, 1, none⟩ (.slice A5 (((I.filter (fun x => x.n != n)).map (·.wb))).length c5)) (.slice A5 (((I.filter (fun x => x.n != n)).map (·.wb))).length c5) ((I.filter (fun x => x.n != n)).map (·.wb)) := by
        have h0 : WpRow wr (.slice A5 (((I.filter (fun x => x.n != n)).map (·.wb))).length c5) ((I.filter (fun x => x.n != n)).map (·.wb)) := Kd.R_lower HR2.out (Nat.zero_le _)
        exact h0.move (fun k hk => Below.heap_setCell _ _ _ _ (fun q => h0.ne HB1.out (by decide) (by rw [hk]; exact congrArg some q)))
      have hp2 := HP.out.move (fun k hk => hbw.block k (row_lt HP.out k hk) (fun q => HP.out.ne HR1.out.1 (by decide) (by rw [hk, q])))
      have ht2 := HR1.out.2.move (fun k hk => hbw.block k (HR1.out.2.lt k hk) (fun q => HR1.out.2.ne38 HR1.out.1 (by rw [hk, q])))
      have hfr := HF1.out.trans hbw (fun i hi => .inl hi)
      have hfin := H.out.turn hfr hb2 hp2 hq2 ht2 List.filter_sublist (fun j hj => .inl hj) (fun j hj => .inr (Nat.le_trans HF1.out.size (HNB.out j hj))) (fun j hj => .inr (HO1.out j hj))
      simp only [List.length_map] at hfr hfin ⊢
      go_end0
      exact ⟨rfl, _, _, hfin, hfr⟩
end Go.Proofs.YtdejbinmnoabeaaGreat.D
