/- Walks of trothlaw13.call at a store that is nil, and of trothlaw13.KvNobody: it answers true. Condition: the call's list reads. -/
import Derived.Test.YtekebjcknhjceaaKvL7
import Derived.Test.YtekebjcknhjceaaRowsB
namespace Go.Proofs.Ytekebjcknhjceaa
open Go.RowKit Go.Mine Go.Proofs.YtekebjcknhjceaaW.PrintWords
set_option linter.unusedVariables false
set_option linter.unusedSimpArgs false
theorem busy_nil (n : Int) (w : World) : Calls Try.prog 22 #[.pointer none, .int .i64 n] w fun e w' => e = .returned (.bool false) ∧ w = w' := by
  go_enter Try.func22, Try.ntmps22
  go_wp2_with fail
  go_ret
  exact ⟨rfl, rfl⟩
set_option maxRecDepth 100000 in
set_option maxHeartbeats 4000000 in
theorem call_nil (o : KOp) (w : World) (h0 : 0 ≤ o.kind) (h6 : o.kind ≤ 6) (hl : ChAt w w.heap.size o.la o.l) (hn : o.l.length ≤ 100000) (hc : o.l.length ≤ o.lc) :
    Calls Try.prog 19 #[.pointer none, .agg #[.int .i64 o.kind, .int .i64 o.work, .int .i64 o.key, .int .u64 o.val, .slice o.la o.l.length o.lc]] w fun e w' => (∃ a b v, e = .returned (.tuple #[a, b, v, .int .i64 6])) ∧ Below w.heap.size w w' := by
  have ba : Below w.heap.size w (w.alloc (.cells #[.int .i64 o.kind, .int .i64 o.work, .int .i64 o.key, .int .u64 o.val, .slice o.la o.l.length o.lc] 51)) := (Below.refl _ _).alloc (Nat.le_refl _) _
  have hbx : (w.alloc (.cells #[.int .i64 o.kind, .int .i64 o.work, .int .i64 o.key, .int .u64 o.val, .slice o.la o.l.length o.lc] 51)).heap[w.heap.size]? = some (.cells #[.int .i64 o.kind, .int .i64 o.work, .int .i64 o.key, .int .u64 o.val, .slice o.la o.l.length o.lc] 51 (0, 0)) := (MapKept.heap_alloc w _).1
  have hla := (hl.below ba).up ba.size
  have k0 : (w.alloc (.cells #[.int .i64 o.kind, .int .i64 o.work, .int .i64 o.key, .int .u64 o.val, .slice o.la o.l.length o.lc] 51)).cell? ⟨w.heap.size, 0, none⟩ = some (.int .i64 o.kind) := by rw [cell_of_row (w.alloc (.cells #[.int .i64 o.kind, .int .i64 o.work, .int .i64 o.key, .int .u64 o.val, .slice o.la o.l.length o.lc] 51)) _ 0 _ _ _ hbx]; rfl
  have k1 : (w.alloc (.cells #[.int .i64 o.kind, .int .i64 o.work, .int .i64 o.key, .int .u64 o.val, .slice o.la o.l.length o.lc] 51)).cell? ⟨w.heap.size, 1, none⟩ = some (.int .i64 o.work) := by rw [cell_of_row (w.alloc (.cells #[.int .i64 o.kind, .int .i64 o.work, .int .i64 o.key, .int .u64 o.val, .slice o.la o.l.length o.lc] 51)) _ 1 _ _ _ hbx]; rfl
  have k2 : (w.alloc (.cells #[.int .i64 o.kind, .int .i64 o.work, .int .i64 o.key, .int .u64 o.val, .slice o.la o.l.length o.lc] 51)).cell? ⟨w.heap.size, 2, none⟩ = some (.int .i64 o.key) := by rw [cell_of_row (w.alloc (.cells #[.int .i64 o.kind, .int .i64 o.work, .int .i64 o.key, .int .u64 o.val, .slice o.la o.l.length o.lc] 51)) _ 2 _ _ _ hbx]; rfl
  have k3 : (w.alloc (.cells #[.int .i64 o.kind, .int .i64 o.work, .int .i64 o.key, .int .u64 o.val, .slice o.la o.l.length o.lc] 51)).cell? ⟨w.heap.size, 3, none⟩ = some (.int .u64 o.val) := by rw [cell_of_row (w.alloc (.cells #[.int .i64 o.kind, .int .i64 o.work, .int .i64 o.key, .int .u64 o.val, .slice o.la o.l.length o.lc] 51)) _ 3 _ _ _ hbx]; rfl
  have k4 : (w.alloc (.cells #[.int .i64 o.kind, .int .i64 o.work, .int .i64 o.key, .int .u64 o.val, .slice o.la o.l.length o.lc] 51)).cell? ⟨w.heap.size, 4, none⟩ = some (.slice o.la o.l.length o.lc) := by rw [cell_of_row (w.alloc (.cells #[.int .i64 o.kind, .int .i64 o.work, .int .i64 o.key, .int .u64 o.val, .slice o.la o.l.length o.lc] 51)) _ 4 _ _ _ hbx]; rfl
  have HLA := hid hla
  clear hl hbx hla
  go_enter Try.func19, Try.ntmps19
  cases q0 : (o.kind == 0)
  · cases q1 : (o.kind == 1)
    · cases q2 : (o.kind == 2)
      · cases q3 : (o.kind == 3)
        · cases q4 : (o.kind == 4)
          · cases q5 : (o.kind == 5)
            · cases q6 : (o.kind == 6)
              · have n0 : ¬ o.kind = 0 := by simpa using q0
                have n1 : ¬ o.kind = 1 := by simpa using q1
                have n2 : ¬ o.kind = 2 := by simpa using q2
                have n3 : ¬ o.kind = 3 := by simpa using q3
                have n4 : ¬ o.kind = 4 := by simpa using q4
                have n5 : ¬ o.kind = 5 := by simpa using q5
                have n6 : ¬ o.kind = 6 := by simpa using q6
                omega
              · have hrow := HLA.out.row (by omega)
                have HROW := hid hrow
                clear hrow
                go_wp2_with (at_builtin; refine Kd.R_append_rows kch (Rr := fun x cs => cs = encCh x) (w0 := (w.alloc (.cells #[.int .i64 o.kind, .int .i64 o.work, .int .i64 o.key, .int .u64 o.val, .slice o.la o.l.length o.lc] 51))) (w.alloc (.cells #[.int .i64 o.kind, .int .i64 o.work, .int .i64 o.key, .int .u64 o.val, .slice o.la o.l.length o.lc] 51)).heap.size rfl (.tmp 76) (.tmp 78) 32 60 _ 24 rfl Try.underlying32 info60 (by rfl) (by decide) (by decide) (.slice none 0 0) [] o.l _ _ _ (fun _ => True) (fun _ => False) rfl rfl (Kd.R_nil _ _ _ _ _) HROW.out (fun _ _ h => h) (fun _ h => h.elim) (fun _ _ => trivial) (Below.refl _ _) (Nat.le_refl _) (by simp; omega) ?_; intro v5 w5 ho5 hb5 hg5 hat5; have HO5 := hid ho5; clear ho5 hg5 hat5; obtain ⟨A5, c5, hv5⟩ := Kd.R_slice HO5.out; rw [List.nil_append] at hv5; subst hv5; have k1' := (hb5.cell (World.block_lt_of_cell? _ _ k1)).trans k1)
                have hr5 : ChRow w5 (.slice A5 o.l.length c5) o.l := by
                  have := Kd.R_lower HO5.out (Nat.zero_le _)
                  simpa using this
                have hown : ∀ k, (Value.slice A5 o.l.length c5).ownBlock = some k → w.heap.size ≤ k := fun k hk => Nat.le_trans ba.size (Kd.R_base HO5.out k hk)
                have fall : Below w.heap.size w w5 := ba.trans (hb5.mono ba.size)
                have HOW := hid hown
                clear HO5 hown HLA k0 k1 k2 k3 k4 k1' ba HROW hb5
                refine (restore_nil _ _ _).mono ?_
                rintro e w6 ⟨rfl, rfl⟩
                go_wp2_with fail
                go_loopg [15] (o.l.length + 1) (fun m v wr => ∃ (i : Nat) (l' : List Ch), v = .int .i64 i ∧ i ≤ o.l.length ∧ m = o.l.length + 1 - i ∧ l'.length = o.l.length ∧ ChRow wr (.slice A5 o.l.length c5) l' ∧ Below w.heap.size w wr)
                case atStart => exact ⟨0, o.l, rfl, Nat.zero_le _, rfl, rfl, hr5, fall⟩
                case round =>
                  obtain ⟨i, l', rfl, hi, hm, hll, hr, hf⟩ := hrel
                  have HN := hid hm
                  clear hm
                  by_cases h1 : i < o.l.length
                  · have hrl : kch.R 60 wr 0 (fun _ => True) (.slice A5 o.l.length c5) l' := hr
                    rw [← hll] at hrl
                    obtain ⟨g, cp, hv, _, hgl, cells, hgc⟩ := Kd.R_form hrl (by omega)
                    have hAg : A5 = some ⟨g, 0, none⟩ := by injection hv
                    subst hAg
                    rw [hll] at hrl
                    obtain ⟨co, hcl, hcM, hcc, hcz⟩ := Kd.R_elem hrl ⟨0, 0, 0⟩ (i : Int) (by omega) (by omega)
                    have hcl3 : co.length = 3 := hcl
                    generalize hy : l'.getD (Int.toNat i) ⟨0, 0, 0⟩ = y at hcM
                    have hco : co = encCh y := hcM
                    have hv2 : wr.cell? ⟨g, i * 3 + 2, none⟩ = some (.int .u64 y.val) := hcc 2 _ (by rw [hco]; rfl)
                    have hi1 : (i : Int) < o.l.length := by omega
                    have hi0 : (0 : Int) ≤ i := by omega
                    have hzz' : wr.frozen? ⟨g, i * 3 + 2, none⟩ = false := hcz 2
                    have HRL := hid hrl
                    have HCC := hid hcc
                    have HCO := hid hco
                    clear hrl hcc hco hr hgc hcM hy hv hcl hcz cells hr5 fall
                    go_wp2_with fail
                    go_roundg (o.l.length + 1 - (i + 1))
                    case measure => rw [HN.out]; omega
                    case rel =>
                      have hseg := Kd.R_seg HRL.out (i : Int) (by omega) (by omega) (j := 2) (seg := [.int .u64 (IntKind.u64.wrap (y.val + 1))]) (x' := ⟨y.kind, y.key, IntKind.u64.wrap (y.val + 1)⟩) hcl3 HCC.out (by simp [kch]) (okp := fun _ => False) (by rw [HCO.out]; rfl) (fun _ q => q.elim)
                      have hw : wr.setCells g (Int.toNat (i : Int) * kch.sz + 2) [.int .u64 (IntKind.u64.wrap (y.val + 1))] = wr.setCell ⟨g, i * 3 + 2, none⟩ (.int .u64 (IntKind.u64.wrap (y.val + 1))) := rfl
                      rw [hw] at hseg
                      have fs : Fr (fun j => j = g) wr (wr.setCell ⟨g, i * 3 + 2, none⟩ (.int .u64 (IntKind.u64.wrap (y.val + 1)))) := (Fr.of_grown hseg.2).mono (fun j hj => by cases hj; rfl)
                      exact ⟨i + 1, _, by go_num, by omega, rfl, by rw [List.length_set]; exact hll, hseg.1, hf.trans (fs.below hf.size (fun k hk q => by have := HOW.out g rfl; omega))⟩
                  · go_wp2_with fail
                    (try simp only [Exit.inBlock, Exit.then]); refine bodyPost_ret (results_tmp4 rfl _ _ _) rfl ?_
                    exact ⟨⟨_, _, _, rfl⟩, hf⟩
            · go_wp2_with fail
              refine (backout_nil _ _).mono ?_
              rintro e w1 ⟨rfl, rfl⟩
              go_wp2_with fail
              (try simp only [Exit.inBlock, Exit.then]); refine bodyPost_ret (results_tmp4 rfl _ _ _) rfl ?_
              exact ⟨⟨_, _, _, rfl⟩, ba⟩
          · go_wp2_with fail
            refine (commit_nil _ _).mono ?_
            rintro e w1 ⟨rfl, rfl⟩
            go_wp2_with fail
            (try simp only [Exit.inBlock, Exit.then]); refine bodyPost_ret (results_tmp4 rfl _ _ _) rfl ?_
            exact ⟨⟨_, _, _, rfl⟩, ba⟩
        · go_wp2_with fail
          refine (prepare_nil _ _).mono ?_
          rintro e w1 ⟨rfl, rfl⟩
          go_wp2_with fail
          (try simp only [Exit.inBlock, Exit.then]); refine bodyPost_ret (results_tmp4 rfl _ _ _) rfl ?_
          exact ⟨⟨_, _, _, rfl⟩, ba⟩
      · go_wp2_with fail
        refine (del_nil _ _ _).mono ?_
        rintro e w1 ⟨rfl, f1⟩
        go_wp2_with fail
        (try simp only [Exit.inBlock, Exit.then]); refine bodyPost_ret (results_tmp4 rfl _ _ _) rfl ?_
        exact ⟨⟨_, _, _, rfl⟩, ba.trans (f1.mono ba.size)⟩
    · go_wp2_with fail
      refine (put_nil _ _ _ _).mono ?_
      rintro e w1 ⟨rfl, f1⟩
      go_wp2_with fail
      (try simp only [Exit.inBlock, Exit.then]); refine bodyPost_ret (results_tmp4 rfl _ _ _) rfl ?_
      exact ⟨⟨_, _, _, rfl⟩, ba.trans (f1.mono ba.size)⟩
  · go_wp2_with fail
    refine (get_nil _ _ _).mono ?_
    rintro e w1 ⟨rfl, rfl⟩
    go_wp2_with fail
    (try simp only [Exit.inBlock, Exit.then]); refine bodyPost_ret (results_tmp4 rfl _ _ _) rfl ?_
    exact ⟨⟨_, _, _, rfl⟩, ba⟩
/-- A call's box. -/
def OpBox (w : World) (bx : Nat) (o : KOp) : Prop := w.heap[bx]? = some (.cells #[.int .i64 o.kind, .int .i64 o.work, .int .i64 o.key, .int .u64 o.val, .slice o.la o.l.length o.lc] 51 (0, 0))
theorem OpBox.below {w w' : World} {bx : Nat} {o : KOp} (h : OpBox w bx o) (hb : Below w.heap.size w w') : OpBox w' bx o := (hb.block _ (blk_lt h)).trans h
theorem OpBox.cells {w : World} {bx : Nat} {o : KOp} (h : OpBox w bx o) : w.cell? ⟨bx, 0, none⟩ = some (.int .i64 o.kind) ∧ w.cell? ⟨bx, 1, none⟩ = some (.int .i64 o.work) ∧ w.cell? ⟨bx, 2, none⟩ = some (.int .i64 o.key) ∧ w.cell? ⟨bx, 3, none⟩ = some (.int .u64 o.val) ∧ w.cell? ⟨bx, 4, none⟩ = some (.slice o.la o.l.length o.lc) := by
  refine ⟨?_, ?_, ?_, ?_, ?_⟩
  · rw [cell_of_row w bx 0 _ _ _ h]; rfl
  · rw [cell_of_row w bx 1 _ _ _ h]; rfl
  · rw [cell_of_row w bx 2 _ _ _ h]; rfl
  · rw [cell_of_row w bx 3 _ _ _ h]; rfl
  · rw [cell_of_row w bx 4 _ _ _ h]; rfl
set_option maxRecDepth 100000 in
set_option maxHeartbeats 8000000 in
theorem nobody_any (o : KOp) (w : World) (hl : ChAt w w.heap.size o.la o.l) (hlc : o.l.length ≤ o.lc) :
    Calls Try.prog 6 #[.agg #[.int .i64 o.kind, .int .i64 o.work, .int .i64 o.key, .int .u64 o.val, .slice o.la o.l.length o.lc]] w fun e w' => e = .returned (.bool true) ∧ Below w.heap.size w w' := by
  have ba : Below w.heap.size w (w.alloc (.cells #[.int .i64 o.kind, .int .i64 o.work, .int .i64 o.key, .int .u64 o.val, .slice o.la o.l.length o.lc] 51)) := (Below.refl _ _).alloc (Nat.le_refl _) _
  have hbx : OpBox (w.alloc (.cells #[.int .i64 o.kind, .int .i64 o.work, .int .i64 o.key, .int .u64 o.val, .slice o.la o.l.length o.lc] 51)) w.heap.size o := (MapKept.heap_alloc w _).1
  have hla := (hl.below ba)
  have HBX := hid hbx
  have HLA := hid hla
  obtain ⟨k0, k1, k2, k3, k4⟩ := hbx.cells
  clear hbx hla hl
  go_enter Try.func6, Try.ntmps6
  by_cases h30 : (o.l.length : Int) ≤ 30
  · by_cases hk0 : o.kind < 0
    · go_wp2_with fail
      refine (alive_any _).mono ?_
      rintro e w2 ⟨rfl, f2⟩
      go_wp2_with fail
      go_ret
      exact ⟨rfl, ba.trans (f2.mono ba.size)⟩
    · by_cases hk6 : 6 < o.kind
      · go_wp2_with fail
        refine (alive_any _).mono ?_
        rintro e w2 ⟨rfl, f2⟩
        go_wp2_with fail
        go_ret
        exact ⟨rfl, ba.trans (f2.mono ba.size)⟩
      · go_wp2_with fail
        change Calls Try.prog 19 _ ((w.alloc (.cells #[.int .i64 o.kind, .int .i64 o.work, .int .i64 o.key, .int .u64 o.val, .slice o.la o.l.length o.lc] 51)).alloc (.cells (storeCells (List.replicate 16 0) (List.replicate 16 false) none none) 69)) _
        have hsa : (w.alloc (.cells #[.int .i64 o.kind, .int .i64 o.work, .int .i64 o.key, .int .u64 o.val, .slice o.la o.l.length o.lc] 51)).heap.size = w.heap.size + 1 := by simp
        have hk : KvAt (fun i => i = w.heap.size + 1) ((w.alloc (.cells #[.int .i64 o.kind, .int .i64 o.work, .int .i64 o.key, .int .u64 o.val, .slice o.la o.l.length o.lc] 51)).alloc (.cells (storeCells (List.replicate 16 0) (List.replicate 16 false) none none) 69)) (w.heap.size + 1) KS.new := by
          have := new_kv (w.alloc (.cells #[.int .i64 o.kind, .int .i64 o.work, .int .i64 o.key, .int .u64 o.val, .slice o.la o.l.length o.lc] 51))
          rw [hsa] at this
          exact this
        have hb : Below (w.alloc (.cells #[.int .i64 o.kind, .int .i64 o.work, .int .i64 o.key, .int .u64 o.val, .slice o.la o.l.length o.lc] 51)).heap.size (w.alloc (.cells #[.int .i64 o.kind, .int .i64 o.work, .int .i64 o.key, .int .u64 o.val, .slice o.la o.l.length o.lc] 51)) ((w.alloc (.cells #[.int .i64 o.kind, .int .i64 o.work, .int .i64 o.key, .int .u64 o.val, .slice o.la o.l.length o.lc] 51)).alloc (.cells (storeCells (List.replicate 16 0) (List.replicate 16 false) none none) 69)) := (Below.refl _ _).alloc (Nat.le_refl _) _
        have hbx1 := HBX.out.below hb
        have hla1 := HLA.out.below (hb.mono ba.size)
        have hw1 : Below w.heap.size w ((w.alloc (.cells #[.int .i64 o.kind, .int .i64 o.work, .int .i64 o.key, .int .u64 o.val, .slice o.la o.l.length o.lc] 51)).alloc (.cells (storeCells (List.replicate 16 0) (List.replicate 16 false) none none) 69)) := ba.trans (hb.mono ba.size)
        generalize (w.alloc (.cells #[.int .i64 o.kind, .int .i64 o.work, .int .i64 o.key, .int .u64 o.val, .slice o.la o.l.length o.lc] 51)).alloc (.cells (storeCells (List.replicate 16 0) (List.replicate 16 false) none none) 69) = wb at *
        have HNE : Hid (w.heap.size < w.heap.size + 1) := hid (by omega)
        generalize w.heap.size + 1 = bt at *
        have HW1 := hid hw1
        have HBX1 := hid hbx1
        have HLA1 := hid hla1
        have HK := hid hk
        clear k0 k1 k2 k3 k4 HBX HLA hb hsa hw1 hbx1 hla1 hk ba
        refine (call_nil o wb (by omega) (by omega) (HLA1.out.up HW1.out.size) (by omega) hlc).mono ?_
        rintro e w3 ⟨⟨a3, b3, v3, rfl⟩, f3⟩
        have hk3 := HK.out.below f3
        have hbx3 := HBX1.out.below f3
        have hla3 := HLA1.out.below (f3.mono HW1.out.size)
        have hw3 := HW1.out.trans (f3.mono HW1.out.size)
        obtain ⟨k0, k1, k2, k3, k4⟩ := hbx3.cells
        have HK3 := hid hk3
        have HBX3 := hid hbx3
        have HLA3 := hid hla3
        have HW3 := hid hw3
        clear f3 hk3 hbx3 hla3 hw3 HW1 HBX1 HLA1 HK
        have HC := hid (call_any HK3.out o (HLA3.out.up HW3.out.size) (fun _ => by omega) hlc)
        go_wp2_with fail
        refine HC.out.mono ?_
        rintro e w4 ⟨v4, F4, rfl, hk4, hg4, hf4, hr4, ho4⟩
        have hbx4 : OpBox w4 w.heap.size o := hf4.at_ HBX3.out (fun q => by have := HNE.out; omega)
        have hb4 : Below w.heap.size w3 w4 := hf4.below HW3.out.size (fun k hk q => by have := HNE.out; omega)
        have hla4 := HLA3.out.below hb4
        have hw4 := HW3.out.trans hb4
        have hb5 : Below w4.heap.size w4 (w4.alloc (.cells #[.slice none 0 0, .slice none 0 0, .slice none 0 0] 49)) := (Below.refl _ _).alloc (Nat.le_refl _) _
        have hd5 := DsR.new w4
        have hbx5 := hbx4.below hb5
        have hla5 := hla4.below (hb5.mono hw4.size)
        have hw5 := hw4.trans (hb5.mono hw4.size)
        have hr5 := hr4.below hb5
        have hm := model_any (s := KS.new) hd5 rfl (by simp) Agree.new KS.Ok.new o (hla5.up hw5.size) (fun hne b off e => by
          obtain ⟨y, hy⟩ : ∃ y, o.l[0]? = some y := ⟨_, List.getElem?_eq_getElem (List.length_pos_iff.2 hne)⟩
          obtain ⟨b2, off2, e2, hlt, _⟩ := hla5 0 y hy
          rw [e] at e2
          cases e2
          exact ⟨fun q => by have := hw4.size; omega, Nat.lt_of_lt_of_le hlt hw5.size⟩) (fun _ => by omega) hlc
        have hll := call_list_len KS.Ok.new o
        have hlt4 : ∀ k, v4.ownBlock = some k → k < w4.heap.size := fun k hk => hr4.lt k hk
        unfold DCall at hm
        obtain ⟨k0', k1', k2', k3', k4'⟩ := hbx5.cells
        generalize callK KS.new o = R at *
        obtain ⟨⟨ra, rb, rl, re⟩, s'⟩ := R
        simp only at hr5 hm hll hk4 ⊢
        have HW4S := hid hw4.size
        have HBW4 := hid (blk_lt hbx4)
        have HM := hid hm
        have HR5 := hid hr5
        have HBX5 := hid hbx5
        have HW5 := hid hw5
        have HLT4 := hid hlt4
        clear hk4 hg4 hf4 hr4 ho4 hbx4 hb4 hla4 hw4 hb5 hd5 hbx5 hla5 hw5 hr5 hm hlt4 HC HK3 HBX3 HLA3 HW3 k0 k1 k2 k3 k4
        go_wp2_with fail
        refine HM.out.mono ?_
        rintro e w6 ⟨v6, G6, I6, pv6, qv6, tv6, rfl, hd6, hi6, hg6, hf6, hr6, ho6⟩
        have hbx6 : OpBox w6 w.heap.size o := hf6.at_ HBX5.out (fun q => by have h4 := HBW4.out; omega)
        have hb6 : Below w.heap.size (w4.alloc (.cells #[.slice none 0 0, .slice none 0 0, .slice none 0 0] 49)) w6 := hf6.below HW5.out.size (fun k hk q => by have h4 := HW4S.out; omega)
        have hr46 := HR5.out.move (fun k hk => hf6.block k (HR5.out.lt k hk) (fun q => by have := HLT4.out k hk; omega))
        have hw6 := HW5.out.trans hb6
        obtain ⟨A1, c1, hv, hc1, _⟩ := hr46.at_
        subst hv
        obtain ⟨A2, c2, hv, hc2, _⟩ := hr6.at_
        subst hv
        obtain ⟨j0, j1, j2, j3, j4⟩ := hbx6.cells
        have HBX6 := hid hbx6
        have HR46 := hid hr46
        have HR6 := hid hr6
        have HW6 := hid hw6
        clear hbx6 hr46 hr6 hw6 hb6 hd6 hi6 hg6 hf6 ho6 HM HR5 HBX5 HW5 HLT4 k0' k1' k2' k3' k4'
        go_wp2_with fail
        refine (value_nil _ _).mono ?_
        rintro e w7 ⟨rfl, rfl⟩
        go_wp2_with fail
        refine (alive_any _).mono ?_
        rintro e w8 ⟨rfl, f8⟩
        have hbx8 := HBX6.out.below f8
        have hr48 := HR46.out.below f8
        have hr8 := HR6.out.below f8
        have hw8 := HW6.out.trans (f8.mono HW6.out.size)
        obtain ⟨A1', c1', e1, _, g1⟩ := hr48.at_
        obtain ⟨A2', c2', e2, _, g2⟩ := hr8.at_
        have e11 : A1' = A1 ∧ c1' = c1 := by injection e1 with a b c; exact ⟨a.symm, c.symm⟩
        have e22 : A2' = A2 ∧ c2' = c2 := by injection e2 with a b c; exact ⟨a.symm, c.symm⟩
        rw [e11.1] at g1
        rw [e22.1] at g2
        have HSA := hid (samech_any A1 A2 rl c1 c2 _ _ g1 g2 (by omega))
        have HBX8 := hid hbx8
        have HW8 := hid hw8
        have da : (ra == ra) = true := by simp
        have db : (rb == rb) = true := by simp
        have de : (re == re) = true := by simp
        clear f8 hbx8 hr48 hr8 hw8 e1 e2 e11 e22 g1 g2 HR46 HR6 HW6 HBX6 j0 j1 j2 j3 j4
        go_wp2_with fail
        refine HSA.out.mono ?_
        rintro e w9 ⟨rfl, q9, rfl⟩
        have hw9 := HW8.out.trans ((bdN w8 q9).mono HW8.out.size)
        obtain ⟨i0, i1, i2, i3, i4⟩ := (HBX8.out.below (bdN w8 q9)).cells
        go_wp2_with fail
        refine (busy_nil _ _).mono ?_
        rintro e w10 ⟨rfl, rfl⟩
        go_wp2_with fail
        go_ret
        exact ⟨rfl, hw9⟩
  · have h30' : 30 < (o.l.length : Int) := by omega
    go_wp2_with fail
    refine (alive_any _).mono ?_
    rintro e w2 ⟨rfl, f2⟩
    go_wp2_with fail
    go_ret
    exact ⟨rfl, ba.trans (f2.mono ba.size)⟩

section
open Go.Deep Go.WideShapes
variable {H : Type} {enc : TypeId × Value → H} {W : World} {base : Nat} {spare : Nat → Bool} {held : Bool}
set_option maxRecDepth 100000 in
theorem oparg_open {r : Reach} {b0 : Nat} {v : Value} {d : DataW H} {p : List MemPlace} (hv : Value.okWide Try.prog W r b0 51 v) (h : DataW.Trod enc Try.prog W base spare held 51 v d p) :
    ∃ o : KOp, v = .agg #[.int .i64 o.kind, .int .i64 o.work, .int .i64 o.key, .int .u64 o.val, .slice o.la o.l.length o.lc] ∧ ChAt W W.heap.size o.la o.l ∧ o.l.length ≤ o.lc := by
  obtain ⟨cs, rfl, hsz⟩ := okWide_struct Try.underlying51 hv
  obtain ⟨fuel, hf⟩ := h
  obtain ⟨y, hy, h1, h2⟩ := op_open _ _ _ hf
  have : cs = (encOp y).toArray := by
    rw [← hy]
    simp [Value.cells]
  subst this
  exact ⟨y, rfl, h1, h2⟩
end

end Go.Proofs.Ytekebjcknhjceaa
