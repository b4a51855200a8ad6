/- Walks of trothlaw14.call at a queue that is nil, and of trothlaw14.QueueNobody: it answers true. Condition: the call's lists read. -/
import Derived.Test.YtmckdoiepmkbbaaQdJ
import Derived.Test.YtmckdoiepmkbbaaRowsB
namespace Go.Proofs.Ytmckdoiepmkbbaa
open Go.RowKit Go.Mine Go.Proofs.YtmckdoiepmkbbaaW.PrintWords
set_option linter.unusedVariables false
set_option linter.unusedSimpArgs false
theorem restore_nil (n : Int) (v : Value) (w : World) : Calls Try.prog 29 #[.pointer none, .int .i64 n, v] w fun e w' => e = .returned (.int .i64 6) ∧ w = w' := by
  go_enter Try.func29, Try.ntmps29
  go_wp2_with fail
  refine (decided_nil _ _).mono ?_
  rintro e w1 ⟨rfl, rfl⟩
  go_wp2_with fail
  go_ret
  exact ⟨rfl, rfl⟩
theorem commit_nil (n : Int) (w : World) : Calls Try.prog 16 #[.pointer none, .int .i64 n] w fun e w' => e = .returned (.int .i64 6) ∧ Below w.heap.size w w' := by
  have ba : Below w.heap.size w (w.alloc (.cells #[.int .i64 n] 3)) := (Below.refl _ _).alloc (Nat.le_refl _) _
  go_enter Try.func16, Try.ntmps16
  go_wp2_with fail
  refine (decided_nil _ _).mono ?_
  rintro e w1 ⟨rfl, rfl⟩
  go_wp2_with fail
  go_ret
  exact ⟨rfl, ba⟩
set_option maxRecDepth 100000 in
theorem take_nil (n : Int) (w : World) : Calls Try.prog 13 #[.pointer none, .int .i64 n] w fun e w' => e = .returned (.tuple #[.int .u64 0, .int .i64 6]) ∧ Below w.heap.size w w' := by
  have ba : Below w.heap.size w ((w.alloc (.cells #[.pointer none] 23)).alloc (.cells #[.int .i64 n] 3)) := ((Below.refl _ _).alloc (Nat.le_refl _) _).alloc (by simp) _
  have kk0 : Boxed ((w.alloc (.cells #[.pointer none] 23)).alloc (.cells #[.int .i64 n] 3)) w.heap.size 23 (.pointer none) := (Boxed.new w 23 _).alloc _
  have kk1 : Boxed ((w.alloc (.cells #[.pointer none] 23)).alloc (.cells #[.int .i64 n] 3)) (w.heap.size + 1) 3 (.int .i64 n) := by
    have := Boxed.new (w.alloc (.cells #[.pointer none] 23)) 3 (.int .i64 n)
    rwa [World.size_alloc] at this
  have c0 := kk0.cell
  have c1 := kk1.cell
  clear kk0 kk1
  refine (callsIn_wide (n := 5)).1 ?_
  refine callsIn_of_wp_marks Try.func13 rfl trivial ?_ rfl
  simp only [Try.ntmps13, List.size_toArray, List.length_cons, List.length_nil, Nat.reduceAdd, Nat.reduceSub, Array.replicate_succ, Array.replicate_zero, List.push_toArray, List.append_toArray, List.nil_append, List.cons_append]
  refine wpIn_wide.2 ?_
  go_wp2_with fail
  refine wp_scope_straight ?_
  go_wp2_with fail
  refine (fit_nil _ _).mono ?_
  rintro e w1 ⟨rfl, rfl⟩
  go_wp2_with fail
  refine ⟨_, results_tmp2 rfl _ _ _, ?_⟩
  exact ⟨rfl, ba⟩
set_option maxRecDepth 100000 in
set_option maxHeartbeats 4000000 in
theorem call_nil (o : QOp) (w : World) (h0 : 0 ≤ o.kind) (h6 : o.kind ≤ 6) :
    Calls Try.prog 22 #[.pointer none, .agg #[.int .i64 o.kind, .int .i64 o.work, .int .i64 o.next, .int .u64 o.val, .slice o.la o.l.length o.lc, .slice o.va o.v.length o.vc]] w fun e w' => (∃ a v, e = .returned (.tuple #[a, v, .int .i64 6])) ∧ Below w.heap.size w w' := by
  have ba : Below w.heap.size w (w.alloc (.cells #[.int .i64 o.kind, .int .i64 o.work, .int .i64 o.next, .int .u64 o.val, .slice o.la o.l.length o.lc, .slice o.va o.v.length o.vc] 46)) := (Below.refl _ _).alloc (Nat.le_refl _) _
  have BA := hid ba
  clear ba
  go_enter Try.func22, Try.ntmps22
  cases q0 : (o.kind == 0)
  rotate_left
  · go_wp2_with fail
    refine (put_nil _ _ _).mono ?_
    rintro e w1 ⟨rfl, rfl⟩
    go_wp2_with fail
    (try simp only [Exit.inBlock, Exit.then]); refine bodyPost_ret (results_tmp3 rfl _ _ _) rfl ?_
    exact ⟨⟨_, _, rfl⟩, BA.out⟩
  cases q1 : (o.kind == 1)
  rotate_left
  · go_wp2_with fail
    refine (take_nil _ _).mono ?_
    rintro e w1 ⟨rfl, f1⟩
    go_wp2_with fail
    (try simp only [Exit.inBlock, Exit.then]); refine bodyPost_ret (results_tmp3 rfl _ _ _) rfl ?_
    exact ⟨⟨_, _, rfl⟩, BA.out.trans (f1.mono BA.out.size)⟩
  cases q2 : (o.kind == 2)
  rotate_left
  · go_wp2_with fail
    refine (prepare_nil _ _).mono ?_
    rintro e w1 ⟨rfl, rfl⟩
    go_wp2_with fail
    (try simp only [Exit.inBlock, Exit.then]); refine bodyPost_ret (results_tmp3 rfl _ _ _) rfl ?_
    exact ⟨⟨_, _, rfl⟩, BA.out⟩
  cases q3 : (o.kind == 3)
  rotate_left
  · go_wp2_with fail
    refine (commit_nil _ _).mono ?_
    rintro e w1 ⟨rfl, f1⟩
    go_wp2_with fail
    (try simp only [Exit.inBlock, Exit.then]); refine bodyPost_ret (results_tmp3 rfl _ _ _) rfl ?_
    exact ⟨⟨_, _, rfl⟩, BA.out.trans (f1.mono BA.out.size)⟩
  cases q4 : (o.kind == 4)
  rotate_left
  · go_wp2_with fail
    refine (backout_nil _ _).mono ?_
    rintro e w1 ⟨rfl, rfl⟩
    go_wp2_with fail
    (try simp only [Exit.inBlock, Exit.then]); refine bodyPost_ret (results_tmp3 rfl _ _ _) rfl ?_
    exact ⟨⟨_, _, rfl⟩, BA.out⟩
  cases q5 : (o.kind == 5)
  rotate_left
  · go_wp2_with fail
    refine (restore_nil _ _ _).mono ?_
    rintro e w1 ⟨rfl, rfl⟩
    go_wp2_with fail
    (try simp only [Exit.inBlock, Exit.then]); refine bodyPost_ret (results_tmp3 rfl _ _ _) rfl ?_
    exact ⟨⟨_, _, rfl⟩, BA.out⟩
  cases q6 : (o.kind == 6)
  rotate_left
  · go_wp2_with fail
    refine (load_nil _ _ _).mono ?_
    rintro e w1 ⟨rfl, rfl⟩
    go_wp2_with fail
    (try simp only [Exit.inBlock, Exit.then]); refine bodyPost_ret (results_tmp3 rfl _ _ _) rfl ?_
    exact ⟨⟨_, _, rfl⟩, BA.out⟩
  exfalso
  have n0 : ¬ o.kind = 0 := by simpa using q0
  have n1 : ¬ o.kind = 1 := by simpa using q1
  have n2 : ¬ o.kind = 2 := by simpa using q2
  have n3 : ¬ o.kind = 3 := by simpa using q3
  have n4 : ¬ o.kind = 4 := by simpa using q4
  have n5 : ¬ o.kind = 5 := by simpa using q5
  have n6 : ¬ o.kind = 6 := by simpa using q6
  omega
/-- A call's box. -/
def OpBox (w : World) (bx : Nat) (o : QOp) : Prop := w.heap[bx]? = some (.cells #[.int .i64 o.kind, .int .i64 o.work, .int .i64 o.next, .int .u64 o.val, .slice o.la o.l.length o.lc, .slice o.va o.v.length o.vc] 46 (0, 0))
theorem OpBox.below {w w' : World} {bx : Nat} {o : QOp} (h : OpBox w bx o) (hb : Below w.heap.size w w') : OpBox w' bx o := (hb.block _ (blk_lt h)).trans h
theorem OpBox.cells {w : World} {bx : Nat} {o : QOp} (h : OpBox w bx o) : w.cell? ⟨bx, 0, none⟩ = some (.int .i64 o.kind) ∧ w.cell? ⟨bx, 1, none⟩ = some (.int .i64 o.work) ∧ w.cell? ⟨bx, 2, none⟩ = some (.int .i64 o.next) ∧ w.cell? ⟨bx, 3, none⟩ = some (.int .u64 o.val) ∧ w.cell? ⟨bx, 4, none⟩ = some (.slice o.la o.l.length o.lc) ∧ w.cell? ⟨bx, 5, none⟩ = some (.slice o.va o.v.length o.vc) := by
  refine ⟨?_, ?_, ?_, ?_, ?_, ?_⟩
  · rw [cell_of_row w bx 0 _ _ _ h]; rfl
  · rw [cell_of_row w bx 1 _ _ _ h]; rfl
  · rw [cell_of_row w bx 2 _ _ _ h]; rfl
  · rw [cell_of_row w bx 3 _ _ _ h]; rfl
  · rw [cell_of_row w bx 4 _ _ _ h]; rfl
  · rw [cell_of_row w bx 5 _ _ _ h]; rfl
set_option maxRecDepth 100000 in
set_option maxHeartbeats 8000000 in
theorem nobody_any (o : QOp) (w : World) (hl : OpIn w w.heap.size o) :
    Calls Try.prog 7 #[.agg #[.int .i64 o.kind, .int .i64 o.work, .int .i64 o.next, .int .u64 o.val, .slice o.la o.l.length o.lc, .slice o.va o.v.length o.vc]] w fun e w' => e = .returned (.bool true) ∧ Below w.heap.size w w' := by
  have ba : Below w.heap.size w (w.alloc (.cells #[.int .i64 o.kind, .int .i64 o.work, .int .i64 o.next, .int .u64 o.val, .slice o.la o.l.length o.lc, .slice o.va o.v.length o.vc] 46)) := (Below.refl _ _).alloc (Nat.le_refl _) _
  have hbx : OpBox (w.alloc (.cells #[.int .i64 o.kind, .int .i64 o.work, .int .i64 o.next, .int .u64 o.val, .slice o.la o.l.length o.lc, .slice o.va o.v.length o.vc] 46)) w.heap.size o := (MapKept.heap_alloc w _).1
  have hla := (hl.below ba)
  have HBX := hid hbx
  have HLA := hid hla
  have HLG := hid (fun w1 => long_any o w1)
  obtain ⟨k0, k1, k2, k3, k4, k5⟩ := hbx.cells
  clear hbx hla hl
  go_enter Try.func7, Try.ntmps7
  cases h30 : longQ o
  · obtain ⟨qq1, qq2⟩ := longQ_false h30
    rw [h30] at HLG
    clear h30
    have HBA := hid ba
    clear ba
    go_wp2_with fail
    refine (HLG.out _).mono ?_
    rintro e w1 ⟨rfl, f1⟩
    clear k0 k1 k2 k3 k4 k5 HLG
    have ba1 := HBA.out.trans (f1.mono HBA.out.size)
    have hbx1 := HBX.out.below f1
    have hla1 := HLA.out.below (f1.mono HBA.out.size)
    have hlt1 := blk_lt HBX.out
    have hw1s := Nat.lt_of_lt_of_le hlt1 f1.size
    clear HBX HLA f1 hlt1 HBA
    have HW1S := hid hw1s
    clear hw1s
    obtain ⟨k0, k1, k2, k3, k4, k5⟩ := hbx1.cells
    have HBX := hid hbx1
    have HLA := hid hla1
    have HBA := hid ba1
    clear hbx1 hla1 ba1
    by_cases hk0 : o.kind < 0
    · go_wp2_with fail
      refine (alive_any _).mono ?_
      rintro e w2 ⟨rfl, f2⟩
      go_wp2_with fail
      go_ret
      exact ⟨rfl, HBA.out.trans (f2.mono HBA.out.size)⟩
    · by_cases hk6 : 6 < o.kind
      · go_wp2_with fail
        refine (alive_any _).mono ?_
        rintro e w2 ⟨rfl, f2⟩
        go_wp2_with fail
        go_ret
        exact ⟨rfl, HBA.out.trans (f2.mono HBA.out.size)⟩
      · have hbq : Below w1.heap.size w1 (w1.alloc (.cells #[.slice none 0 0, .slice none 0 0, .int .i64 0] 64)) := (Below.refl _ _).alloc (Nat.le_refl _) _
        obtain ⟨g0, g1, g2, g3, g4, g5⟩ := (HBX.out.below hbq).cells
        clear hbq
        go_wp2_with fail
        clear g0 g1 g2 g3 g4 g5
        change Calls Try.prog 22 _ (w1.alloc (.cells #[.slice none 0 0, .slice none 0 0, .int .i64 0] 64)) _
        have hk : QAt (fun i => i = w1.heap.size) (w1.alloc (.cells #[.slice none 0 0, .slice none 0 0, .int .i64 0] 64)) w1.heap.size QS.new := ⟨[], _, _, QR.new w1, rfl⟩
        have hb : Below w1.heap.size w1 (w1.alloc (.cells #[.slice none 0 0, .slice none 0 0, .int .i64 0] 64)) := (Below.refl _ _).alloc (Nat.le_refl _) _
        have hbx1 := HBX.out.below hb
        have hla1 := HLA.out.below (hb.mono HBA.out.size)
        have hw1 := HBA.out.trans (hb.mono HBA.out.size)
        generalize (w1.alloc (.cells #[.slice none 0 0, .slice none 0 0, .int .i64 0] 64)) = wb at *
        generalize w1.heap.size = bt at *
        have HW1 := hid hw1
        have HBX1 := hid hbx1
        have HLA1 := hid hla1
        have HK := hid hk
        clear k0 k1 k2 k3 k4 k5 HBX HLA hb hw1 hbx1 hla1 hk HBA
        refine (call_nil o wb (by omega) (by omega)).mono ?_
        rintro e w3 ⟨⟨a3, v3, rfl⟩, f3⟩
        have hk3 := HK.out.below f3
        have hbx3 := HBX1.out.below f3
        have hla3 := HLA1.out.below (f3.mono HW1.out.size)
        have hw3 := HW1.out.trans (f3.mono HW1.out.size)
        obtain ⟨k0, k1, k2, k3, k4, k5⟩ := hbx3.cells
        have HK3 := hid hk3
        have HBX3 := hid hbx3
        have HLA3 := hid hla3
        have HW3 := hid hw3
        clear f3 hk3 hbx3 hla3 hw3 HW1 HBX1 HLA1 HK
        have hlo : w.heap.size ≤ bt := Nat.le_of_lt HW1S.out
        have hbe : ∀ i, (fun i => i = bt) i → w.heap.size ≤ i := fun i hi => by subst hi; exact hlo
        have HC := hid (call_any HK3.out QS.Ok.new o (fun _ => ⟨HLA3.out.1.up HW3.out.size, beside_of hbe HLA3.out.1, by omega⟩) (fun _ => ⟨HLA3.out.2.2.1.up HW3.out.size, beside_of hbe HLA3.out.2.2.1, HLA3.out.2.2.2, by omega⟩))
        have HLO := hid hlo
        clear hbe hlo
        go_wp2_with fail
        refine HC.out.mono ?_
        rintro e w4 ⟨v4, F4, rfl, hk4, hg4, hf4, hr4, ho4⟩
        have hbx4 : OpBox w4 w.heap.size o := hf4.at_ HBX3.out (fun q => by have := HW1S.out; omega)
        have hb4 : Below w.heap.size w3 w4 := hf4.below HW3.out.size (fun k hk q => by have := HLO.out; omega)
        have hla4 := HLA3.out.below hb4
        have hw4 := HW3.out.trans hb4
        have hb5 : Below w4.heap.size w4 (w4.alloc (.cells #[.slice none 0 0, .slice none 0 0, .int .i64 0] 55)) := (Below.refl _ _).alloc (Nat.le_refl _) _
        have hd5 : DAt (fun i => i = w4.heap.size) (w4.alloc (.cells #[.slice none 0 0, .slice none 0 0, .int .i64 0] 55)) w4.heap.size QS.new := ⟨[], _, _, DQR.new w4, rfl⟩
        have hbx5 := hbx4.below hb5
        have hla5 := hla4.below (hb5.mono hw4.size)
        have hw5 := hw4.trans (hb5.mono hw4.size)
        have hr5 := hr4.below hb5
        have hbe5 : ∀ i, (fun i => i = w4.heap.size) i → w.heap.size ≤ i := fun i hi => by subst hi; exact hw4.size
        have hm := model_any hd5 QS.Ok.new o (fun _ => ⟨hla5.1.up hw5.size, beside_of hbe5 hla5.1, by omega⟩) (fun _ => ⟨hla5.2.2.1.up hw5.size, beside_of hbe5 hla5.2.2.1, by omega⟩)
        have hll := callQ_list_len QS.Ok.new o
        have hlt4 : ∀ k, v4.ownBlock = some k → k < w4.heap.size := fun k hk => hr4.lt hk
        unfold DCallPost at hm
        obtain ⟨k0', k1', k2', k3', k4', k5'⟩ := hbx5.cells
        generalize callQ QS.new o = R at *
        obtain ⟨⟨ra, rl, re⟩, s'⟩ := R
        simp only at hr5 hm hll hk4 ⊢
        have HW4S := hid hw4.size
        have HBW4 := hid (blk_lt hbx4)
        have HM := hid hm
        have HR5 := hid hr5
        have HBX5 := hid hbx5
        have HW5 := hid hw5
        have HLT4 := hid hlt4
        clear hk4 hg4 hf4 hr4 ho4 hbx4 hb4 hla4 hw4 hb5 hd5 hbx5 hla5 hw5 hr5 hm hlt4 HC HK3 HBX3 HLA3 HW3 k0 k1 k2 k3 k4 k5 hbe5
        go_wp2_with fail
        refine HM.out.mono ?_
        rintro e w6 ⟨v6, G6, rfl, hd6, hg6, hf6, hr6, ho6⟩
        have hbx6 : OpBox w6 w.heap.size o := hf6.at_ HBX5.out (fun q => by have h4 := HBW4.out; omega)
        have hb6 : Below w.heap.size (w4.alloc (.cells #[.slice none 0 0, .slice none 0 0, .int .i64 0] 55)) w6 := hf6.below HW5.out.size (fun k hk q => by have h4 := HW4S.out; omega)
        have hr46 := HR5.out.move (fun k hk => hf6.block k (HR5.out.lt hk) (fun q => by have := HLT4.out k hk; omega))
        have hw6 := HW5.out.trans hb6
        obtain ⟨A1, c1, hv, hc1, _⟩ := hr46.at_
        subst hv
        obtain ⟨A2, c2, hv, hc2, _⟩ := hr6.at_
        subst hv
        obtain ⟨j0, j1, j2, j3, j4, j5⟩ := hbx6.cells
        have HBX6 := hid hbx6
        have HR46 := hid hr46
        have HR6 := hid hr6
        have HW6 := hid hw6
        clear hbx6 hr46 hr6 hw6 hb6 hd6 hg6 hf6 ho6 HM HR5 HBX5 HW5 HLT4 k0' k1' k2' k3' k4' k5'
        go_wp2_with fail
        refine (alive_any _).mono ?_
        rintro e w8 ⟨rfl, f8⟩
        have hbx8 := HBX6.out.below f8
        have hr48 := HR46.out.below f8
        have hr8 := HR6.out.below f8
        have hw8 := HW6.out.trans (f8.mono HW6.out.size)
        obtain ⟨A1', c1', e1, _, g1⟩ := hr48.at_
        obtain ⟨A2', c2', e2, _, g2⟩ := hr8.at_
        have e11 : A1' = A1 ∧ c1' = c1 := by injection e1 with a b c; exact ⟨a.symm, c.symm⟩
        have e22 : A2' = A2 ∧ c2' = c2 := by injection e2 with a b c; exact ⟨a.symm, c.symm⟩
        rw [e11.1] at g1
        rw [e22.1] at g2
        have HSA := hid (samech_any A1 A2 rl c1 c2 _ _ g1 g2 (by omega))
        have HBX8 := hid hbx8
        have HW8 := hid hw8
        have da : (ra == ra) = true := by simp
        have de : (re == re) = true := by simp
        clear f8 hbx8 hr48 hr8 hw8 e1 e2 e11 e22 g1 g2 HR46 HR6 HW6 HBX6 j0 j1 j2 j3 j4 j5
        go_wp2_with fail
        refine HSA.out.mono ?_
        rintro e w9 ⟨rfl, q9, rfl⟩
        have hw9 := HW8.out.trans ((bdN w8 q9).mono HW8.out.size)
        obtain ⟨i0, i1, i2, i3, i4, i5⟩ := (HBX8.out.below (bdN w8 q9)).cells
        go_wp2_with fail
        refine (values_nil _).mono ?_
        rintro e w10 ⟨rfl, rfl⟩
        go_wp2_with fail
        refine (next_nil _).mono ?_
        rintro e w11 ⟨rfl, rfl⟩
        go_wp2_with fail
        refine (busy_nil _ _).mono ?_
        rintro e w12 ⟨rfl, rfl⟩
        go_wp2_with fail
        go_ret
        exact ⟨rfl, hw9⟩
  · rw [h30] at HLG
    go_wp2_with fail
    refine (HLG.out _).mono ?_
    rintro e w1 ⟨rfl, f1⟩
    go_wp2_with fail
    refine (alive_any _).mono ?_
    rintro e w2 ⟨rfl, f2⟩
    go_wp2_with fail
    go_ret
    have ba1 := ba.trans (f1.mono ba.size)
    exact ⟨rfl, ba1.trans (f2.mono ba1.size)⟩
section
open Go.Deep Go.WideShapes
variable {H : Type} {enc : TypeId × Value → H} {W : World} {base : Nat} {spare : Nat → Bool} {held : Bool}
set_option maxRecDepth 100000 in
theorem oparg_open {r : Reach} {b0 : Nat} {v : Value} {d : DataW H} {p : List MemPlace} (hv : Value.okWide Try.prog W r b0 46 v) (h : DataW.Trod enc Try.prog W base spare held 46 v d p) :
    ∃ o : QOp, v = .agg #[.int .i64 o.kind, .int .i64 o.work, .int .i64 o.next, .int .u64 o.val, .slice o.la o.l.length o.lc, .slice o.va o.v.length o.vc] ∧ OpIn W W.heap.size o := by
  obtain ⟨cs, rfl, hsz⟩ := okWide_struct Try.underlying46 hv
  obtain ⟨fuel, hf⟩ := h
  obtain ⟨y, hy, h1⟩ := op_open _ _ _ hf
  have : cs = (encOp y).toArray := by
    rw [← hy]
    simp [Value.cells]
  subst this
  exact ⟨y, rfl, h1⟩
end
end Go.Proofs.Ytmckdoiepmkbbaa
