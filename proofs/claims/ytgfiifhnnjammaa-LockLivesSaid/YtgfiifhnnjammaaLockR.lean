/- Walk of trothlaw12.LockRefuses: it answers true. Condition: the arguments lie in memory as their lists say. -/
import Derived.Test.YtgfiifhnnjammaaLockI
import Derived.Deep.RegionHeld3
namespace Go.Proofs.Ytgfiifhnnjammaa
open Go.RowKit Go.Mine Go.Proofs.YtgfiifhnnjammaaW.PrintWords
set_option linter.unusedVariables false
set_option linter.unusedSimpArgs false

theorem yielded_undef : yielded.match_1 (fun _ => Option Bool) (some undef) (fun b => some b) (fun _ => none) = none := rfl
theorem takeA_not {A : LTab} {o k : Int} {al : Bool} (hA : Right A) (h : (takeA A o k al).1 ≠ 0) : (takeA A o k al).2 = A ∧ ((takeA A o k al).1 = 120 ∨ (takeA A o k al).1 = 5 ∧ A.length = 64) := by
  unfold takeA at h ⊢
  split
  · exact ⟨rfl, .inl rfl⟩
  · rename_i h1
    rw [if_neg h1] at h
    split
    · rename_i h2
      refine ⟨rfl, .inr ⟨rfl, ?_⟩⟩
      have := hA.len
      simp at h2
      omega
    · rename_i h2
      rw [if_neg h2] at h
      exact absurd rfl h
theorem takeA_held {A : LTab} {o k : Int} {al : Bool} (hA : Right A) (h : (takeA A o k al).1 = 0) : (aget (k, o) (takeA A o k al).2).isSome = true ∧ (((aget (k, o) (takeA A o k al).2).getD false) = true ∨ al = false) := by
  rw [takeA_ok h, aget_put_self _ _ hA.keys]
  refine ⟨rfl, ?_⟩
  cases al <;> simp

theorem _root_.Go.Proofs.Ytgfiifhnnjammaa.Tbl.bound {w : World} {F : Nat → Prop} {b0 : Nat} {A : LTab} (h : Tbl w F b0 A) : Tbl w (fun i => F i ∧ i < w.heap.size) b0 A := by
  obtain ⟨h1, h2, mo, L, h3, mo', h4, h5, h6, h7⟩ := h
  refine ⟨⟨h1, h2⟩, h2, mo, L, h3, mo', h4, h5, h6, fun b hb => ⟨h7 b hb, ?_⟩⟩
  subst hb
  obtain ⟨c, hm⟩ := h6
  exact hm.lt
theorem _root_.Go.Proofs.Ytgfiifhnnjammaa.Tbl.below {w w' : World} {F : Nat → Prop} {b0 : Nat} {A : LTab} (h : Tbl w F b0 A) (hb : Below w.heap.size w w') : Tbl w' F b0 A :=
  h.fr (Fr.of_below hb (Nat.le_refl _)) (fun _ _ q => q)
theorem held_t {w : World} {F : Nat → Prop} {b0 : Nat} {A : LTab} (h : Tbl w F b0 A) (hr : A.length ≤ 1000000) (o : Int) :
    Calls Try.prog 20 #[.pointer (some ⟨b0, 0, none⟩), .int .i64 o] w fun e w' => ∃ A5 c5, e = .returned (.slice A5 (sorted (keysA o A)).length c5) ∧ IntsAt w' w'.heap.size A5 (sorted (keysA o A)) ∧ Below w.heap.size w w' := by
  obtain ⟨hF, hb, mo, ht⟩ := h
  refine (held_A ht hr o).mono ?_
  rintro e w' ⟨v, he, hv, hbl⟩
  obtain ⟨A5, c5, rfl, hi⟩ := intsAt_own hv
  exact ⟨A5, c5, he, hi, hbl⟩
def RfS (w0 : World) (G1 F2 : Nat → Prop) (b1 b2 : Nat) (A0 : LTab) (w' : World) : Prop := Tbl w' G1 b1 A0 ∧ Tbl w' F2 b2 A0 ∧ Below w0.heap.size w0 w'
theorem RfS.step {w0 : World} {G1 F2 : Nat → Prop} {b1 b2 : Nat} {A0 : LTab} {w1 w2 : World} (h : RfS w0 G1 F2 b1 b2 A0 w1) (hb : Below w1.heap.size w1 w2) : RfS w0 G1 F2 b1 b2 A0 w2 :=
  ⟨h.1.below hb, h.2.1.below hb, h.2.2.trans (hb.mono h.2.2.size)⟩
theorem cell_step {w1 w2 : World} {a : Addr} {v : Value} (h : w1.cell? a = some v) (hb : Below w1.heap.size w1 w2) : w2.cell? a = some v := (hb.cell (World.block_lt_of_cell? _ _ h)).trans h
theorem refS_step {w0 : World} {G1 F2 : Nat → Prop} {b1 b2 : Nat} {A0 : LTab} {w1 w2 : World} {a : Addr} {v : Value} (hb : Below w1.heap.size w1 w2) (h : w1.cell? a = some v ∧ RfS w0 G1 F2 b1 b2 A0 w1) : w2.cell? a = some v ∧ RfS w0 G1 F2 b1 b2 A0 w2 :=
  ⟨cell_step h.1 hb, h.2.step hb⟩
theorem bd1 (w : World) : Below w.heap.size w w.drew := ⟨rfl, rfl, rfl, Nat.le_refl _, fun _ _ => rfl⟩
theorem bdn (w : World) (n : Nat) : Below w.heap.size w (w.drewN n) := ⟨rfl, rfl, rfl, Nat.le_refl _, fun _ _ => rfl⟩

attribute [local go_sem] yielded_undef in
set_option maxRecDepth 100000 in
set_option maxHeartbeats 4000000 in
theorem refuses_any (A : Option Addr) (l : List OpT) (cap : Nat) (o : OpT) (w : World) (hl : OpsAt w w.heap.size A l) (hcap : l.length ≤ 1000000000000000000) :
    Calls Try.prog 8 #[.slice A l.length cap, .agg #[.int .i64 o.kind, .int .i64 o.owner, .int .i64 o.key, .bool o.alone]] w fun e w' => e = .returned (.bool true) ∧ Below w.heap.size w w' := by
  go_enter Try.func8, Try.ntmps8
  go_wp2_with fail
  have hb0 : Below w.heap.size w (w.alloc (.cells #[.int .i64 o.kind, .int .i64 o.owner, .int .i64 o.key, .bool o.alone] 40)) := (Below.refl _ _).alloc (Nat.le_refl _) _
  have hx0 : (w.alloc (.cells #[.int .i64 o.kind, .int .i64 o.owner, .int .i64 o.key, .bool o.alone] 40)).heap[w.heap.size]? = some (.cells #[.int .i64 o.kind, .int .i64 o.owner, .int .i64 o.key, .bool o.alone] 40 (0, 0)) := (MapKept.heap_alloc w _).1
  have hs0 : w.heap.size < (w.alloc (.cells #[.int .i64 o.kind, .int .i64 o.owner, .int .i64 o.key, .bool o.alone] 40)).heap.size := by simp
  generalize w.alloc (.cells #[.int .i64 o.kind, .int .i64 o.owner, .int .i64 o.key, .bool o.alone] 40) = wa at *
  refine (played_any A l cap wa _ hb0.size (hl.below hb0) hcap).mono ?_
  rintro e w1 ⟨b1, rfl, t1, f1⟩
  have hR := Right.play l
  have g1 := hb0.trans (f1.mono hb0.size)
  have hx1 := (f1.block _ hs0).trans hx0
  go_wp2_with fail
  refine (played_any A l cap w1 _ g1.size (hl.below g1) hcap).mono ?_
  rintro e w2 ⟨b2, rfl, t2, f2⟩
  generalize playA l = A0 at *
  have g2 := g1.trans (f2.mono g1.size)
  have hx2 := (f2.block _ (Nat.lt_of_lt_of_le hs0 f1.size)).trans hx1
  have T1 := t1.1.bound.below f2
  have T2 := t2.1
  have k0 := cell_of_row w2 _ 1 _ _ _ hx2
  have k1 := cell_of_row w2 _ 2 _ _ _ hx2
  have k2 := cell_of_row w2 _ 3 _ _ _ hx2
  have k0' : w2.cell? ⟨w.heap.size, 1, none⟩ = some (.int .i64 o.owner) := k0
  have k1' : w2.cell? ⟨w.heap.size, 2, none⟩ = some (.int .i64 o.key) := k1
  have k2' : w2.cell? ⟨w.heap.size, 3, none⟩ = some (.bool o.alone) := k2
  clear k0 k1 k2
  go_wp2_with fail
  refine (take_t T1 o.owner o.key o.alone).mono ?_
  rintro e w3 ⟨rfl, T3, f3⟩
  have hx3 := f3.at_ hx2 (by intro q; have := q.1; omega)
  have T2 := T2.fr f3 (by rintro i hi ⟨_, h⟩; exact absurd hi (by omega))
  have g3 : Below w.heap.size w w3 := g2.trans (f3.below g2.size (by rintro k hk ⟨h, _⟩; omega))
  have k0' : w3.cell? ⟨w.heap.size, 1, none⟩ = some (.int .i64 o.owner) := cell_of_row w3 _ 1 _ _ _ hx3
  have k1' : w3.cell? ⟨w.heap.size, 2, none⟩ = some (.int .i64 o.key) := cell_of_row w3 _ 2 _ _ _ hx3
  have k2' : w3.cell? ⟨w.heap.size, 3, none⟩ = some (.bool o.alone) := cell_of_row w3 _ 3 _ _ _ hx3
  clear hx0 hx1 hx2
  go_wp2_with fail
  refine (holds_k T3 o.owner o.key).mono ?_
  rintro e w4 ⟨rfl, rfl⟩
  have hR0 := takeA_held (o := o.owner) (k := o.key) (al := o.alone) hR
  have hN := takeA_not (o := o.owner) (k := o.key) (al := o.alone) hR
  cases h0 : ((takeA A0 o.owner o.key o.alone).1 == 0)
  · have hne : (takeA A0 o.owner o.key o.alone).1 ≠ 0 := by simpa using h0
    obtain ⟨e1, e2⟩ := hN hne
    rw [e1] at T3 ⊢
    generalize (takeA A0 o.owner o.key o.alone).1 = en at *
    have HE := hid e2
    clear hR0 hN e1 e2 hne
    go_wp2_with fail
    refine (holds_k T2 o.owner o.key).mono ?_
    rintro e w4 ⟨rfl, rfl⟩
    have hS : w3.cell? ⟨w.heap.size, 1, none⟩ = some (.int .i64 o.owner) ∧ RfS w _ _ b1 b2 A0 w3 := ⟨k0', T3, T2, g3⟩
    have hlen := hR.len
    have hkl : (sorted (keysA o.owner A0)).length ≤ 1000000 := by
      rw [(sorted_perm _).length_eq, keysA, List.length_map]
      exact Nat.le_trans (List.length_filter_le _ _) (by omega)
    have hG1 : ∃ G : Nat → Prop, G = grow (fun i => wa.heap.size ≤ i ∧ i < w1.heap.size) w2 := ⟨_, rfl⟩
    obtain ⟨G1, hG1⟩ := hG1
    have hF2 : ∃ G : Nat → Prop, G = (fun i => w1.heap.size ≤ i) := ⟨_, rfl⟩
    obtain ⟨F2, hF2⟩ := hF2
    rw [← hG1, ← hF2] at hS
    have hk' : ∀ w', RfS w G1 F2 b1 b2 A0 w' → Calls Try.prog 20 #[.pointer (some ⟨b1, 0, none⟩), .int .i64 o.owner] w' fun e w'' => ∃ A5 c5, e = .returned (.slice A5 (sorted (keysA o.owner A0)).length c5) ∧ IntsAt w'' w''.heap.size A5 (sorted (keysA o.owner A0)) ∧ Below w'.heap.size w' w'' := fun w' h => held_t h.1 (by omega) o.owner
    have hk2' : ∀ w', RfS w G1 F2 b1 b2 A0 w' → Calls Try.prog 20 #[.pointer (some ⟨b2, 0, none⟩), .int .i64 o.owner] w' fun e w'' => ∃ A5 c5, e = .returned (.slice A5 (sorted (keysA o.owner A0)).length c5) ∧ IntsAt w'' w''.heap.size A5 (sorted (keysA o.owner A0)) ∧ Below w'.heap.size w' w'' := fun w' h => held_t h.2.1 (by omega) o.owner
    generalize sorted (keysA o.owner A0) = ks at *
    clear T1 T2 T3 g3 hG1 hF2 k0' k1' k2' f3 hx3 hs0 hb0 f1 f2 t1 t2 g1 g2 hl hcap hR
    have HK1 := hid hk'
    have HK2 := hid hk2'
    clear hk' hk2'
    obtain ⟨q1, hq1⟩ : ∃ q, q = (aget (o.key, o.owner) A0).isSome := ⟨_, rfl⟩
    obtain ⟨q2, hq2⟩ : ∃ q, q = (aget (o.key, o.owner) A0).getD false := ⟨_, rfl⟩
    rw [← hq1, ← hq2]
    clear hq1 hq2
    have d1 : (q1 == q1) = true := by simp
    have d2 : (q2 == q2) = true := by simp
    have d3 : ((A0.length : Int) == (A0.length : Int)) = true := by simp
    cases h120 : (en == 120)
    · have h5 : (en == 5) = true := by
        rcases HE.out with h | h
        · rw [h] at h120; cases h120
        · rw [h.1]; rfl
      have h64 : ((A0.length : Int) == 64) = true := by
        rcases HE.out with h | h
        · rw [h] at h120; cases h120
        · rw [h.2]; rfl
      go_wp2_with fail
      go_region_held3 (fun w' => w'.cell? ⟨w.heap.size, 1, none⟩ = some (.int .i64 o.owner) ∧ RfS w G1 F2 b1 b2 A0 w') (first | exact refS_step (bd1 _) (by assumption) | exact refS_step (bdn _ _) (by assumption) | exact refS_step (by assumption) (by assumption) | assumption) (first
        | (go_at_call 11; refine (alive_any _).mono ?_; rintro e w5 ⟨rfl, f5⟩)
        | (go_at_call_of 13 (Value.pointer (some ⟨b1, 0, none⟩)); refine (len_k (F := G1) (b0 := b1) (A := A0) ((by assumption : _ ∧ RfS w G1 F2 b1 b2 A0 _).2.1)).mono ?_; rintro e w6 ⟨rfl, rfl⟩)
        | (go_at_call_of 13 (Value.pointer (some ⟨b2, 0, none⟩)); refine (len_k (F := F2) (b0 := b2) (A := A0) ((by assumption : _ ∧ RfS w G1 F2 b1 b2 A0 _).2.2.1)).mono ?_; rintro e w6 ⟨rfl, rfl⟩)
        | (go_at_call_of 20 (Value.pointer (some ⟨b1, 0, none⟩)); refine (HK1.out _ ((by assumption : _ ∧ RfS w G1 F2 b1 b2 A0 _).2)).mono ?_; rintro e w7 ⟨A7, c7, rfl, hi7, f7⟩)
        | (go_at_call_of 20 (Value.pointer (some ⟨b2, 0, none⟩)); refine (HK2.out _ ((by assumption : _ ∧ RfS w G1 F2 b1 b2 A0 _).2)).mono ?_; rintro e w8 ⟨A8, c8, rfl, hi8, f8⟩)
        | (go_at_call 19; refine (ints_same _ _ _ _ _ _ (hi7.below f8) hi8 hkl).mono ?_; rintro e w9 ⟨rfl, n9, rfl⟩))
      all_goals
        go_wp2_with fail
        go_ret
        refine ⟨rfl, ?_⟩
        exact ((by assumption : _ ∧ RfS w G1 F2 b1 b2 A0 _).2).2.2
    · go_wp2_with fail
      refine wp_region_held_drew (S := (fun w' => w'.cell? ⟨w.heap.size, 1, none⟩ = some (.int .i64 o.owner) ∧ RfS w G1 F2 b1 b2 A0 w')) (by kernel_rfl) ?_ (fun hHeld => ?_)
      · exact refS_step (bd1 _) hS
      refine wpAnyH_ready (rs := [0]) (by kernel_rfl) (by simp) ?_
      refine AllReadyH.cons (o := { dst := some 56, op := Go.Op.call { callee := Go.Callee.value (Go.Operand.func 11), args := #[], argTypes := #[] }, type := 4, pos := "outright.go:55", after := #[], guard := none }) rfl (fun K hK => ?_) ?_
      rotate_left
      · exact AllReadyH.nil
      go_simp
      refine (alive_any _).mono ?_; rintro e w5 ⟨rfl, f5⟩
      (try go_wp2_with fail)
      refine hK.out _ _ ?_ (fun hHeld => ?_)
      · exact refS_step f5 (by assumption)
      clear hK K
      (try simp only [Act.put, List.setIfInBounds_toArray, List.set_cons_zero, List.set_cons_succ])
      refine wpAnyH_take (i := 1) (oi := { dst := some 57, op := Go.Op.move (Go.Operand.tmp 56), type := 4, pos := "outright.go:55", after := #[{ on := 0, ground := Go.Ground.data }, { on := 0, ground := Go.Ground.chain }], guard := none }) (v := ?_) rfl (by kernel_rfl) (by kernel_rfl) (by kernel_rfl) (fun _ _ _ h => h) (Or.inl ⟨by rfl, ?_⟩) (by assumption) ?_
      rotate_left
      · (intro w hSw; (try dsimp only at hSw); go_simp; first | done | with_reducible rfl)
      (try simp only [Act.put, List.setIfInBounds_toArray, List.set_cons_zero, List.set_cons_succ])
      refine wpAnyH_take (i := 2) (oi := { dst := some 58, op := Go.Op.move (Go.Operand.tmp 7), type := 30, pos := "outright.go:55", after := #[{ on := 1, ground := Go.Ground.guard }], guard := some (1, true) }) (v := ?_) rfl (by kernel_rfl) (by kernel_rfl) (by kernel_rfl) (fun _ _ _ h => h) (Or.inl ⟨by rfl, ?_⟩) (by assumption) ?_
      rotate_left
      · (intro w hSw; (try dsimp only at hSw); go_simp; first | done | with_reducible rfl)
      (try simp only [Act.put, List.setIfInBounds_toArray, List.set_cons_zero, List.set_cons_succ])
      refine wpAnyH_take (i := 3) (oi := { dst := some 59, op := Go.Op.binOp Go.BinOp.eql 30 (Go.Operand.tmp 58) (Go.Operand.const (Go.Value.int Go.IntKind.i64 120)) 30, type := 4, pos := "outright.go:55", after := #[{ on := 2, ground := Go.Ground.data }, { on := 1, ground := Go.Ground.guard }], guard := some (1, true) }) (v := ?_) rfl (by kernel_rfl) (by kernel_rfl) (by kernel_rfl) (fun _ _ _ h => h) (Or.inl ⟨by rfl, ?_⟩) (by assumption) ?_
      rotate_left
      · (intro w hSw; (try dsimp only at hSw); go_simp; first | done | with_reducible rfl)
      (try simp only [Act.put, List.setIfInBounds_toArray, List.set_cons_zero, List.set_cons_succ])
      refine wpAnyH_take (i := 4) (oi := { dst := some 60, op := Go.Op.move (Go.Operand.tmp 59), type := 4, pos := "outright.go:55", after := #[{ on := 3, ground := Go.Ground.data }, { on := 1, ground := Go.Ground.chain }, { on := 1, ground := Go.Ground.guard }], guard := some (1, true) }) (v := ?_) rfl (by kernel_rfl) (by kernel_rfl) (by kernel_rfl) (fun _ _ _ h => h) (Or.inl ⟨by rfl, ?_⟩) (by assumption) ?_
      rotate_left
      · (intro w hSw; (try dsimp only at hSw); go_simp; first | done | with_reducible rfl)
      (try simp only [Act.put, List.setIfInBounds_toArray, List.set_cons_zero, List.set_cons_succ])
      refine wpAnyH_take (i := 5) (oi := { dst := some 61, op := Go.Op.move (Go.Operand.tmp 7), type := 30, pos := "outright.go:55", after := #[{ on := 4, ground := Go.Ground.guard }], guard := some (4, false) }) (v := undef) rfl (by kernel_rfl) (by kernel_rfl) (by kernel_rfl) (fun _ _ _ h => h) (Or.inr ⟨by rfl, rfl⟩) (by assumption) ?_
      (try simp only [Act.put, List.setIfInBounds_toArray, List.set_cons_zero, List.set_cons_succ])
      refine wpAnyH_take (i := 6) (oi := { dst := some 62, op := Go.Op.binOp Go.BinOp.eql 30 (Go.Operand.tmp 61) (Go.Operand.const (Go.Value.int Go.IntKind.i64 5)) 30, type := 4, pos := "outright.go:55", after := #[{ on := 5, ground := Go.Ground.data }, { on := 4, ground := Go.Ground.guard }], guard := some (4, false) }) (v := undef) rfl (by kernel_rfl) (by kernel_rfl) (by kernel_rfl) (fun _ _ _ h => h) (Or.inr ⟨by rfl, rfl⟩) (by assumption) ?_
      (try simp only [Act.put, List.setIfInBounds_toArray, List.set_cons_zero, List.set_cons_succ])
      refine wpAnyH_take (i := 7) (oi := { dst := some 63, op := Go.Op.move (Go.Operand.tmp 62), type := 4, pos := "outright.go:55", after := #[{ on := 6, ground := Go.Ground.data }, { on := 4, ground := Go.Ground.chain }, { on := 4, ground := Go.Ground.guard }], guard := some (4, false) }) (v := undef) rfl (by kernel_rfl) (by kernel_rfl) (by kernel_rfl) (fun _ _ _ h => h) (Or.inr ⟨by rfl, rfl⟩) (by assumption) ?_
      (try simp only [Act.put, List.setIfInBounds_toArray, List.set_cons_zero, List.set_cons_succ])
      refine wpAnyH_take (i := 8) (oi := { dst := some 64, op := Go.Op.move (Go.Operand.tmp 5), type := 24, pos := "outright.go:55", after := #[{ on := 7, ground := Go.Ground.guard }], guard := some (7, true) }) (v := undef) rfl (by kernel_rfl) (by kernel_rfl) (by kernel_rfl) (fun _ _ _ h => h) (Or.inr ⟨by rfl, rfl⟩) (by assumption) ?_
      (try simp only [Act.put, List.setIfInBounds_toArray, List.set_cons_zero, List.set_cons_succ])
      refine wpAnyH_take (i := 9) (oi := { dst := some 65, op := Go.Op.call { callee := Go.Callee.value (Go.Operand.func 13), args := #[Go.Operand.tmp 64], argTypes := #[24] }, type := 3, pos := "outright.go:55", after := #[{ on := 8, ground := Go.Ground.data }, { on := 7, ground := Go.Ground.chain }, { on := 7, ground := Go.Ground.guard }], guard := some (7, true) }) (v := undef) rfl (by kernel_rfl) (by kernel_rfl) (by kernel_rfl) (fun _ _ _ h => h) (Or.inr ⟨by rfl, rfl⟩) (by assumption) ?_
      (try simp only [Act.put, List.setIfInBounds_toArray, List.set_cons_zero, List.set_cons_succ])
      refine wpAnyH_take (i := 10) (oi := { dst := some 66, op := Go.Op.binOp Go.BinOp.eql 3 (Go.Operand.tmp 65) (Go.Operand.const (Go.Value.int Go.IntKind.i64 64)) 3, type := 4, pos := "outright.go:55", after := #[{ on := 9, ground := Go.Ground.data }, { on := 7, ground := Go.Ground.guard }], guard := some (7, true) }) (v := undef) rfl (by kernel_rfl) (by kernel_rfl) (by kernel_rfl) (fun _ _ _ h => h) (Or.inr ⟨by rfl, rfl⟩) (by assumption) ?_
      (try simp only [Act.put, List.setIfInBounds_toArray, List.set_cons_zero, List.set_cons_succ])
      refine wpAnyH_take (i := 11) (oi := { dst := some 67, op := Go.Op.pick (Go.Operand.tmp 63) (Go.Operand.tmp 66) (Go.Operand.const (Go.Value.bool false)), type := 4, pos := "outright.go:55", after := #[{ on := 7, ground := Go.Ground.data }, { on := 10, ground := Go.Ground.data }, { on := 4, ground := Go.Ground.guard }], guard := some (4, false) }) (v := undef) rfl (by kernel_rfl) (by kernel_rfl) (by kernel_rfl) (fun _ _ _ h => h) (Or.inr ⟨by rfl, rfl⟩) (by assumption) ?_
      (try simp only [Act.put, List.setIfInBounds_toArray, List.set_cons_zero, List.set_cons_succ])
      refine wpAnyH_take (i := 12) (oi := { dst := some 68, op := Go.Op.pick (Go.Operand.tmp 60) (Go.Operand.const (Go.Value.bool true)) (Go.Operand.tmp 67), type := 4, pos := "outright.go:55", after := #[{ on := 4, ground := Go.Ground.data }, { on := 11, ground := Go.Ground.data }, { on := 1, ground := Go.Ground.guard }], guard := some (1, true) }) (v := ?_) rfl (by kernel_rfl) (by kernel_rfl) (by kernel_rfl) (fun _ _ _ h => h) (Or.inl ⟨by rfl, ?_⟩) (by assumption) ?_
      rotate_left
      · (intro w hSw; (try dsimp only at hSw); go_simp; first | done | with_reducible rfl)
      (try simp only [Act.put, List.setIfInBounds_toArray, List.set_cons_zero, List.set_cons_succ])
      refine wpAnyH_take (i := 13) (oi := { dst := some 69, op := Go.Op.pick (Go.Operand.tmp 57) (Go.Operand.tmp 68) (Go.Operand.const (Go.Value.bool false)), type := 4, pos := "outright.go:55", after := #[{ on := 1, ground := Go.Ground.data }, { on := 12, ground := Go.Ground.data }], guard := none }) (v := ?_) rfl (by kernel_rfl) (by kernel_rfl) (by kernel_rfl) (fun _ _ _ h => h) (Or.inl ⟨by rfl, ?_⟩) (by assumption) ?_
      rotate_left
      · (intro w hSw; (try dsimp only at hSw); go_simp; first | done | with_reducible rfl)
      (try simp only [Act.put, List.setIfInBounds_toArray, List.set_cons_zero, List.set_cons_succ])
      refine wpAnyH_take (i := 14) (oi := { dst := some 70, op := Go.Op.move (Go.Operand.tmp 69), type := 4, pos := "outright.go:55", after := #[{ on := 13, ground := Go.Ground.data }, { on := 9, ground := Go.Ground.chain }], guard := none }) (v := ?_) rfl (by kernel_rfl) (by kernel_rfl) (by kernel_rfl) (fun _ _ _ h => h) (Or.inl ⟨by rfl, ?_⟩) (by assumption) ?_
      rotate_left
      · (intro w hSw; (try dsimp only at hSw); go_simp; first | done | with_reducible rfl)
      (try simp only [Act.put, List.setIfInBounds_toArray, List.set_cons_zero, List.set_cons_succ])
      refine wpAnyH_take (i := 15) (oi := { dst := some 71, op := Go.Op.move (Go.Operand.tmp 8), type := 4, pos := "outright.go:55", after := #[{ on := 14, ground := Go.Ground.guard }], guard := some (14, true) }) (v := ?_) rfl (by kernel_rfl) (by kernel_rfl) (by kernel_rfl) (fun _ _ _ h => h) (Or.inl ⟨by rfl, ?_⟩) (by assumption) ?_
      rotate_left
      · (intro w hSw; (try dsimp only at hSw); go_simp; first | done | with_reducible rfl)
      (try simp only [Act.put, List.setIfInBounds_toArray, List.set_cons_zero, List.set_cons_succ])
      refine wpAnyH_take (i := 16) (oi := { dst := some 72, op := Go.Op.move (Go.Operand.tmp 10), type := 4, pos := "outright.go:55", after := #[{ on := 14, ground := Go.Ground.guard }], guard := some (14, true) }) (v := ?_) rfl (by kernel_rfl) (by kernel_rfl) (by kernel_rfl) (fun _ _ _ h => h) (Or.inl ⟨by rfl, ?_⟩) (by assumption) ?_
      rotate_left
      · (intro w hSw; (try dsimp only at hSw); go_simp; first | done | with_reducible rfl)
      (try simp only [Act.put, List.setIfInBounds_toArray, List.set_cons_zero, List.set_cons_succ])
      refine wpAnyH_take (i := 17) (oi := { dst := some 73, op := Go.Op.binOp Go.BinOp.eql 4 (Go.Operand.tmp 71) (Go.Operand.tmp 72) 4, type := 4, pos := "outright.go:55", after := #[{ on := 15, ground := Go.Ground.data }, { on := 16, ground := Go.Ground.data }, { on := 14, ground := Go.Ground.guard }], guard := some (14, true) }) (v := ?_) rfl (by kernel_rfl) (by kernel_rfl) (by kernel_rfl) (fun _ _ _ h => h) (Or.inl ⟨by rfl, ?_⟩) (by assumption) ?_
      rotate_left
      · (intro w hSw; (try dsimp only at hSw); go_simp; first | done | with_reducible rfl)
      (try simp only [Act.put, List.setIfInBounds_toArray, List.set_cons_zero, List.set_cons_succ])
      refine wpAnyH_take (i := 18) (oi := { dst := some 74, op := Go.Op.pick (Go.Operand.tmp 70) (Go.Operand.tmp 73) (Go.Operand.const (Go.Value.bool false)), type := 4, pos := "outright.go:55", after := #[{ on := 14, ground := Go.Ground.data }, { on := 17, ground := Go.Ground.data }], guard := none }) (v := ?_) rfl (by kernel_rfl) (by kernel_rfl) (by kernel_rfl) (fun _ _ _ h => h) (Or.inl ⟨by rfl, ?_⟩) (by assumption) ?_
      rotate_left
      · (intro w hSw; (try dsimp only at hSw); go_simp; first | done | with_reducible rfl)
      (try simp only [Act.put, List.setIfInBounds_toArray, List.set_cons_zero, List.set_cons_succ])
      refine wpAnyH_take (i := 19) (oi := { dst := some 75, op := Go.Op.move (Go.Operand.tmp 74), type := 4, pos := "outright.go:55", after := #[{ on := 18, ground := Go.Ground.data }, { on := 14, ground := Go.Ground.chain }], guard := none }) (v := ?_) rfl (by kernel_rfl) (by kernel_rfl) (by kernel_rfl) (fun _ _ _ h => h) (Or.inl ⟨by rfl, ?_⟩) (by assumption) ?_
      rotate_left
      · (intro w hSw; (try dsimp only at hSw); go_simp; first | done | with_reducible rfl)
      (try simp only [Act.put, List.setIfInBounds_toArray, List.set_cons_zero, List.set_cons_succ])
      refine wpAnyH_take (i := 20) (oi := { dst := some 76, op := Go.Op.move (Go.Operand.tmp 9), type := 4, pos := "outright.go:55", after := #[{ on := 19, ground := Go.Ground.guard }], guard := some (19, true) }) (v := ?_) rfl (by kernel_rfl) (by kernel_rfl) (by kernel_rfl) (fun _ _ _ h => h) (Or.inl ⟨by rfl, ?_⟩) (by assumption) ?_
      rotate_left
      · (intro w hSw; (try dsimp only at hSw); go_simp; first | done | with_reducible rfl)
      (try simp only [Act.put, List.setIfInBounds_toArray, List.set_cons_zero, List.set_cons_succ])
      refine wpAnyH_take (i := 21) (oi := { dst := some 77, op := Go.Op.move (Go.Operand.tmp 11), type := 4, pos := "outright.go:55", after := #[{ on := 19, ground := Go.Ground.guard }], guard := some (19, true) }) (v := ?_) rfl (by kernel_rfl) (by kernel_rfl) (by kernel_rfl) (fun _ _ _ h => h) (Or.inl ⟨by rfl, ?_⟩) (by assumption) ?_
      rotate_left
      · (intro w hSw; (try dsimp only at hSw); go_simp; first | done | with_reducible rfl)
      (try simp only [Act.put, List.setIfInBounds_toArray, List.set_cons_zero, List.set_cons_succ])
      refine wpAnyH_take (i := 22) (oi := { dst := some 78, op := Go.Op.binOp Go.BinOp.eql 4 (Go.Operand.tmp 76) (Go.Operand.tmp 77) 4, type := 4, pos := "outright.go:55", after := #[{ on := 20, ground := Go.Ground.data }, { on := 21, ground := Go.Ground.data }, { on := 19, ground := Go.Ground.guard }], guard := some (19, true) }) (v := ?_) rfl (by kernel_rfl) (by kernel_rfl) (by kernel_rfl) (fun _ _ _ h => h) (Or.inl ⟨by rfl, ?_⟩) (by assumption) ?_
      rotate_left
      · (intro w hSw; (try dsimp only at hSw); go_simp; first | done | with_reducible rfl)
      (try simp only [Act.put, List.setIfInBounds_toArray, List.set_cons_zero, List.set_cons_succ])
      refine wpAnyH_take (i := 23) (oi := { dst := some 79, op := Go.Op.pick (Go.Operand.tmp 75) (Go.Operand.tmp 78) (Go.Operand.const (Go.Value.bool false)), type := 4, pos := "outright.go:55", after := #[{ on := 19, ground := Go.Ground.data }, { on := 22, ground := Go.Ground.data }], guard := none }) (v := ?_) rfl (by kernel_rfl) (by kernel_rfl) (by kernel_rfl) (fun _ _ _ h => h) (Or.inl ⟨by rfl, ?_⟩) (by assumption) ?_
      rotate_left
      · (intro w hSw; (try dsimp only at hSw); go_simp; first | done | with_reducible rfl)
      (try simp only [Act.put, List.setIfInBounds_toArray, List.set_cons_zero, List.set_cons_succ])
      refine wpAnyH_take (i := 24) (oi := { dst := some 80, op := Go.Op.move (Go.Operand.tmp 79), type := 4, pos := "outright.go:55", after := #[{ on := 23, ground := Go.Ground.data }, { on := 19, ground := Go.Ground.chain }], guard := none }) (v := ?_) rfl (by kernel_rfl) (by kernel_rfl) (by kernel_rfl) (fun _ _ _ h => h) (Or.inl ⟨by rfl, ?_⟩) (by assumption) ?_
      rotate_left
      · (intro w hSw; (try dsimp only at hSw); go_simp; first | done | with_reducible rfl)
      (try simp only [Act.put, List.setIfInBounds_toArray, List.set_cons_zero, List.set_cons_succ])
      refine wpAnyH_take (i := 25) (oi := { dst := some 81, op := Go.Op.move (Go.Operand.tmp 5), type := 24, pos := "outright.go:55", after := #[{ on := 24, ground := Go.Ground.guard }], guard := some (24, true) }) (v := ?_) rfl (by kernel_rfl) (by kernel_rfl) (by kernel_rfl) (fun _ _ _ h => h) (Or.inl ⟨by rfl, ?_⟩) (by assumption) ?_
      rotate_left
      · (intro w hSw; (try dsimp only at hSw); go_simp; first | done | with_reducible rfl)
      (try simp only [Act.put, List.setIfInBounds_toArray, List.set_cons_zero, List.set_cons_succ])
      refine wpAnyH_take (i := 27) (oi := { dst := some 83, op := Go.Op.move (Go.Operand.tmp 6), type := 24, pos := "outright.go:55", after := #[{ on := 24, ground := Go.Ground.guard }], guard := some (24, true) }) (v := ?_) rfl (by kernel_rfl) (by kernel_rfl) (by kernel_rfl) (fun _ _ _ h => h) (Or.inl ⟨by rfl, ?_⟩) (by assumption) ?_
      rotate_left
      · (intro w hSw; (try dsimp only at hSw); go_simp; first | done | with_reducible rfl)
      (try simp only [Act.put, List.setIfInBounds_toArray, List.set_cons_zero, List.set_cons_succ])
      refine wpAnyH_ready (rs := [26]) (by kernel_rfl) (by simp) ?_
      refine AllReadyH.cons (o := { dst := some 82, op := Go.Op.call { callee := Go.Callee.value (Go.Operand.func 13), args := #[Go.Operand.tmp 81], argTypes := #[24] }, type := 3, pos := "outright.go:55", after := #[{ on := 25, ground := Go.Ground.data }, { on := 24, ground := Go.Ground.chain }, { on := 24, ground := Go.Ground.guard }], guard := some (24, true) }) rfl (fun K hK => ?_) ?_
      rotate_left
      · exact AllReadyH.nil
      go_simp
      refine (len_k (F := G1) (b0 := b1) (A := A0) ((by assumption : _ ∧ RfS w G1 F2 b1 b2 A0 _).2.1)).mono ?_; rintro e w6 ⟨rfl, rfl⟩
      (try go_wp2_with fail)
      refine hK.out _ _ ?_ (fun hHeld => ?_)
      · assumption
      clear hK K
      (try simp only [Act.put, List.setIfInBounds_toArray, List.set_cons_zero, List.set_cons_succ])
      refine wpAnyH_ready (rs := [28]) (by kernel_rfl) (by simp) ?_
      refine AllReadyH.cons (o := { dst := some 84, op := Go.Op.call { callee := Go.Callee.value (Go.Operand.func 13), args := #[Go.Operand.tmp 83], argTypes := #[24] }, type := 3, pos := "outright.go:55", after := #[{ on := 27, ground := Go.Ground.data }, { on := 26, ground := Go.Ground.chain }, { on := 24, ground := Go.Ground.guard }], guard := some (24, true) }) rfl (fun K hK => ?_) ?_
      rotate_left
      · exact AllReadyH.nil
      go_simp
      refine (len_k (F := F2) (b0 := b2) (A := A0) ((by assumption : _ ∧ RfS w G1 F2 b1 b2 A0 _).2.2.1)).mono ?_; rintro e w6 ⟨rfl, rfl⟩
      (try go_wp2_with fail)
      refine hK.out _ _ ?_ (fun hHeld => ?_)
      · assumption
      clear hK K
      (try simp only [Act.put, List.setIfInBounds_toArray, List.set_cons_zero, List.set_cons_succ])
      refine wpAnyH_take (i := 29) (oi := { dst := some 85, op := Go.Op.binOp Go.BinOp.eql 3 (Go.Operand.tmp 82) (Go.Operand.tmp 84) 3, type := 4, pos := "outright.go:55", after := #[{ on := 26, ground := Go.Ground.data }, { on := 28, ground := Go.Ground.data }, { on := 24, ground := Go.Ground.guard }], guard := some (24, true) }) (v := ?_) rfl (by kernel_rfl) (by kernel_rfl) (by kernel_rfl) (fun _ _ _ h => h) (Or.inl ⟨by rfl, ?_⟩) (by assumption) ?_
      rotate_left
      · (intro w hSw; (try dsimp only at hSw); go_simp; first | done | with_reducible rfl)
      (try simp only [Act.put, List.setIfInBounds_toArray, List.set_cons_zero, List.set_cons_succ])
      refine wpAnyH_take (i := 30) (oi := { dst := some 86, op := Go.Op.pick (Go.Operand.tmp 80) (Go.Operand.tmp 85) (Go.Operand.const (Go.Value.bool false)), type := 4, pos := "outright.go:55", after := #[{ on := 24, ground := Go.Ground.data }, { on := 29, ground := Go.Ground.data }], guard := none }) (v := ?_) rfl (by kernel_rfl) (by kernel_rfl) (by kernel_rfl) (fun _ _ _ h => h) (Or.inl ⟨by rfl, ?_⟩) (by assumption) ?_
      rotate_left
      · (intro w hSw; (try dsimp only at hSw); go_simp; first | done | with_reducible rfl)
      (try simp only [Act.put, List.setIfInBounds_toArray, List.set_cons_zero, List.set_cons_succ])
      refine wpAnyH_take (i := 31) (oi := { dst := some 87, op := Go.Op.move (Go.Operand.tmp 86), type := 4, pos := "outright.go:55", after := #[{ on := 30, ground := Go.Ground.data }, { on := 28, ground := Go.Ground.chain }], guard := none }) (v := ?_) rfl (by kernel_rfl) (by kernel_rfl) (by kernel_rfl) (fun _ _ _ h => h) (Or.inl ⟨by rfl, ?_⟩) (by assumption) ?_
      rotate_left
      · (intro w hSw; (try dsimp only at hSw); go_simp; first | done | with_reducible rfl)
      (try simp only [Act.put, List.setIfInBounds_toArray, List.set_cons_zero, List.set_cons_succ])
      refine wpAnyH_take (i := 32) (oi := { dst := some 88, op := Go.Op.move (Go.Operand.tmp 5), type := 24, pos := "outright.go:55", after := #[{ on := 31, ground := Go.Ground.guard }], guard := some (31, true) }) (v := ?_) rfl (by kernel_rfl) (by kernel_rfl) (by kernel_rfl) (fun _ _ _ h => h) (Or.inl ⟨by rfl, ?_⟩) (by assumption) ?_
      rotate_left
      · (intro w hSw; (try dsimp only at hSw); go_simp; first | done | with_reducible rfl)
      (try simp only [Act.put, List.setIfInBounds_toArray, List.set_cons_zero, List.set_cons_succ])
      refine wpAnyH_take (i := 33) (oi := { dst := some 89, op := Go.Op.fieldAddr 40 (Go.Operand.tmp 3) 1, type := 0, pos := "outright.go:55", after := #[{ on := 31, ground := Go.Ground.guard }], guard := some (31, true) }) (v := ?_) rfl (by kernel_rfl) (by kernel_rfl) (by kernel_rfl) (fun _ _ _ h => h) (Or.inl ⟨by rfl, ?_⟩) (by assumption) ?_
      rotate_left
      · (intro w hSw; (try dsimp only at hSw); go_simp; first | done | with_reducible rfl)
      (try simp only [Act.put, List.setIfInBounds_toArray, List.set_cons_zero, List.set_cons_succ])
      refine wpAnyH_take (i := 34) (oi := { dst := some 90, op := Go.Op.load 3 (Go.Operand.tmp 89), type := 3, pos := "outright.go:55", after := #[{ on := 33, ground := Go.Ground.data }, { on := 31, ground := Go.Ground.guard }], guard := some (31, true) }) (v := ?_) rfl (by kernel_rfl) (by kernel_rfl) (by kernel_rfl) (fun _ _ _ h => h) (Or.inl ⟨by rfl, ?_⟩) (by assumption) ?_
      rotate_left
      · (intro w hSw; (try dsimp only at hSw); go_simp; first | done | with_reducible rfl)
      (try simp only [Act.put, List.setIfInBounds_toArray, List.set_cons_zero, List.set_cons_succ])
      refine wpAnyH_take (i := 36) (oi := { dst := some 92, op := Go.Op.move (Go.Operand.tmp 6), type := 24, pos := "outright.go:55", after := #[{ on := 31, ground := Go.Ground.guard }], guard := some (31, true) }) (v := ?_) rfl (by kernel_rfl) (by kernel_rfl) (by kernel_rfl) (fun _ _ _ h => h) (Or.inl ⟨by rfl, ?_⟩) (by assumption) ?_
      rotate_left
      · (intro w hSw; (try dsimp only at hSw); go_simp; first | done | with_reducible rfl)
      (try simp only [Act.put, List.setIfInBounds_toArray, List.set_cons_zero, List.set_cons_succ])
      refine wpAnyH_take (i := 37) (oi := { dst := some 93, op := Go.Op.fieldAddr 40 (Go.Operand.tmp 3) 1, type := 0, pos := "outright.go:55", after := #[{ on := 31, ground := Go.Ground.guard }], guard := some (31, true) }) (v := ?_) rfl (by kernel_rfl) (by kernel_rfl) (by kernel_rfl) (fun _ _ _ h => h) (Or.inl ⟨by rfl, ?_⟩) (by assumption) ?_
      rotate_left
      · (intro w hSw; (try dsimp only at hSw); go_simp; first | done | with_reducible rfl)
      (try simp only [Act.put, List.setIfInBounds_toArray, List.set_cons_zero, List.set_cons_succ])
      refine wpAnyH_take (i := 38) (oi := { dst := some 94, op := Go.Op.load 3 (Go.Operand.tmp 93), type := 3, pos := "outright.go:55", after := #[{ on := 37, ground := Go.Ground.data }, { on := 31, ground := Go.Ground.guard }], guard := some (31, true) }) (v := ?_) rfl (by kernel_rfl) (by kernel_rfl) (by kernel_rfl) (fun _ _ _ h => h) (Or.inl ⟨by rfl, ?_⟩) (by assumption) ?_
      rotate_left
      · (intro w hSw; (try dsimp only at hSw); go_simp; first | done | with_reducible rfl)
      (try simp only [Act.put, List.setIfInBounds_toArray, List.set_cons_zero, List.set_cons_succ])
      refine wpAnyH_ready (rs := [35]) (by kernel_rfl) (by simp) ?_
      refine AllReadyH.cons (o := { dst := some 91, op := Go.Op.call { callee := Go.Callee.value (Go.Operand.func 20), args := #[Go.Operand.tmp 88, Go.Operand.tmp 90], argTypes := #[24, 3] }, type := 23, pos := "outright.go:55", after := #[{ on := 32, ground := Go.Ground.data }, { on := 34, ground := Go.Ground.data }, { on := 31, ground := Go.Ground.chain }, { on := 31, ground := Go.Ground.guard }], guard := some (31, true) }) rfl (fun K hK => ?_) ?_
      rotate_left
      · exact AllReadyH.nil
      go_simp
      refine (HK1.out _ ((by assumption : _ ∧ RfS w G1 F2 b1 b2 A0 _).2)).mono ?_; rintro e w7 ⟨A7, c7, rfl, hi7, f7⟩
      (try go_wp2_with fail)
      refine hK.out _ _ ?_ (fun hHeld => ?_)
      · exact refS_step f7 (by assumption)
      clear hK K
      (try simp only [Act.put, List.setIfInBounds_toArray, List.set_cons_zero, List.set_cons_succ])
      refine wpAnyH_ready (rs := [39]) (by kernel_rfl) (by simp) ?_
      refine AllReadyH.cons (o := { dst := some 95, op := Go.Op.call { callee := Go.Callee.value (Go.Operand.func 20), args := #[Go.Operand.tmp 92, Go.Operand.tmp 94], argTypes := #[24, 3] }, type := 23, pos := "outright.go:55", after := #[{ on := 36, ground := Go.Ground.data }, { on := 38, ground := Go.Ground.data }, { on := 35, ground := Go.Ground.chain }, { on := 31, ground := Go.Ground.guard }], guard := some (31, true) }) rfl (fun K hK => ?_) ?_
      rotate_left
      · exact AllReadyH.nil
      go_simp
      refine (HK2.out _ ((by assumption : _ ∧ RfS w G1 F2 b1 b2 A0 _).2)).mono ?_; rintro e w8 ⟨A8, c8, rfl, hi8, f8⟩
      (try go_wp2_with fail)
      refine hK.out _ _ ?_ (fun hHeld => ?_)
      · exact refS_step f8 (by assumption)
      clear hK K
      (try simp only [Act.put, List.setIfInBounds_toArray, List.set_cons_zero, List.set_cons_succ])
      refine wpAnyH_ready (rs := [40]) (by kernel_rfl) (by simp) ?_
      refine AllReadyH.cons (o := { dst := some 96, op := Go.Op.call { callee := Go.Callee.value (Go.Operand.func 19), args := #[Go.Operand.tmp 91, Go.Operand.tmp 95], argTypes := #[23, 23] }, type := 4, pos := "outright.go:55", after := #[{ on := 35, ground := Go.Ground.data }, { on := 39, ground := Go.Ground.data }, { on := 39, ground := Go.Ground.chain }, { on := 31, ground := Go.Ground.guard }], guard := some (31, true) }) rfl (fun K hK => ?_) ?_
      rotate_left
      · exact AllReadyH.nil
      go_simp
      refine (ints_same _ _ _ _ _ _ (hi7.below f8) hi8 hkl).mono ?_; rintro e w9 ⟨rfl, n9, rfl⟩
      (try go_wp2_with fail)
      refine hK.out _ _ ?_ (fun hHeld => ?_)
      · exact refS_step (bdn _ _) (by assumption)
      clear hK K
      (try simp only [Act.put, List.setIfInBounds_toArray, List.set_cons_zero, List.set_cons_succ])
      refine wpAnyH_take (i := 41) (oi := { dst := some 97, op := Go.Op.pick (Go.Operand.tmp 87) (Go.Operand.tmp 96) (Go.Operand.const (Go.Value.bool false)), type := 4, pos := "outright.go:55", after := #[{ on := 31, ground := Go.Ground.data }, { on := 40, ground := Go.Ground.data }], guard := none }) (v := ?_) rfl (by kernel_rfl) (by kernel_rfl) (by kernel_rfl) (fun _ _ _ h => h) (Or.inl ⟨by rfl, ?_⟩) (by assumption) ?_
      rotate_left
      · (intro w hSw; (try dsimp only at hSw); go_simp; first | done | with_reducible rfl)
      (try simp only [Act.put, List.setIfInBounds_toArray, List.set_cons_zero, List.set_cons_succ])
      refine wpAnyH_take (i := 42) (oi := { dst := some 4, op := Go.Op.assign (Go.Operand.tmp 97), type := 4, pos := "outright.go:55", after := #[{ on := 41, ground := Go.Ground.data }, { on := 40, ground := Go.Ground.chain }, { on := 0, ground := Go.Ground.phase }, { on := 1, ground := Go.Ground.phase }, { on := 2, ground := Go.Ground.phase }, { on := 3, ground := Go.Ground.phase }, { on := 4, ground := Go.Ground.phase }, { on := 5, ground := Go.Ground.phase }, { on := 6, ground := Go.Ground.phase }, { on := 7, ground := Go.Ground.phase }, { on := 8, ground := Go.Ground.phase }, { on := 9, ground := Go.Ground.phase }, { on := 10, ground := Go.Ground.phase }, { on := 11, ground := Go.Ground.phase }, { on := 12, ground := Go.Ground.phase }, { on := 13, ground := Go.Ground.phase }, { on := 14, ground := Go.Ground.phase }, { on := 15, ground := Go.Ground.phase }, { on := 16, ground := Go.Ground.phase }, { on := 17, ground := Go.Ground.phase }, { on := 18, ground := Go.Ground.phase }, { on := 19, ground := Go.Ground.phase }, { on := 20, ground := Go.Ground.phase }, { on := 21, ground := Go.Ground.phase }, { on := 22, ground := Go.Ground.phase }, { on := 23, ground := Go.Ground.phase }, { on := 24, ground := Go.Ground.phase }, { on := 25, ground := Go.Ground.phase }, { on := 26, ground := Go.Ground.phase }, { on := 27, ground := Go.Ground.phase }, { on := 28, ground := Go.Ground.phase }, { on := 29, ground := Go.Ground.phase }, { on := 30, ground := Go.Ground.phase }, { on := 31, ground := Go.Ground.phase }, { on := 32, ground := Go.Ground.phase }, { on := 33, ground := Go.Ground.phase }, { on := 34, ground := Go.Ground.phase }, { on := 35, ground := Go.Ground.phase }, { on := 36, ground := Go.Ground.phase }, { on := 37, ground := Go.Ground.phase }, { on := 38, ground := Go.Ground.phase }, { on := 39, ground := Go.Ground.phase }, { on := 40, ground := Go.Ground.phase }, { on := 41, ground := Go.Ground.phase }], guard := none }) (v := ?_) rfl (by kernel_rfl) (by kernel_rfl) (by kernel_rfl) (fun _ _ _ h => h) (Or.inl ⟨by rfl, ?_⟩) (by assumption) ?_
      rotate_left
      · (intro w hSw; (try dsimp only at hSw); go_simp; first | done | with_reducible rfl)
      (try simp only [Act.put, List.setIfInBounds_toArray, List.set_cons_zero, List.set_cons_succ])
      refine wpAnyH_done (by kernel_rfl) ?_ _
      go_wp2_with fail
      go_ret
      exact ⟨rfl, ((by assumption : _ ∧ RfS w G1 F2 b1 b2 A0 _).2).2.2⟩
  · have h00 : (takeA A0 o.owner o.key o.alone).1 = 0 := by simpa using h0
    obtain ⟨e1, e2⟩ := hR0 h00
    have HE := hid e2
    generalize (takeA A0 o.owner o.key o.alone).1 = en at *
    generalize (aget (o.key, o.owner) (takeA A0 o.owner o.key o.alone).2).isSome = hs at *
    generalize (aget (o.key, o.owner) (takeA A0 o.owner o.key o.alone).2).getD false = hg at *
    subst e1
    subst h00
    clear e2 hR0 hN
    go_wp2_with fail
    refine (alive_any w3).mono ?_
    rintro e w5 ⟨rfl, f5⟩
    have k2' := cell_step k2' f5
    have g5 := g3.trans (f5.mono g3.size)
    cases hg
    · have ho : o.alone = false := HE.out.resolve_left (by simp)
      rw [ho] at k2'
      go_wp2_with fail
      go_ret
      exact ⟨rfl, g5⟩
    · go_wp2_with fail
      go_ret
      exact ⟨rfl, g5⟩
end Go.Proofs.Ytgfiifhnnjammaa
