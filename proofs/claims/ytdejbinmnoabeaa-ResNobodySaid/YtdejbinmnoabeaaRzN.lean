/- Walk of trothlaw15.ResNobody: it answers true. Condition: the call's list reads. -/
import Derived.Test.YtdejbinmnoabeaaRzL
import Derived.Test.YtdejbinmnoabeaaRzH
import Derived.Test.YtdejbinmnoabeaaRzI
namespace Go.Proofs.Ytdejbinmnoabeaa
open Go.RowKit Go.Mine Go.Proofs.YtdejbinmnoabeaaW.PrintWords
set_option linter.unusedVariables false
set_option linter.unusedSimpArgs false
/-- A call's box. -/
def OpBox (w : World) (bx : Nat) (o : ROp) : Prop := w.heap[bx]? = some (.cells #[.int .i64 o.kind, .int .i64 o.work, .int .i64 o.key, .int .u64 o.val, .slice o.la o.l.length o.lc] 34 (0, 0))
theorem OpBox.below {w w' : World} {bx : Nat} {o : ROp} (h : OpBox w bx o) (hb : Below w.heap.size w w') : OpBox w' bx o := (hb.block _ (Q.blk_lt h)).trans h
theorem OpBox.cells {w : World} {bx : Nat} {o : ROp} (h : OpBox w bx o) : w.cell? ⟨bx, 0, none⟩ = some (.int .i64 o.kind) ∧ w.cell? ⟨bx, 1, none⟩ = some (.int .i64 o.work) ∧ w.cell? ⟨bx, 2, none⟩ = some (.int .i64 o.key) ∧ w.cell? ⟨bx, 3, none⟩ = some (.int .u64 o.val) ∧ w.cell? ⟨bx, 4, none⟩ = some (.slice o.la o.l.length o.lc) := by
  refine ⟨?_, ?_, ?_, ?_, ?_⟩
  · rw [cell_of_row w bx 0 _ _ _ h]; rfl
  · rw [cell_of_row w bx 1 _ _ _ h]; rfl
  · rw [cell_of_row w bx 2 _ _ _ h]; rfl
  · rw [cell_of_row w bx 3 _ _ _ h]; rfl
  · rw [cell_of_row w bx 4 _ _ _ h]; rfl
theorem nilAt {w : World} {B : Nat} {A : Option Addr} : ChAt w B A [] := fun i x hx => by simp at hx
theorem nilImg (w : World) (B : Nat) : ImgAt w B (.agg #[.slice none 0 0, .slice none 0 0, .int .i64 0]) ⟨[], [], 0⟩ :=
  ⟨none, 0, none, 0, rfl, fun i x hx => by simp at hx, fun i x hx => by simp at hx, Nat.le_refl _, Nat.le_refl _⟩
set_option maxRecDepth 100000 in
set_option maxHeartbeats 8000000 in
theorem nobody_any (o : ROp) (w : World) (hl : ChAt w w.heap.size o.la o.l) (hlc : o.l.length ≤ o.lc) :
    Calls Try.prog 4 #[.agg #[.int .i64 o.kind, .int .i64 o.work, .int .i64 o.key, .int .u64 o.val, .slice o.la o.l.length o.lc]] w fun e w' => e = .returned (.bool true) ∧ Below w.heap.size w w' := by
  have ba : Below w.heap.size w (w.alloc (.cells #[.int .i64 o.kind, .int .i64 o.work, .int .i64 o.key, .int .u64 o.val, .slice o.la o.l.length o.lc] 34)) := (Below.refl _ _).alloc (Nat.le_refl _) _
  have hbx : OpBox (w.alloc (.cells #[.int .i64 o.kind, .int .i64 o.work, .int .i64 o.key, .int .u64 o.val, .slice o.la o.l.length o.lc] 34)) w.heap.size o := (MapKept.heap_alloc w _).1
  obtain ⟨k0, k1, k2, k3, k4⟩ := hbx.cells
  have HBX := hid hbx
  have HBA := hid ba
  clear hbx ba hl
  go_enter Try.func4, Try.ntmps4
  by_cases h40 : (o.l.length : Int) ≤ 40
  · by_cases hk0 : o.kind < 0
    · go_wp2_with fail
      refine (alive_any _).mono ?_
      rintro e w2 ⟨rfl, f2⟩
      go_wp2_with fail
      go_ret
      exact ⟨rfl, HBA.out.trans (f2.mono HBA.out.size)⟩
    · by_cases hk8 : 8 < o.kind
      · go_wp2_with fail
        refine (alive_any _).mono ?_
        rintro e w2 ⟨rfl, f2⟩
        go_wp2_with fail
        go_ret
        exact ⟨rfl, HBA.out.trans (f2.mono HBA.out.size)⟩
      · go_wp2_with fail
        refine (call_nil o _ (by omega) (by omega)).mono ?_
        rintro e w3 ⟨rfl, f3⟩
        have hbx3 := HBX.out.below f3
        have hb3 := HBA.out.trans (f3.mono HBA.out.size)
        have hb4 : Below w3.heap.size w3 (w3.alloc (.cells #[.int .u64 0, .bool false, .slice none 0 0, .int .i64 6] 37)) := (Below.refl _ _).alloc (Nat.le_refl _) _
        have hx4 : (w3.alloc (.cells #[.int .u64 0, .bool false, .slice none 0 0, .int .i64 6] 37)).heap[w3.heap.size]? = some (.cells #[.int .u64 0, .bool false, .slice none 0 0, .int .i64 6] 37 (0, 0)) := (MapKept.heap_alloc w3 _).1
        have hbx4 := hbx3.below hb4
        have HX4 := hid hx4
        have HBX4 := hid hbx4
        have HB4 := hid (hb3.trans (hb4.mono hb3.size))
        clear f3 hbx3 hb3 hb4 hx4 hbx4 HBX HBA k0 k1 k2 k3 k4
        go_wp2_with fail
        generalize (w3.alloc (.cells #[.int .u64 0, .bool false, .slice none 0 0, .int .i64 6] 37)) = w4 at *
        generalize w3.heap.size = b3 at *
        refine (alive_any _).mono ?_
        rintro e w5 ⟨rfl, f5⟩
        have hx5 := (f5.block _ (Q.blk_lt HX4.out)).trans HX4.out
        have hbx5 := HBX4.out.below f5
        have hb5 := HB4.out.trans (f5.mono HB4.out.size)
        have g0 := cell_of_row w5 b3 0 _ _ _ hx5
        have g1 := cell_of_row w5 b3 1 _ _ _ hx5
        have g2 := cell_of_row w5 b3 2 _ _ _ hx5
        have g3 := cell_of_row w5 b3 3 _ _ _ hx5
        have HB5 := hid hb5
        have HBX5 := hid hbx5
        clear f5 hx5 hbx5 hb5 HX4 HBX4 HB4
        go_wp2_with fail
        refine (same_told (l := []) 0 false 6 nilAt nilAt (by simp)).mono ?_
        rintro e w6 ⟨rfl, f6⟩
        have hbx6 := HBX5.out.below f6
        have hb6 := HB5.out.trans (f6.mono HB5.out.size)
        obtain ⟨i0, i1, i2, i3, i4⟩ := hbx6.cells
        have HB6 := hid hb6
        clear f6 hbx6 hb6 HBX5 HB5 g0 g1 g2 g3
        go_wp2_with fail
        refine (busy_nil _ _).mono ?_
        rintro e w7 ⟨rfl, rfl⟩
        go_wp2_with fail
        refine (image_nil _).mono ?_
        rintro e w8 ⟨rfl, f8⟩
        have hb8 := HB6.out.trans (f8.mono HB6.out.size)
        have HB8 := hid hb8
        clear f8 hb8 HB6 i0 i1 i2 i3 i4
        go_wp2_with fail
        refine (as_any (nilImg w8 _) (by simp)).mono ?_
        rintro e w9 ⟨v9, rfl, hm9, f9⟩
        have hb9 := HB8.out.trans (f9.mono HB8.out.size)
        have HM9 := hid hm9
        have HB9 := hid hb9
        clear f9 hb9 HB8 hm9
        go_wp2_with fail
        refine (sameimg_any HM9.out (nilImg w9 _) (by simp) (by simp)).mono ?_
        rintro e wa ⟨rfl, fa⟩
        go_wp2_with fail
        go_ret
        exact ⟨rfl, HB9.out.trans (fa.mono HB9.out.size)⟩
  · have h40' : 40 < (o.l.length : Int) := by omega
    go_wp2_with fail
    refine (alive_any _).mono ?_
    rintro e w2 ⟨rfl, f2⟩
    go_wp2_with fail
    go_ret
    exact ⟨rfl, HBA.out.trans (f2.mono HBA.out.size)⟩
end Go.Proofs.Ytdejbinmnoabeaa
