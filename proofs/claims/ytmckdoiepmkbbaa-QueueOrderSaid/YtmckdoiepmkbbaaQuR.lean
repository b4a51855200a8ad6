/- Walk of trothlaw14.QueueOrder: it answers true. Condition: the values' slice reads as its list. -/
import Derived.Test.YtmckdoiepmkbbaaQuQ
namespace Go.Mine
set_option linter.unusedVariables false
set_option linter.unusedSimpArgs false
def markI (n : Int) (x : It) : It := ⟨x.num, x.val, n⟩
/-- The queue when i items of the load have been taken by work 1. -/
def ordS (vals : List Int) (next : Int) (i : Nat) : QS :=
  ⟨mixI (markI 1) (loadI vals next) i, if i = 0 then [] else [(1, ⟨((loadI vals next).take i).map (fun x => (⟨4, x.num, x.val⟩ : Ch)), false⟩)], next - 1⟩
theorem loadI_get {vals : List Int} {next : Int} {i : Nat} {y : Int} (hy : vals[i]? = some y) : (loadI vals next)[i]? = some ⟨next - vals.length + i, y, 0⟩ := by
  have h1 := (List.getElem?_eq_some_iff.1 hy).1
  unfold loadI
  rw [List.getElem?_map, List.getElem?_range h1]
  simp [List.getD_eq_getElem?_getD, hy]
theorem loadI_by {vals : List Int} {next : Int} {x : It} (hx : x ∈ loadI vals next) : x.by_ = 0 := by
  unfold loadI at hx
  obtain ⟨i, _, rfl⟩ := List.mem_map.1 hx
  rfl
theorem loadI_vals (vals : List Int) (next : Int) : (loadI vals next).map (·.val) = vals := by
  apply List.ext_getElem?
  intro i
  cases hy : vals[i]? with
  | none =>
    have := List.getElem?_eq_none_iff.1 hy
    rw [List.getElem?_eq_none_iff, List.length_map, loadI_len]
    exact this
  | some y =>
    rw [List.getElem?_map, loadI_get hy]
    rfl
theorem mix_find {vals : List Int} {next : Int} {i : Nat} (hi : i ≤ vals.length) : (mixI (markI 1) (loadI vals next) i).findIdx? (fun x => x.by_ != 1) = if i < vals.length then some i else none := by
  have hl := mixI_len (markI 1) (loadI vals next) i
  rw [loadI_len] at hl
  have hpre : ∀ j, j < i → ∀ y, (mixI (markI 1) (loadI vals next) i)[j]? = some y → y.by_ = 1 := by
    intro j hj y hy
    unfold mixI at hy
    rw [List.getElem?_append_left (by simp [loadI_len]; omega), List.getElem?_map, List.getElem?_take_of_lt hj] at hy
    cases hq : (loadI vals next)[j]? with
    | none => rw [hq] at hy; cases hy
    | some x => rw [hq] at hy; cases hy; rfl
  split
  · rename_i h
    obtain ⟨y, hy⟩ : ∃ y, vals[i]? = some y := ⟨_, List.getElem?_eq_getElem h⟩
    have hg := mixI_get (markI 1) (loadI_get (next := next) hy)
    rw [List.findIdx?_eq_some_iff_getElem]
    obtain ⟨h1, h2⟩ := List.getElem?_eq_some_iff.1 hg
    refine ⟨h1, by rw [h2]; show ((0 : Int) != 1) = true; decide, fun j hj => ?_⟩
    have := hpre j hj _ (List.getElem?_eq_getElem (by omega))
    rw [this]
    decide
  · rename_i h
    rw [List.findIdx?_eq_none_iff]
    intro x hx
    obtain ⟨j, hj, rfl⟩ := List.mem_iff_getElem.1 hx
    have := hpre j (by omega) _ (List.getElem?_eq_getElem hj)
    rw [this]
    decide
theorem ord_fit (vals : List Int) (next : Int) (i : Nat) : (ordS vals next i).fit 1 = 0 := by
  unfold QS.fit prepd ordS
  by_cases h : i = 0
  · simp [h, aget]
  · simp [h, aget]
theorem ord_take {vals : List Int} {next : Int} {i : Nat} {y : Int} (hy : vals[i]? = some y) : (ordS vals next i).take 1 = ((y, 0), ordS vals next (i + 1)) := by
  have hi := (List.getElem?_eq_some_iff.1 hy).1
  have hlg := loadI_get (next := next) hy
  have hg := mixI_get (markI 1) hlg
  have hgd : (mixI (markI 1) (loadI vals next) i).getD i ⟨0, 0, 0⟩ = ⟨next - vals.length + i, y, 0⟩ := by rw [List.getD_eq_getElem?_getD, hg]; rfl
  unfold QS.take
  rw [ord_fit]
  simp only [ne_eq, not_true_eq_false, if_false]
  show (match (mixI (markI 1) (loadI vals next) i).findIdx? (fun x => x.by_ != 1) with | none => _ | some j => _) = _
  rw [mix_find (by omega), if_pos hi]
  show (if ((mixI (markI 1) (loadI vals next) i).getD i ⟨0, 0, 0⟩).by_ ≠ 0 then _ else _) = _
  show (if ((mixI (markI 1) (loadI vals next) i).getD i ⟨0, 0, 0⟩).by_ ≠ 0 then ((0, 120), ordS vals next i) else ((((mixI (markI 1) (loadI vals next) i).getD i ⟨0, 0, 0⟩).val, 0), (⟨(mixI (markI 1) (loadI vals next) i).set i ⟨((mixI (markI 1) (loadI vals next) i).getD i ⟨0, 0, 0⟩).num, ((mixI (markI 1) (loadI vals next) i).getD i ⟨0, 0, 0⟩).val, 1⟩, noteW 1 ⟨4, ((mixI (markI 1) (loadI vals next) i).getD i ⟨0, 0, 0⟩).num, ((mixI (markI 1) (loadI vals next) i).getD i ⟨0, 0, 0⟩).val⟩ (ordS vals next i).ws, next - 1⟩ : QS))) = _
  rw [hgd]
  simp only [ne_eq, not_true_eq_false, if_false]
  have h1 := mixI_step (markI 1) hlg
  have h2 : noteW 1 ⟨4, next - vals.length + i, y⟩ (ordS vals next i).ws = (ordS vals next (i + 1)).ws := by
    have ht := loadI_take (next := next) hy
    unfold ordS noteW
    simp only [Nat.add_eq_zero_iff, Nat.one_ne_zero, and_false, if_false]
    rw [ht, List.map_append]
    by_cases h : i = 0
    · subst h
      simp [aget]
    · simp [h, aget, aput]
  rw [h2]
  unfold ordS
  simp only [h1]
  rfl
theorem ord_empty {vals : List Int} {next : Int} : (ordS vals next vals.length).take 1 = ((0, 140), ordS vals next vals.length) := by
  unfold QS.take
  rw [ord_fit]
  simp only [ne_eq, not_true_eq_false, if_false]
  have hm : (ordS vals next vals.length).its.findIdx? (fun x => x.by_ != 1) = none := by
    show (mixI (markI 1) (loadI vals next) vals.length).findIdx? (fun x => x.by_ != 1) = none
    rw [mix_find (Nat.le_refl _), if_neg (by omega)]
  rw [hm]
theorem putsL_takes (l : List It) : putsL (l.map (fun x => (⟨4, x.num, x.val⟩ : Ch))) = 0 := by
  induction l with
  | nil => rfl
  | cons x l ih => simp [putsL, ih]
theorem newI_takes (l : List It) (g : Int) : newI (l.map (fun x => (⟨4, x.num, x.val⟩ : Ch))) g = [] := by
  induction l with
  | nil => rfl
  | cons x l ih => simp [newI, ih]
theorem ord_bd {vals : List Int} {next : Int} (h1 : vals.length ≤ 16) (h2 : (vals.length : Int) < next) (h3 : next ≤ 4611686018427387904) {i : Nat} (hi : i ≤ vals.length) : (ordS vals next i).Bd := by
  have hw : putsW (ordS vals next i).ws = 0 := by
    unfold ordS
    by_cases h : i = 0
    · simp [h, putsW]
    · simp only [h, if_false, putsW, putsL_takes]
  refine ⟨?_, ?_, ?_, ?_, by omega, ?_, ?_⟩
  · unfold ordS
    by_cases h : i = 0
    · simp [h]
    · simp [h]
  · show (mixI (markI 1) (loadI vals next) i).length ≤ 100
    rw [mixI_len, loadI_len]; omega
  · unfold ordS
    by_cases h : i = 0
    · simp [h]
    · simp [h]
  · intro x hx
    unfold ordS at hx
    by_cases h : i = 0
    · simp [h] at hx
    · simp only [h, if_false] at hx
      obtain rfl := List.mem_singleton.1 hx
      simp only [List.length_map, List.length_take, loadI_len]
      omega
  · show 0 ≤ next - 1; omega
  · show next - 1 ≤ _; omega
theorem ord_commit {vals : List Int} {next : Int} : (ordS vals next vals.length).commit 1 = (0, ⟨[], [], next - 1⟩) := by
  have hk : keptI 1 (mixI (markI 1) (loadI vals next) vals.length) = [] := by
    unfold keptI
    rw [List.filter_eq_nil_iff]
    intro x hx
    have : mixI (markI 1) (loadI vals next) vals.length = (loadI vals next).map (markI 1) := by
      have := mixI_all (markI 1) (loadI vals next)
      rwa [loadI_len] at this
    rw [this] at hx
    obtain ⟨z, _, rfl⟩ := List.mem_map.1 hx
    simp [markI]
  have hl : listOfW 1 (ordS vals next vals.length).ws = if vals.length = 0 then [] else ((loadI vals next).take vals.length).map (fun x => (⟨4, x.num, x.val⟩ : Ch)) := by
    unfold listOfW ordS
    by_cases h : vals.length = 0
    · simp [h, aget]
    · simp [h, aget]
  have hn : newI (listOfW 1 (ordS vals next vals.length).ws) (next - 1) = [] := by
    rw [hl]; split
    · rfl
    · exact newI_takes _ _
  have hp : putsL (listOfW 1 (ordS vals next vals.length).ws) = 0 := by
    rw [hl]; split
    · rfl
    · exact putsL_takes _
  have ha : adel 1 (ordS vals next vals.length).ws = [] := by
    unfold adel ordS
    by_cases h : vals.length = 0
    · simp [h]
    · simp [h]
  unfold QS.commit
  rw [if_neg (by decide)]
  show (0, (⟨keptI 1 (mixI (markI 1) (loadI vals next) vals.length) ++ newI (listOfW 1 (ordS vals next vals.length).ws) (next - 1), adel 1 (ordS vals next vals.length).ws, next - 1 + putsL (listOfW 1 (ordS vals next vals.length).ws)⟩ : QS)) = _
  rw [hk, hn, hp, ha]
  simp
theorem ord_vals {vals : List Int} {next : Int} {i : Nat} : (ordS vals next i).its.map (·.val) = vals := by
  show (mixI (markI 1) (loadI vals next) i).map (·.val) = vals
  unfold mixI
  rw [List.map_append, List.map_map]
  have : (fun x : It => x.val) ∘ markI 1 = fun x : It => x.val := rfl
  rw [this, ← List.map_append, List.take_append_drop, loadI_vals]
theorem load_new (vals : List Int) (next : Int) : QS.new.load vals next = if 16 < vals.length ∨ next ≤ vals.length ∨ 4611686018427387904 < next then (1, QS.new) else (0, ordS vals next 0) := by
  unfold QS.load
  rw [if_neg (by simp [QS.new])]
  split
  · rfl
  · unfold ordS mixI
    simp [QS.new]
end Go.Mine
namespace Go.Proofs.Ytmckdoiepmkbbaa
open Go.RowKit Go.Mine Go.Proofs.YtmckdoiepmkbbaaW.PrintWords
set_option linter.unusedVariables false
set_option linter.unusedSimpArgs false
set_option maxRecDepth 100000 in
set_option maxHeartbeats 4000000 in
theorem order_any (A : Option Addr) (vals : List Int) (c : Nat) (next : Int) (w : World) (hv : UAt w w.heap.size A vals) (hlen : vals.length ≤ 20000000000000) (hc : vals.length ≤ c) :
    Calls Try.prog 3 #[.slice A vals.length c, .int .i64 next] w fun e w' => e = .returned (.bool true) ∧ Below w.heap.size w w' := by
  go_enter Try.func3, Try.ntmps3
  go_wp2_with fail
  refine (new_st w).mono ?_
  rintro e w1 ⟨b, rfl, t1, f1⟩
  have d0 : QS.new.Bd := ⟨by decide, by decide, by decide, by decide, by decide, by decide, by decide⟩
  have c1 := load_st t1 d0 A vals c next ((hv.below f1).up f1.size) (fun hne b' off e => by
    obtain ⟨y, hy⟩ : ∃ y, vals[0]? = some y := ⟨_, List.getElem?_eq_getElem (List.length_pos_iff.2 hne)⟩
    obtain ⟨b2, off2, e2, hlt, _⟩ := hv 0 y hy
    rw [e] at e2
    cases e2
    exact hlt) (by omega) hc
  rw [load_new] at c1
  by_cases hbad : 16 < vals.length ∨ next ≤ vals.length ∨ 4611686018427387904 < next
  · rw [if_pos hbad] at c1
    have C1 := hid c1
    clear c1 hbad
    go_wp2_with fail
    refine C1.out.mono ?_
    rintro e w2 ⟨rfl, t2, f2⟩
    go_wp2_with fail
    refine (alive_any _).mono ?_
    rintro e w3 ⟨rfl, f3⟩
    have hf := f1.trans f2
    go_wp2_with fail
    go_ret
    exact ⟨rfl, hf.trans (f3.mono hf.size)⟩
  · rw [if_neg hbad] at c1
    have C1 := hid c1
    have g1 : vals.length ≤ 16 := by omega
    have g2 : (vals.length : Int) < next := by omega
    have g3 : next ≤ 4611686018427387904 := by omega
    clear c1 hbad
    go_wp2_with fail
    refine C1.out.mono ?_
    rintro e w2 ⟨rfl, t2, f2⟩
    have hf2 := f1.trans f2
    clear C1 t1 f1 f2
    go_wp2_with fail
    go_loopg [6] (vals.length + 1) (fun m v wr => ∃ i : Nat, v = .int .i64 i ∧ i ≤ vals.length ∧ m = vals.length + 1 - i ∧ St w.heap.size wr b (ordS vals next i) ∧ Below w.heap.size w wr)
    case atStart => exact ⟨0, rfl, Nat.zero_le _, rfl, t2, hf2⟩
    case round =>
      obtain ⟨i, rfl, hi, hm, ht, hb⟩ := hrel
      have HN := hid hm
      clear hm t2 hf2
      by_cases h1 : i < vals.length
      · obtain ⟨y, hy⟩ : ∃ y, vals[i]? = some y := ⟨_, List.getElem?_eq_getElem h1⟩
        obtain ⟨b', off, rfl, hlt, hcc⟩ := hv i y hy
        have c3 := take_st ht (ord_bd g1 g2 g3 hi) 1
        rw [ord_take hy] at c3
        have C3 := hid c3
        have dy : (y != y) = false := by simp
        have HK := hid (show ∀ w', Below w.heap.size w w' → w'.cell? ⟨b', off + i, none⟩ = some (.int .u64 y) from fun w' hb => by
          have := (hb.cell (p := ⟨b', off + i * 1 + 0, none⟩) hlt).trans (hcc 0 _ rfl)
          simpa using this)
        clear hy hcc c3
        go_wp2_with fail
        refine C3.out.mono ?_
        rintro e w3 ⟨rfl, t3, f3⟩
        have k0 := HK.out w3 (hb.trans f3)
        go_wp2_with fail
        go_roundg (vals.length + 1 - (i + 1))
        case measure => rw [HN.out]; omega
        case rel => exact ⟨i + 1, by go_num, by omega, rfl, t3, hb.trans f3⟩
      · have hil : i = vals.length := by omega
        subst hil
        have c3 := take_st ht (ord_bd g1 g2 g3 hi) 1
        rw [ord_empty] at c3
        have C3 := hid c3
        have hnd := ord_bd (next := next) g1 g2 g3 (Nat.le_refl vals.length)
        have hil2 : (ordS vals next vals.length).its.length = vals.length := by
          have := congrArg List.length (ord_vals (vals := vals) (next := next) (i := vals.length))
          simpa using this
        clear c3
        go_wp2_with fail
        refine C3.out.mono ?_
        rintro e w3 ⟨rfl, t3, f3⟩
        have hb3 := hb.trans f3
        have c4 := values_st t3 (by omega)
        rw [ord_vals, hil2] at c4
        have C4 := hid c4
        clear c4 C3
        go_wp2_with fail
        refine C4.out.mono ?_
        rintro e w4 ⟨A4, c4, rfl, hr4, ho4, f4⟩
        obtain ⟨A5, c5, e5, _, hat5⟩ := hr4.at_
        injection e5 with q1 q2 q3
        rw [← q1] at hat5
        have hb4 := hb3.trans (f4.mono hb3.size)
        have C5 := hid (same_any A4 A vals c4 c w4.heap.size w4 hat5 ((hv.below hb4).up hb4.size) (by omega))
        clear C4 hr4 ho4 hat5 q1 q2 q3
        go_wp2_with fail
        refine C5.out.mono ?_
        rintro e w5 ⟨rfl, q5, rfl⟩
        have t5 := (t3.below f4).below (bdN w4 q5)
        have hb5 := hb4.trans ((bdN w4 q5).mono hb4.size)
        have c6 := commit_st t5 hnd 1
        rw [ord_commit] at c6
        have C6 := hid c6
        clear c6 C5 t3
        generalize w4.drewN q5 = w5 at *
        go_wp2_with fail
        refine C6.out.mono ?_
        rintro e w6 ⟨rfl, t6, f6⟩
        have hb6 := hb5.trans f6
        go_wp2_with fail
        refine (alive_any _).mono ?_
        rintro e w7 ⟨rfl, f7⟩
        have t7 := t6.below f7
        have hb7 := hb6.trans (f7.mono hb6.size)
        have hne : (⟨[], [], next - 1⟩ : QS).Bd := ⟨by simp, by simp, by simp, by simp, by simp [putsW], by show 0 ≤ next - 1; omega, by show next - 1 ≤ _; omega⟩
        have C8 := hid (values_st t7 (by simp))
        clear C6 t5 t6
        go_wp2_with fail
        refine C8.out.mono ?_
        rintro e w8 ⟨A8, c8, rfl, hr8, ho8, f8⟩
        have hb8 := hb7.trans (f8.mono hb7.size)
        have c9 := next_st (t7.below f8) hne
        rw [show next - 1 + 1 = next by omega] at c9
        have C9 := hid c9
        clear C8 hr8 ho8 c9
        go_wp2_with fail
        refine C9.out.mono ?_
        rintro e w9 ⟨rfl, rfl⟩
        go_wp2_with fail
        go_ret
        exact ⟨by simp, hb8⟩
end Go.Proofs.Ytmckdoiepmkbbaa
