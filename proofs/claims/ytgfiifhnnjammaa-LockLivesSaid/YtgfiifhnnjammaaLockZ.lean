/- Walk of trothref12.Held: the keys of an owner, each once, in order. Conditions: the table's block and row are given. -/
import Derived.Test.YtgfiifhnnjammaaLockY
import Derived.BigQuiet
namespace Go.Proofs.Ytgfiifhnnjammaa
open Go.RowKit Go.Mine Go.Proofs.YtgfiifhnnjammaaW.PrintWords
set_option linter.unusedVariables false
set_option linter.unusedSimpArgs false
theorem mem_held {o k : Int} {A : LTab} : k ∈ sorted (keysA o A) ↔ ∃ y ∈ A, y.1.2 = o ∧ y.1.1 = k := by
  rw [(sorted_perm _).mem_iff]
  simp only [keysA, List.mem_map, List.mem_filter, ownA, beq_iff_eq]
  constructor
  · rintro ⟨y, ⟨h1, h2⟩, h3⟩; exact ⟨y, h1, h2, h3⟩
  · rintro ⟨y, h1, h2, h3⟩; exact ⟨y, ⟨h1, h2⟩, h3⟩
theorem strict_held {o : Int} {A : LTab} (hA : A.Pairwise (fun x y => x.1 ≠ y.1)) : (sorted (keysA o A)).Pairwise (· < ·) := by
  have hn : (keysA o A).Nodup := by
    unfold keysA
    rw [List.nodup_iff_pairwise_ne, List.pairwise_map]
    have h2 := hA.filter (ownA o)
    refine List.Pairwise.imp_of_mem ?_ h2
    intro a b ha hb hne q
    have h3 := (List.mem_filter.1 ha).2
    have h4 := (List.mem_filter.1 hb).2
    simp only [ownA, beq_iff_eq] at h3 h4
    exact hne (Prod.ext q (h3.trans h4.symm))
  have hn2 : (sorted (keysA o A)).Nodup := (sorted_perm _).nodup_iff.2 hn
  have hp := sorted_pw (keysA o A)
  rw [List.nodup_iff_pairwise_ne] at hn2
  exact (hp.and hn2).imp (fun h => by omega)
def aboveB (T : List Int) (k : Int) : Bool := match T.getLast? with | none => true | some l => decide (l < k)
def candB (o : Int) (T : List Int) (x : Lk) : Bool := x.1.2 == o && aboveB T x.1.1
theorem above_iff {S : List Int} (hS : S.Pairwise (· < ·)) (n : Nat) {k : Int} (hk : k ∈ S) : aboveB (S.take n) k = true ↔ k ∈ S.drop n := by
  have hsp := List.take_append_drop n S
  have hS2 := hS
  rw [← hsp, List.pairwise_append] at hS2
  rw [← hsp, List.mem_append] at hk
  unfold aboveB
  cases hl : (S.take n).getLast? with
  | none =>
    rw [List.getLast?_eq_none_iff] at hl
    rw [hl] at hk
    simp at hk
    simp [hk]
  | some l =>
    rw [List.getLast?_eq_some_iff] at hl
    obtain ⟨ys, hy⟩ := hl
    simp only [decide_eq_true_eq]
    constructor
    · intro h
      rcases hk with hk | hk
      · exfalso
        have h1 := hS2.1
        rw [hy] at hk h1
        rw [List.pairwise_append] at h1
        rcases List.mem_append.1 hk with hk | hk
        · have := h1.2.2 k hk l (by simp); omega
        · have := List.mem_singleton.1 hk; omega
      · exact hk
    · intro h
      exact hS2.2.2 l (by rw [hy]; simp) k h
theorem sel_none {o : Int} {A : LTab} (hA : A.Pairwise (fun x y => x.1 ≠ y.1)) (n : Nat) (h : ∀ y ∈ A, candB o ((sorted (keysA o A)).take n) y = false) : (sorted (keysA o A)).take (n + 1) = (sorted (keysA o A)).take n := by
  have hd : (sorted (keysA o A)).drop n = [] := by
    cases hq : (sorted (keysA o A)).drop n with
    | nil => rfl
    | cons k ks =>
      exfalso
      have hk : k ∈ (sorted (keysA o A)).drop n := by rw [hq]; simp
      have hkS := List.mem_of_mem_drop hk
      obtain ⟨y, hy, h1, h2⟩ := mem_held.1 hkS
      have h3 := h y hy
      have h4 := (above_iff (strict_held hA) n hkS).2 hk
      unfold candB at h3
      rw [h2, h4, h1] at h3
      simp at h3
  have hl : (sorted (keysA o A)).length ≤ n := by rwa [List.drop_eq_nil_iff] at hd
  rw [List.take_of_length_le (by omega), List.take_of_length_le hl]
theorem sel_some {o : Int} {A : LTab} (hA : A.Pairwise (fun x y => x.1 ≠ y.1)) (n : Nat) {z : Lk} (hz : z ∈ A) (h : candB o ((sorted (keysA o A)).take n) z = true) (hm : ∀ y ∈ A, candB o ((sorted (keysA o A)).take n) y = true → z.1.1 ≤ y.1.1) : (sorted (keysA o A)).take (n + 1) = (sorted (keysA o A)).take n ++ [z.1.1] := by
  unfold candB at h
  simp only [Bool.and_eq_true, beq_iff_eq] at h
  have hzS : z.1.1 ∈ sorted (keysA o A) := mem_held.2 ⟨z, hz, h.1, rfl⟩
  have hzd := (above_iff (strict_held hA) n hzS).1 h.2
  have hS := strict_held (o := o) hA
  cases hq : (sorted (keysA o A)).drop n with
  | nil => rw [hq] at hzd; cases hzd
  | cons k ks =>
    have hk : k ∈ (sorted (keysA o A)).drop n := by rw [hq]; simp
    have hkS := List.mem_of_mem_drop hk
    obtain ⟨y, hy, h1, h2⟩ := mem_held.1 hkS
    have h4 := (above_iff hS n hkS).2 hk
    have h5 := hm y hy (by unfold candB; rw [h2, h4, h1]; simp)
    have hd := hS.drop (i := n)
    rw [hq] at hd hzd
    have h6 : k ≤ z.1.1 := by
      rcases List.mem_cons.1 hzd with q | q
      · omega
      · have := (List.pairwise_cons.1 hd).1 _ q; omega
    have hkz : k = z.1.1 := by omega
    have hlt : n < (sorted (keysA o A)).length := by
      rcases Nat.lt_or_ge n (sorted (keysA o A)).length with q | q
      · exact q
      · rw [List.drop_of_length_le q] at hq; cases hq
    rw [List.take_succ_eq_append_getElem hlt]
    have : (sorted (keysA o A))[n] = k := by
      have := List.getElem_cons_drop hlt
      rw [hq] at this
      exact (List.cons.inj this).1
    rw [this, hkz]
/-- What the inner loop has found among the first i. -/
def Found (o : Int) (T : List Int) (A : LTab) (i : Nat) (a : Int) : Prop :=
  (a = -1 ∧ ∀ j y, j < i → A[j]? = some y → candB o T y = false) ∨ ∃ (n : Nat) (z : Lk), a = n ∧ n < i ∧ A[n]? = some z ∧ candB o T z = true ∧ ∀ j y, j < i → A[j]? = some y → candB o T y = true → z.1.1 ≤ y.1.1
theorem Found.skip {o : Int} {T : List Int} {A : LTab} {i : Nat} {a : Int} {x : Lk} (h : Found o T A i a) (hx : A[i]? = some x) (hc : candB o T x = false) : Found o T A (i + 1) a := by
  rcases h with ⟨h1, h2⟩ | ⟨n, z, h1, h2, h3, h4, h5⟩
  · refine .inl ⟨h1, fun j y hj hy => ?_⟩
    rcases Nat.lt_succ_iff_lt_or_eq.1 hj with hj | rfl
    · exact h2 j y hj hy
    · rw [hx] at hy; cases hy; exact hc
  · refine .inr ⟨n, z, h1, by omega, h3, h4, fun j y hj hy hcy => ?_⟩
    rcases Nat.lt_succ_iff_lt_or_eq.1 hj with hj | rfl
    · exact h5 j y hj hy hcy
    · rw [hx] at hy; cases hy; rw [hc] at hcy; cases hcy
theorem Found.first {o : Int} {T : List Int} {A : LTab} {i : Nat} {x : Lk} (h : Found o T A i (-1)) (hx : A[i]? = some x) (hc : candB o T x = true) : Found o T A (i + 1) i := by
  rcases h with ⟨h1, h2⟩ | ⟨n, z, h1, h2, h3, h4, h5⟩
  · refine .inr ⟨i, x, rfl, by omega, hx, hc, fun j y hj hy hcy => ?_⟩
    rcases Nat.lt_succ_iff_lt_or_eq.1 hj with hj | rfl
    · rw [h2 j y hj hy] at hcy; cases hcy
    · rw [hx] at hy; cases hy; omega
  · omega
theorem Found.less {o : Int} {T : List Int} {A : LTab} {i n : Nat} {x z : Lk} (h : Found o T A i n) (hz : A[n]? = some z) (hx : A[i]? = some x) (hc : candB o T x = true) (hl : x.1.1 < z.1.1) : Found o T A (i + 1) i := by
  rcases h with ⟨h1, h2⟩ | ⟨m, z', h1, h2, h3, h4, h5⟩
  · omega
  · have : m = n := by omega
    subst this
    rw [hz] at h3; cases h3
    refine .inr ⟨i, x, rfl, by omega, hx, hc, fun j y hj hy hcy => ?_⟩
    rcases Nat.lt_succ_iff_lt_or_eq.1 hj with hj | rfl
    · have := h5 j y hj hy hcy; omega
    · rw [hx] at hy; cases hy; omega
theorem Found.more {o : Int} {T : List Int} {A : LTab} {i n : Nat} {x z : Lk} (h : Found o T A i n) (hz : A[n]? = some z) (hx : A[i]? = some x) (hl : ¬ x.1.1 < z.1.1) : Found o T A (i + 1) n := by
  rcases h with ⟨h1, h2⟩ | ⟨m, z', h1, h2, h3, h4, h5⟩
  · omega
  · have : m = n := by omega
    subst this
    rw [hz] at h3; cases h3
    refine .inr ⟨m, z, rfl, by omega, hz, h4, fun j y hj hy hcy => ?_⟩
    rcases Nat.lt_succ_iff_lt_or_eq.1 hj with hj | rfl
    · exact h5 j y hj hy hcy
    · rw [hx] at hy; cases hy; omega
set_option maxRecDepth 100000 in
set_option maxHeartbeats 8000000 in
theorem ref_held {w : World} {b1 : Nat} {v : Value} {A : LTab} (h : RT w b1 v A) (hA : Right A) (o : Int) :
    Calls Try.prog 21 #[.pointer (some ⟨b1, 0, none⟩), .int .i64 o] w fun e w' => ∃ A5 c5, e = .returned (.slice A5 (sorted (keysA o A)).length c5) ∧ IntsAt w' w'.heap.size A5 (sorted (keysA o A)) ∧ Below w.heap.size w w' := by
  have hlen := hA.len
  have hSl : (sorted (keysA o A)).length ≤ A.length := by
    rw [(sorted_perm _).length_eq, keysA, List.length_map]
    exact List.length_filter_le _ _
  have hnone := fun n => sel_none (o := o) hA.keys n
  have hsome := fun n => @sel_some o A hA.keys n
  generalize sorted (keysA o A) = S at *
  have HNO := hid hnone
  have HSO := hid hsome
  have hc := h.cell
  obtain ⟨A', c, rfl, hAc, hat⟩ := h.2.at_
  have HAT := hid hat
  clear hat h hA hnone hsome
  go_enter Try.func21, Try.ntmps21
  go_wp2_with fail
  go_loopg [5, 6] (A.length + 1) (fun m v5 v6 wr => ∃ n : Nat, v6 = .int .i64 n ∧ n ≤ A.length ∧ m = A.length + 1 - n ∧ wr.ownsRow w.heap.size 3 1 v5 (S.take n).length (nums .i64 (S.take n)) ∧ Below w.heap.size w wr)
  case atStart => exact ⟨0, rfl, Nat.zero_le _, rfl, own_nil _ _ _ _, Below.refl _ _⟩
  case round =>
    obtain ⟨n, rfl, hn, hm, hown, hb⟩ := hrel
    have HN := hid hm
    have HO := hid hown
    have HB := hid hb
    have hcr : wr.cell? ⟨b1, 0, none⟩ = some (.slice A' A.length c) := (hb.cell (World.block_lt_of_cell? _ _ hc)).trans hc
    have htl : (S.take n).length ≤ 64 := by rw [List.length_take]; omega
    obtain ⟨At, ct, hvt, hit⟩ := intsAt_own hown
    subst hvt
    clear hm
    obtain ⟨wo, hwo⟩ : ∃ wo, wo = wr := ⟨_, rfl⟩
    subst hwo
    by_cases h1 : n < A.length
    · obtain ⟨T, hT⟩ : ∃ T, T = S.take n := ⟨_, rfl⟩
      rw [← hT] at hown HO hit htl
      have HT := hid hT
      rcases List.eq_nil_or_concat T with h0 | ⟨T', ll, h0⟩
      · have hlt0 : (S.take n).length = 0 := by rw [← hT, h0]; rfl
        rw [hlt0]
        subst h0
        simp only [List.length_nil] at HO
        clear hT hown hit htl hlt0 hb
        go_wp2_with fail
        go_loopg [7, 8] (A.length + 1) (fun m v7 v8 wr => ∃ (i : Nat) (a : Int), v8 = .int .i64 i ∧ v7 = .int .i64 a ∧ i ≤ A.length ∧ m = A.length + 1 - i ∧ Found o ([]) A i a ∧ Below wo.heap.size wo wr)
        case atStart => exact ⟨0, -1, rfl, rfl, Nat.zero_le _, rfl, .inl ⟨rfl, fun j y hj => by omega⟩, Below.refl _ _⟩
        case round =>
          obtain ⟨i, a, rfl, rfl, hi, hm, hfo, hbq⟩ := hrel
          have HM := hid hm
          have HF := hid hfo
          have HBQ := hid hbq
          have hcq : wr.cell? ⟨b1, 0, none⟩ = some (.slice A' A.length c) := (hbq.cell (World.block_lt_of_cell? _ _ hcr)).trans hcr
          clear hm hfo hbq
          by_cases h2 : i < A.length
          · obtain ⟨x, hx⟩ : ∃ x, A[i]? = some x := ⟨_, List.getElem?_eq_getElem h2⟩
            obtain ⟨b, off, rfl, hbb, hcc⟩ := HAT.out i x hx
            have hbwq : Below w.heap.size w wr := HB.out.trans (HBQ.out.mono HB.out.size)
            have x0 : wr.cell? ⟨b, off + i * 3, none⟩ = some (.int .i64 x.1.1) := (hbwq.cell hbb).trans (hcc 0 _ rfl)
            have x1 : wr.cell? ⟨b, off + i * 3 + 1, none⟩ = some (.int .i64 x.1.2) := (hbwq.cell hbb).trans (hcc 1 _ rfl)
            have x2 : wr.cell? ⟨b, off + i * 3 + 2, none⟩ = some (.bool x.2) := (hbwq.cell hbb).trans (hcc 2 _ rfl)
            have HX := hid hx
            have hba : Below wr.heap.size wr (wr.alloc (.cells #[.int .i64 x.1.1, .int .i64 x.1.2, .bool x.2] 56)) := (Below.refl _ _).alloc (Nat.le_refl _) _
            have HBA := hid (HBQ.out.trans (hba.mono HBQ.out.size))
            have HAL := hid hba
            have HE0 : Hid ((wr.alloc (.cells #[.int .i64 x.1.1, .int .i64 x.1.2, .bool x.2] 56)).cell? ⟨wr.heap.size, 0, none⟩ = some (.int .i64 x.1.1)) := hid (by rw [cell_of_row _ _ 0 _ _ _ (MapKept.heap_alloc wr _).1]; rfl)
            have HE1 : Hid ((wr.alloc (.cells #[.int .i64 x.1.1, .int .i64 x.1.2, .bool x.2] 56)).cell? ⟨wr.heap.size, 1, none⟩ = some (.int .i64 x.1.2)) := hid (by rw [cell_of_row _ _ 1 _ _ _ (MapKept.heap_alloc wr _).1]; rfl)
            have HEQ := hid ((hba.cell (World.block_lt_of_cell? _ _ hcq)).trans hcq)
            clear hx hcc hba
            cases qo : (x.1.2 == o)
            · have hcand : candB o ([]) x = false := by unfold candB; rw [qo]; rfl
              have HC := hid hcand
              clear hcand
              go_wp2_with fail
              generalize wr.alloc (.cells #[.int .i64 x.1.1, .int .i64 x.1.2, .bool x.2] 56) = wb at *
              generalize wr.heap.size = nb at *
              have e0 := HE0.out
              have e1 := HE1.out
              have eq := HEQ.out
              go_quiet (fail)
              go_wp2_with fail
              go_roundg (A.length + 1 - (i + 1))
              case measure => rw [HM.out]; omega
              case rel => exact ⟨i + 1, a, by go_num, rfl, by omega, rfl, HF.out.skip HX.out HC.out, below_drewN HBA.out _⟩
            · have hcand : candB o ([] : List Int) x = true := by unfold candB aboveB; rw [qo]; rfl
              have HC := hid hcand
              clear hcand
              rcases HF.out with ⟨rfl, _⟩ | ⟨nz, z, rfl, hnz, hz, _, _⟩
              · go_wp2_with fail
                generalize wr.alloc (.cells #[.int .i64 x.1.1, .int .i64 x.1.2, .bool x.2] 56) = wb at *
                generalize wr.heap.size = nb at *
                have e0 := HE0.out
                have e1 := HE1.out
                have eq := HEQ.out
                go_quiet (fail)
                go_wp2_with fail
                go_roundg (A.length + 1 - (i + 1))
                case measure => rw [HM.out]; omega
                case rel => exact ⟨i + 1, i, by go_num, rfl, by omega, rfl, HF.out.first HX.out HC.out, below_drewN HBA.out _⟩
              · obtain ⟨bz, offz, hez, hbz, hcz⟩ := HAT.out nz z hz
                cases hez
                have z0 : wr.cell? ⟨b, off + nz * 3, none⟩ = some (.int .i64 z.1.1) := (hbwq.cell hbz).trans (hcz 0 _ rfl)
                have hnz2 : nz < A.length := by omega
                have hnn1 : (nz : Int) < A.length := by omega
                have hnn0 : (0 : Int) ≤ nz := by omega
                have hnd : decide ((nz : Int) < 0) = false := by simp
                have hnb : (¬ (nz : Int) < 0) := by omega
                have HZ := hid hz
                have HZ1 := hid ((HAL.out.cell (World.block_lt_of_cell? _ _ z0)).trans z0)
                clear hz hcz z0
                by_cases hlz : x.1.1 < z.1.1
                · go_wp2_with fail
                  generalize wr.alloc (.cells #[.int .i64 x.1.1, .int .i64 x.1.2, .bool x.2] 56) = wb at *
                  generalize wr.heap.size = nb at *
                  have e0 := HE0.out
                  have e1 := HE1.out
                  have eq := HEQ.out
                  have z1 := HZ1.out
                  go_quiet (fail)
                  go_wp2_with fail
                  go_roundg (A.length + 1 - (i + 1))
                  case measure => rw [HM.out]; omega
                  case rel => exact ⟨i + 1, i, by go_num, rfl, by omega, rfl, HF.out.less HZ.out HX.out HC.out (by omega), below_drewN HBA.out _⟩
                · go_wp2_with fail
                  generalize wr.alloc (.cells #[.int .i64 x.1.1, .int .i64 x.1.2, .bool x.2] 56) = wb at *
                  generalize wr.heap.size = nb at *
                  have e0 := HE0.out
                  have e1 := HE1.out
                  have eq := HEQ.out
                  have z1 := HZ1.out
                  go_quiet (fail)
                  go_wp2_with fail
                  go_roundg (A.length + 1 - (i + 1))
                  case measure => rw [HM.out]; omega
                  case rel => exact ⟨i + 1, nz, by go_num, rfl, by omega, rfl, HF.out.more HZ.out HX.out (by omega), below_drewN HBA.out _⟩
          · have hi2 : i = A.length := by omega
            subst hi2
            rcases HF.out with ⟨rfl, hall⟩ | ⟨nz, z, rfl, hnz, hz, hcz1, hmin⟩
            · have hst := HNO.out n (fun y hy => by
                obtain ⟨j, hj, rfl⟩ := List.mem_iff_getElem.1 hy
                rw [← HT.out]
                exact hall j _ hj (List.getElem?_eq_getElem hj))
              have HST := hid hst
              clear hst hall
              go_wp2_with fail
              go_roundg (A.length + 1 - (n + 1))
              case measure => rw [HN.out]; omega
              case rel => exact ⟨n + 1, by go_num, by omega, rfl, by first | (rw [HST.out, ← HT.out, List.length_append, List.length_singleton]; exact pw_own_below HO.out HBQ.out) | (rw [HST.out, ← HT.out]; exact pw_own_below HO.out HBQ.out), HB.out.trans (HBQ.out.mono HB.out.size)⟩
            · have hst := HSO.out n (List.mem_of_getElem? hz) (by rw [← HT.out]; exact hcz1) (fun y hy hcy => by
                obtain ⟨j, hj, rfl⟩ := List.mem_iff_getElem.1 hy
                rw [← HT.out] at hcy
                exact hmin j _ hj (List.getElem?_eq_getElem hj) hcy)
              have HST := hid hst
              obtain ⟨bz, offz, rfl, hbz, hcz⟩ := HAT.out nz z hz
              have hbwq : Below w.heap.size w wr := HB.out.trans (HBQ.out.mono HB.out.size)
              have z0 : wr.cell? ⟨bz, offz + nz * 3, none⟩ = some (.int .i64 z.1.1) := (hbwq.cell hbz).trans (hcz 0 _ rfl)
              have ho4 := pw_own_below HO.out HBQ.out
              have HO4 := hid ho4
              have HBW := hid hbwq
              clear hst hz hcz1 hmin hcz ho4 hbwq
              go_wp2_with (at_builtin; go_loud (refine print_append_num w.heap.size rfl (.tmp 75) (.tmp 84) 23 3 .i64 8 rfl Try.underlying23 info3 (by decide) (.slice At 0 ct) ([]) z.1.1 rfl rfl (by first | exact HO4.out | (rw [List.length_append, List.length_singleton]; exact HO4.out)) HBW.out HBW.out.size (by simp only [List.length_nil, List.length_append, List.length_singleton]; omega) ?_); intro v7 w7 ho7 hb7 hg7 hat7)
              go_roundg (A.length + 1 - (n + 1))
              case measure => rw [HN.out]; omega
              case rel => exact ⟨n + 1, by go_num, by omega, rfl, by rw [HST.out, ← HT.out]; exact ho7, hb7⟩
      · have hlt0 : (S.take n).length = T'.length + 1 := by rw [← hT, h0]; simp
        rw [List.concat_eq_append] at h0
        rw [hlt0]
        subst h0
        rw [List.length_append, List.length_singleton] at HO
        obtain ⟨bl, ol, rfl, hbl, hcl⟩ := hit T'.length ll (by simp)
        have hlo : wo.cell? ⟨bl, ol + T'.length, none⟩ = some (.int .i64 ll) := hcl
        have htl' : T'.length + 1 ≤ 64 := by simpa using htl
        have hqq : ((T'.length : Int) + 1 == 0) = false := by simp; omega
        have hww : wrap64 ((T'.length : Int) + 1 - 1) = T'.length := by unfold wrap64; omega
        have hwv : wrap64 (T'.length : Int) = T'.length := by unfold wrap64; omega
        clear hT hown hit htl hlt0 hb hcl
        go_wp2_with fail
        go_loopg [7, 8] (A.length + 1) (fun m v7 v8 wr => ∃ (i : Nat) (a : Int), v8 = .int .i64 i ∧ v7 = .int .i64 a ∧ i ≤ A.length ∧ m = A.length + 1 - i ∧ Found o (T' ++ [ll]) A i a ∧ Below wo.heap.size wo wr)
        case atStart => exact ⟨0, -1, rfl, rfl, Nat.zero_le _, rfl, .inl ⟨rfl, fun j y hj => by omega⟩, Below.refl _ _⟩
        case round =>
          obtain ⟨i, a, rfl, rfl, hi, hm, hfo, hbq⟩ := hrel
          have HM := hid hm
          have HF := hid hfo
          have HBQ := hid hbq
          have hcq : wr.cell? ⟨b1, 0, none⟩ = some (.slice A' A.length c) := (hbq.cell (World.block_lt_of_cell? _ _ hcr)).trans hcr
          have hlast := (hbq.cell (World.block_lt_of_cell? _ _ hlo)).trans hlo
          clear hm hfo hbq
          by_cases h2 : i < A.length
          · obtain ⟨x, hx⟩ : ∃ x, A[i]? = some x := ⟨_, List.getElem?_eq_getElem h2⟩
            obtain ⟨b, off, rfl, hbb, hcc⟩ := HAT.out i x hx
            have hbwq : Below w.heap.size w wr := HB.out.trans (HBQ.out.mono HB.out.size)
            have x0 : wr.cell? ⟨b, off + i * 3, none⟩ = some (.int .i64 x.1.1) := (hbwq.cell hbb).trans (hcc 0 _ rfl)
            have x1 : wr.cell? ⟨b, off + i * 3 + 1, none⟩ = some (.int .i64 x.1.2) := (hbwq.cell hbb).trans (hcc 1 _ rfl)
            have x2 : wr.cell? ⟨b, off + i * 3 + 2, none⟩ = some (.bool x.2) := (hbwq.cell hbb).trans (hcc 2 _ rfl)
            have HX := hid hx
            have hba : Below wr.heap.size wr (wr.alloc (.cells #[.int .i64 x.1.1, .int .i64 x.1.2, .bool x.2] 56)) := (Below.refl _ _).alloc (Nat.le_refl _) _
            have HBA := hid (HBQ.out.trans (hba.mono HBQ.out.size))
            have HAL := hid hba
            have HE0 : Hid ((wr.alloc (.cells #[.int .i64 x.1.1, .int .i64 x.1.2, .bool x.2] 56)).cell? ⟨wr.heap.size, 0, none⟩ = some (.int .i64 x.1.1)) := hid (by rw [cell_of_row _ _ 0 _ _ _ (MapKept.heap_alloc wr _).1]; rfl)
            have HE1 : Hid ((wr.alloc (.cells #[.int .i64 x.1.1, .int .i64 x.1.2, .bool x.2] 56)).cell? ⟨wr.heap.size, 1, none⟩ = some (.int .i64 x.1.2)) := hid (by rw [cell_of_row _ _ 1 _ _ _ (MapKept.heap_alloc wr _).1]; rfl)
            have HEQ := hid ((hba.cell (World.block_lt_of_cell? _ _ hcq)).trans hcq)
            have HEL := hid ((hba.cell (World.block_lt_of_cell? _ _ hlast)).trans hlast)
            clear hx hcc hba
            cases qo : (x.1.2 == o)
            · have hcand : candB o (T' ++ [ll]) x = false := by unfold candB; rw [qo]; rfl
              have HC := hid hcand
              clear hcand
              go_wp2_with fail
              generalize wr.alloc (.cells #[.int .i64 x.1.1, .int .i64 x.1.2, .bool x.2] 56) = wb at *
              generalize wr.heap.size = nb at *
              have e0 := HE0.out
              have e1 := HE1.out
              have eq := HEQ.out
              have el := HEL.out
              go_quiet (fail)
              go_wp2_with fail
              go_roundg (A.length + 1 - (i + 1))
              case measure => rw [HM.out]; omega
              case rel => exact ⟨i + 1, a, by go_num, rfl, by omega, rfl, HF.out.skip HX.out HC.out, below_drewN HBA.out _⟩
            · by_cases hlx : ll < x.1.1
              · have hcand : candB o (T' ++ [ll]) x = true := by unfold candB aboveB; rw [qo]; simp [hlx]
                have HC := hid hcand
                clear hcand
                rcases HF.out with ⟨rfl, _⟩ | ⟨nz, z, rfl, hnz, hz, _, _⟩
                · go_wp2_with fail
                  generalize wr.alloc (.cells #[.int .i64 x.1.1, .int .i64 x.1.2, .bool x.2] 56) = wb at *
                  generalize wr.heap.size = nb at *
                  have e0 := HE0.out
                  have e1 := HE1.out
                  have eq := HEQ.out
                  have el := HEL.out
                  go_quiet (fail)
                  go_wp2_with fail
                  go_roundg (A.length + 1 - (i + 1))
                  case measure => rw [HM.out]; omega
                  case rel => exact ⟨i + 1, i, by go_num, rfl, by omega, rfl, HF.out.first HX.out HC.out, below_drewN HBA.out _⟩
                · obtain ⟨bz, offz, hez, hbz, hcz⟩ := HAT.out nz z hz
                  cases hez
                  have z0 : wr.cell? ⟨b, off + nz * 3, none⟩ = some (.int .i64 z.1.1) := (hbwq.cell hbz).trans (hcz 0 _ rfl)
                  have hnz2 : nz < A.length := by omega
                  have hnn1 : (nz : Int) < A.length := by omega
                  have hnn0 : (0 : Int) ≤ nz := by omega
                  have hnd : decide ((nz : Int) < 0) = false := by simp
                  have hnb : (¬ (nz : Int) < 0) := by omega
                  have HZ := hid hz
                  have HZ1 := hid ((HAL.out.cell (World.block_lt_of_cell? _ _ z0)).trans z0)
                  clear hz hcz z0
                  by_cases hlz : x.1.1 < z.1.1
                  · go_wp2_with fail
                    generalize wr.alloc (.cells #[.int .i64 x.1.1, .int .i64 x.1.2, .bool x.2] 56) = wb at *
                    generalize wr.heap.size = nb at *
                    have e0 := HE0.out
                    have e1 := HE1.out
                    have eq := HEQ.out
                    have z1 := HZ1.out
                    have el := HEL.out
                    go_quiet (fail)
                    go_wp2_with fail
                    go_roundg (A.length + 1 - (i + 1))
                    case measure => rw [HM.out]; omega
                    case rel => exact ⟨i + 1, i, by go_num, rfl, by omega, rfl, HF.out.less HZ.out HX.out HC.out (by omega), below_drewN HBA.out _⟩
                  · go_wp2_with fail
                    generalize wr.alloc (.cells #[.int .i64 x.1.1, .int .i64 x.1.2, .bool x.2] 56) = wb at *
                    generalize wr.heap.size = nb at *
                    have e0 := HE0.out
                    have e1 := HE1.out
                    have eq := HEQ.out
                    have z1 := HZ1.out
                    have el := HEL.out
                    go_quiet (fail)
                    go_wp2_with fail
                    go_roundg (A.length + 1 - (i + 1))
                    case measure => rw [HM.out]; omega
                    case rel => exact ⟨i + 1, nz, by go_num, rfl, by omega, rfl, HF.out.more HZ.out HX.out (by omega), below_drewN HBA.out _⟩
              · have hcand : candB o (T' ++ [ll]) x = false := by unfold candB aboveB; rw [qo]; simp; omega
                have hlxd : decide (ll < x.1.1) = false := decide_eq_false hlx
                have HC := hid hcand
                clear hcand
                go_wp2_with fail
                generalize wr.alloc (.cells #[.int .i64 x.1.1, .int .i64 x.1.2, .bool x.2] 56) = wb at *
                generalize wr.heap.size = nb at *
                have e0 := HE0.out
                have e1 := HE1.out
                have eq := HEQ.out
                have el := HEL.out
                go_quiet (fail)
                go_wp2_with fail
                go_roundg (A.length + 1 - (i + 1))
                case measure => rw [HM.out]; omega
                case rel => exact ⟨i + 1, a, by go_num, rfl, by omega, rfl, HF.out.skip HX.out HC.out, below_drewN HBA.out _⟩
          · have hi2 : i = A.length := by omega
            subst hi2
            rcases HF.out with ⟨rfl, hall⟩ | ⟨nz, z, rfl, hnz, hz, hcz1, hmin⟩
            · have hst := HNO.out n (fun y hy => by
                obtain ⟨j, hj, rfl⟩ := List.mem_iff_getElem.1 hy
                rw [← HT.out]
                exact hall j _ hj (List.getElem?_eq_getElem hj))
              have HST := hid hst
              clear hst hall
              go_wp2_with fail
              go_roundg (A.length + 1 - (n + 1))
              case measure => rw [HN.out]; omega
              case rel => exact ⟨n + 1, by go_num, by omega, rfl, by first | (rw [HST.out, ← HT.out, List.length_append, List.length_singleton]; exact pw_own_below HO.out HBQ.out) | (rw [HST.out, ← HT.out]; exact pw_own_below HO.out HBQ.out), HB.out.trans (HBQ.out.mono HB.out.size)⟩
            · have hst := HSO.out n (List.mem_of_getElem? hz) (by rw [← HT.out]; exact hcz1) (fun y hy hcy => by
                obtain ⟨j, hj, rfl⟩ := List.mem_iff_getElem.1 hy
                rw [← HT.out] at hcy
                exact hmin j _ hj (List.getElem?_eq_getElem hj) hcy)
              have HST := hid hst
              obtain ⟨bz, offz, rfl, hbz, hcz⟩ := HAT.out nz z hz
              have hbwq : Below w.heap.size w wr := HB.out.trans (HBQ.out.mono HB.out.size)
              have z0 : wr.cell? ⟨bz, offz + nz * 3, none⟩ = some (.int .i64 z.1.1) := (hbwq.cell hbz).trans (hcz 0 _ rfl)
              have ho4 := pw_own_below HO.out HBQ.out
              have HO4 := hid ho4
              have HBW := hid hbwq
              clear hst hz hcz1 hmin hcz ho4 hbwq
              go_wp2_with (at_builtin; go_loud (refine print_append_num w.heap.size rfl (.tmp 75) (.tmp 84) 23 3 .i64 8 rfl Try.underlying23 info3 (by decide) (.slice (some ⟨bl, ol, none⟩) (T'.length + 1) ct) (T' ++ [ll]) z.1.1 rfl rfl (by first | exact HO4.out | (rw [List.length_append, List.length_singleton]; exact HO4.out)) HBW.out HBW.out.size (by simp only [List.length_nil, List.length_append, List.length_singleton]; omega) ?_); intro v7 w7 ho7 hb7 hg7 hat7)
              go_roundg (A.length + 1 - (n + 1))
              case measure => rw [HN.out]; omega
              case rel => exact ⟨n + 1, by go_num, by omega, rfl, by rw [HST.out, ← HT.out]; exact ho7, hb7⟩
    · have hn2 : n = A.length := by omega
      subst hn2
      have hst : S.take A.length = S := List.take_of_length_le hSl
      rw [hst] at hit ⊢
      have HIT := hid hit
      clear hown hit hst
      go_wp2_with fail
      go_ret
      exact ⟨At, ct, rfl, HIT.out, HB.out⟩
end Go.Proofs.Ytgfiifhnnjammaa
