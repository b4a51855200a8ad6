/- LuwPrints: the plain law (the reference reads what is printed, and nothing else), and the walk that answers true. -/
import Derived.Test.YtlbajagnfmbljaaQParse
import Derived.Test.YtlbajagnfmbljaaQAlive
import Derived.Test.YtlbajagnfmbljaaQx10
import Derived.IntWalk
import Derived.OpenShut
namespace Go.Proofs.Ytlbajagnfmbljaa.Q
open Go.RowKit Go.Proofs.YtlbajagnfmbljaaW.PrintWords Go.Proofs.YtlbajagnfmbljaaW.PrintLast Go.Proofs.YtlbajagnfmbljaaW.PrintMore
set_option linter.unusedVariables false
set_option linter.unusedSimpArgs false

theorem u64in (n : Int) (h0 : 0 ≤ n) (h1 : n ≤ 18446744073709551615) : IntKind.u64.wrap n = n := IntWalk.u64_in n ⟨h0, h1⟩

theorem ref_digits (k : Nat) : ∀ m n : Nat, n < 10 ^ (m + 1) → n < 4294967296 → m < 1000 → trothref05_Digits.f (m + 1 + k) (n : Int) = some (strOfNums (dec n))
  | m, n, h, hn, hm => by
    rw [show m + 1 + k = (m + k) + 1 by omega]
    simp only [trothref05_Digits.f]
    by_cases c : n < 10
    · rw [if_pos (by omega), u64in _ (by omega) (by omega), dec_last n (by omega)]
      congr 2
      simp only [List.cons.injEq, and_true]
      omega
    · rw [if_neg (by omega)]
      cases m with
      | zero => omega
      | succ m =>
        have e1 : Int.tdiv (n : Int) 10 = ((n / 10 : Nat) : Int) := by
          rw [Int.tdiv_eq_ediv_of_nonneg (by omega)]; omega
        have e2 : Int.tmod (n : Int) 10 = ((n % 10 : Nat) : Int) := by
          rw [Int.tmod_eq_emod_of_nonneg (by omega)]; omega
        have hlen := dec_len m (n / 10) (by rw [Nat.pow_succ] at h; omega)
        rw [e1, e2, u64in _ (by omega) (by omega), u64in _ (by omega) (by omega), ref_digits k m (n / 10) (by rw [Nat.pow_succ] at h; omega) (by omega) (by omega), Option.bind_some, Option.bind_some]
        rw [if_pos (by rw [strOfNums_size, strOfNums_size]; simp only [List.length_cons, List.length_nil]; omega), strOfNums_append, dec_step n (by omega)]
        congr 3
        simp only [List.cons.injEq, and_true]
        omega

theorem ref_print_eq (k : Nat) (u l q : Int) (h1 : U32 l) (h2 : U32 q) : trothref05_Print.f (10 + k) u l q = some (if rightP u q = true then strOfNums (textP u l q) else (⟨#[]⟩ : ByteArray)) := by
  unfold U32 at h1 h2
  unfold trothref05_Print.f
  have hr0 : trothref05_Right.f u l q = some (rightP u q) := by
    rw [← right_eq u l q]
    unfold luw_Right.f trothref05_Right.f
    have : (q != 0) = decide (q > 0) := by
      by_cases h : q = 0
      · subst h; rfl
      · rw [decide_eq_true (by omega)]; simpa using h
    rw [this]
  rw [hr0]
  simp only [Option.bind_some]
  by_cases hr : rightP u q = true
  · have hr' := hr
    simp only [rightP, decide_eq_true_eq] at hr'
    have l1 := dec_len 9 l.toNat (by omega)
    have l2 := dec_len 9 q.toNat (by omega)
    have e0 : wrap64 (97 + u) % 256 = 97 + u := by unfold wrap64; omega
    have e1 : (⟨#[46]⟩ : ByteArray) = strOfNums [46] := rfl
    have d1 : trothref05_Digits.f (10 + k) (IntKind.u64.wrap l) = some (strOfNums (dec l.toNat)) := by
      rw [u64in l (by omega) (by omega)]
      have := ref_digits k 9 l.toNat (by omega) (by omega) (by omega)
      rwa [Int.toNat_of_nonneg h1.1] at this
    have d2 : trothref05_Digits.f (10 + k) (IntKind.u64.wrap q) = some (strOfNums (dec q.toNat)) := by
      rw [u64in q (by omega) (by omega)]
      have := ref_digits k 9 q.toNat (by omega) (by omega) (by omega)
      rwa [Int.toNat_of_nonneg h2.1] at this
    simp only [hr, if_true, d1, d2, Option.bind_some, e0, e1, strOfNums_append, strOfNums_size, List.length_append, List.length_cons, List.length_nil]
    rw [if_pos (by omega), if_pos (by omega), if_pos (by omega)]
    rfl
  · simp only [hr, if_false]
    rfl

theorem bt_drop {s : ByteArray} {i : Nat} {x : UInt8} {xs : List UInt8} (h : s.data.toList.drop i = x :: xs) : bt s (i : Int) = (x.toNat : Int) ∧ i < s.size := by
  have hl := toList_len s
  have hi : i < s.size := by
    have := congrArg List.length h
    rw [List.length_drop, List.length_cons] at this
    omega
  refine ⟨?_, hi⟩
  unfold bt
  have ht : (i : Int).toNat = i := rfl
  rw [dif_pos (by rw [ht]; exact hi)]
  have hl' : i < s.data.toList.length := by omega
  rw [List.drop_eq_getElem_cons hl'] at h
  injection h with h _
  rw [← h]
  rfl

theorem worth_total (k : Nat) (s : ByteArray) (hs : s.size ≤ 100) : ∀ (m : Nat) (a i : Int), 0 ≤ i → (s.size : Int) - i ≤ m → i ≤ 101 → ∃ t, trothref05_worth.l0 (m + 1 + k) s a i = some t
  | m, a, i, h0, hm, hi => by
    rw [show m + 1 + k = (m + k) + 1 by omega]
    simp only [trothref05_worth.l0]
    by_cases c1 : i < (s.size : Int)
    · rw [if_pos c1]
      by_cases c2 : i < 12
      · rw [if_pos c2, if_pos h0]
        cases m with
        | zero => omega
        | succ m =>
          have ew : wrap64 (i + 1) = i + 1 := by unfold wrap64; omega
          rw [ew]
          exact worth_total k s hs m _ (i + 1) (by omega) (by omega) (by omega)
      · rw [if_neg c2]; exact ⟨_, rfl⟩
    · rw [if_neg c1]; exact ⟨_, rfl⟩

theorem worth_run (k : Nat) (s : ByteArray) : ∀ (d : List UInt8) (a i : Nat), s.data.toList.drop i = d → (∀ x ∈ d, isDig x = true) → i + d.length ≤ 10 → a < 10 ^ i → trothref05_worth.l0 (d.length + 1 + k) s (a : Int) (i : Int) = some ((accD a d : Nat) : Int)
  | [], a, i, hd, hx, hl, ha => by
    rw [show ([] : List UInt8).length + 1 + k = k + 1 by simp; omega]
    simp only [trothref05_worth.l0]
    have hlen := toList_len s
    have := List.drop_eq_nil_iff.1 hd
    rw [if_neg (by omega)]
    rfl
  | x :: d, a, i, hd, hx, hl, ha => by
    rw [List.length_cons] at hl
    rw [show (x :: d).length + 1 + k = (d.length + 1 + k) + 1 by simp; omega]
    simp only [trothref05_worth.l0]
    obtain ⟨hb, hi⟩ := bt_drop hd
    have hdx := hx x List.mem_cons_self
    simp only [isDig, decide_eq_true_eq] at hdx
    have hp : (10 : Nat) ^ i ≤ 10 ^ 9 := Nat.pow_le_pow_right (by omega) (by omega)
    have ew : wrap64 ((i : Int) + 1) = ((i + 1 : Nat) : Int) := by unfold wrap64; omega
    rw [if_pos (by omega), if_pos (by omega), if_pos (by omega), hb, ew]
    rw [u64in (10 * (a : Int)) (by omega) (by omega), u64in (x.toNat : Int) (by omega) (by omega), u64in (10 * (a : Int) + (x.toNat : Int)) (by omega) (by omega), u64in _ (by omega) (by omega)]
    have e : 10 * (a : Int) + (x.toNat : Int) - 48 = ((10 * a + (x.toNat - 48) : Nat) : Int) := by omega
    rw [e]
    have hdd : s.data.toList.drop (i + 1) = d := by rw [← List.drop_drop, hd]; rfl
    exact worth_run k s d _ (i + 1) hdd (fun y hy => hx y (List.mem_cons_of_mem _ hy)) (by omega) (by rw [Nat.pow_succ]; omega)

/-- What the reference's answer is like: no name, or one whose text this is. -/
def Good (s : ByteArray) (r : Option (Int × Int × Int × Int)) : Prop := r = some (0, 0, 0, 50) ∨ ∃ u l q, Fits s u l q ∧ r = some (u, l, q, 0)

theorem ref_right (u l q : Int) (hq : 0 ≤ q) : trothref05_Right.f u l q = some (rightP u q) := by
  rw [← right_eq u l q]
  unfold luw_Right.f trothref05_Right.f
  have : (q != 0) = decide (q > 0) := by
    by_cases h : q = 0
    · subst h; rfl
    · rw [decide_eq_true (by omega)]; simpa using h
  rw [this]

theorem good_j2 (k : Nat) (s : ByteArray) (x4 : Int) (b : Bool) (hs : s.size ≤ 100) (hx : b = false → 1 ≤ x4 ∧ x4 < (s.size : Int)) : Good s (trothref05_Parse.j2 (112 + k) s x4 b) := by
  rw [show 112 + k = (111 + k) + 1 by omega]
  simp only [trothref05_Parse.j2]
  cases b with
  | true => rw [if_pos rfl]; exact Or.inl rfl
  | false =>
    obtain ⟨h1, h2⟩ := hx rfl
    have ew : wrap64 (x4 + 1) = x4 + 1 := by unfold wrap64; omega
    have sz : ∀ a b, (s.extract a b).size ≤ 100 := by
      intro a b
      have := ByteArray.size_extract (a := s) (b := a) (e := b)
      omega
    obtain ⟨t1, e1⟩ := worth_total (10 + k) (s.extract 1 x4.toNat) (sz _ _) 100 0 0 (by omega) (by have := sz 1 x4.toNat; omega) (by omega)
    obtain ⟨t2, e2⟩ := worth_total (10 + k) (s.extract (x4 + 1).toNat s.size) (sz _ _) 100 0 0 (by omega) (by have := sz (x4 + 1).toNat s.size; omega) (by omega)
    have f1 : trothref05_worth.f (111 + k) (s.extract 1 x4.toNat) = some t1 := by
      unfold trothref05_worth.f
      rw [← e1, show 111 + k = 100 + 1 + (10 + k) by omega]
    have f2 : trothref05_worth.f (111 + k) (s.extract (x4 + 1).toNat s.size) = some t2 := by
      unfold trothref05_worth.f
      rw [← e2, show 111 + k = 100 + 1 + (10 + k) by omega]
    rw [if_neg (by simp), if_pos h1, if_pos (by omega), f1, Option.bind_some, ew, if_pos (by omega), if_pos (by omega), f2, Option.bind_some, if_pos (by omega)]
    by_cases c1 : t1 > 4294967295
    · rw [if_pos c1]; exact Or.inl rfl
    · rw [if_neg c1]
      by_cases c2 : t2 > 4294967295
      · rw [if_pos c2]; exact Or.inl rfl
      · rw [if_neg c2]
        have u1 : U32 (t1 % 4294967296) := ⟨by omega, by omega⟩
        have u2 : U32 (t2 % 4294967296) := ⟨by omega, by omega⟩
        rw [ref_right _ _ _ u2.1, Option.bind_some]
        by_cases hr : rightP (wrap64 (wrap64 (bt s 0) - 97)) (t2 % 4294967296) = true
        · rw [if_pos hr, show 111 + k = 10 + (101 + k) by omega, ref_print_eq _ _ _ _ u1 u2, if_pos hr, Option.bind_some]
          by_cases ht : (strOfNums (textP (wrap64 (wrap64 (bt s 0) - 97)) (t1 % 4294967296) (t2 % 4294967296))).toList = s.toList
          · rw [if_pos ht]
            right
            refine ⟨_, _, _, ⟨hr, u1, u2, ?_⟩, rfl⟩
            rw [ByteArray.toList_eq, ByteArray.toList_eq] at ht
            rw [← ht, text_list]
          · rw [if_neg ht]; exact Or.inl rfl
        · rw [if_neg hr]; exact Or.inl rfl

theorem good_l0 (k : Nat) (s : ByteArray) (hs : s.size ≤ 100) : ∀ (m : Nat) (x4 x5 : Int), 0 ≤ x5 → (s.size : Int) - x5 = m → (x4 = -1 ∨ (0 ≤ x4 ∧ x4 < x5)) → Good s (trothref05_Parse.l0 (2 * m + 1 + (112 + k)) s x4 x5)
  | m, x4, x5, h0, hm, hx => by
    cases m with
    | zero =>
      rw [show 2 * 0 + 1 + (112 + k) = (112 + k) + 1 by omega]
      simp only [trothref05_Parse.l0]
      rw [if_neg (by omega)]
      by_cases c : x4 < 1
      · rw [if_pos c]
        exact good_j2 k s x4 true hs (fun h => by cases h)
      · rw [if_neg c]
        exact good_j2 k s x4 _ hs (fun _ => ⟨by omega, by omega⟩)
    | succ m =>
      have ew : wrap64 (x5 + 1) = x5 + 1 := by unfold wrap64; omega
      have j1 : ∀ b, Good s (trothref05_Parse.j1 (2 * m + 1 + (112 + k) + 1) s x4 x5 b) := by
        intro b
        simp only [trothref05_Parse.j1]
        rw [ew]
        cases b with
        | true =>
          rw [if_pos rfl]
          exact good_l0 k s hs m x5 (x5 + 1) (by omega) (by omega) (Or.inr ⟨h0, by omega⟩)
        | false =>
          rw [if_neg (by simp)]
          have next := good_l0 k s hs m x4 (x5 + 1) (by omega) (by omega) (by omega)
          by_cases c1 : x5 > 0
          · rw [if_pos c1, if_pos h0, if_pos (by omega)]
            by_cases c2 : bt s x5 < 48
            · rw [if_pos c2]; exact Or.inl rfl
            · rw [if_neg c2]
              by_cases c3 : bt s x5 > 57
              · rw [if_pos c3]; exact Or.inl rfl
              · rw [if_neg c3]; exact next
          · rw [if_neg c1]; exact next
      rw [show 2 * (m + 1) + 1 + (112 + k) = (2 * m + 1 + (112 + k) + 1) + 1 by omega]
      simp only [trothref05_Parse.l0]
      rw [if_pos (by omega), if_pos h0]
      by_cases c : bt s x5 = 46
      · rw [if_pos c]; exact j1 _
      · rw [if_neg c]; exact j1 _

theorem run_digits (s : ByteArray) (hs : s.size ≤ 100) (x4 : Int) (r : List UInt8) : ∀ (d : List UInt8) (k i : Nat), 0 < i → s.data.toList.drop i = d ++ r → (∀ x ∈ d, isDig x = true) → trothref05_Parse.l0 (2 * d.length + k) s x4 (i : Int) = trothref05_Parse.l0 k s x4 ((i + d.length : Nat) : Int)
  | [], k, i, hi, hd, hx => by simp
  | x :: d, k, i, hi, hd, hx => by
    obtain ⟨hb, hlt⟩ := bt_drop (xs := d ++ r) hd
    have hdx := hx x List.mem_cons_self
    simp only [isDig, decide_eq_true_eq] at hdx
    have ew : wrap64 ((i : Int) + 1) = ((i + 1 : Nat) : Int) := by unfold wrap64; omega
    rw [show 2 * (x :: d).length + k = ((2 * d.length + k) + 1) + 1 by simp; omega]
    simp only [trothref05_Parse.l0, trothref05_Parse.j1]
    rw [if_pos (by omega), if_pos (by omega), hb, if_neg (by omega), if_neg (by simp), if_pos (by omega), if_pos (by omega), if_pos (by omega), if_neg (by omega), if_neg (by omega), ew]
    have hdd : s.data.toList.drop (i + 1) = d ++ r := by rw [← List.drop_drop, hd]; rfl
    rw [run_digits s hs x4 r d k (i + 1) (by omega) hdd (fun y hy => hx y (List.mem_cons_of_mem _ hy))]
    congr 2
    simp only [List.length_cons]
    omega

theorem run_dot (s : ByteArray) (p : Nat) (r : List UInt8) (hd : s.data.toList.drop p = 46 :: r) (hp : p < 200) (K : Nat) : trothref05_Parse.l0 (K + 1 + 1) s (-1) (p : Int) = trothref05_Parse.l0 K s (p : Int) ((p + 1 : Nat) : Int) := by
  obtain ⟨hb, hlt⟩ := bt_drop hd
  have hb' : bt s (p : Int) = 46 := hb
  have w2 : wrap64 ((p : Int) + 1) = ((p + 1 : Nat) : Int) := by unfold wrap64; omega
  have hlt' : (p : Int) < (s.size : Int) := by omega
  have h0 : (0 : Int) ≤ (p : Int) := by omega
  simp only [trothref05_Parse.l0, trothref05_Parse.j1]
  rw [if_pos hlt', if_pos h0, if_pos hb', if_pos (show decide ((-1 : Int) < 0) = true from rfl), w2]

theorem run_first (s : ByteArray) (x : UInt8) (xs : List UInt8) (hd : s.data.toList = x :: xs) (hx : x.toNat ≠ 46) (K : Nat) : trothref05_Parse.l0 (K + 1 + 1) s (-1) 0 = trothref05_Parse.l0 K s (-1) ((1 : Nat) : Int) := by
  have hb := bt_first hd
  have hl := toList_len s
  rw [hd, List.length_cons] at hl
  have h1 : (0 : Int) < (s.size : Int) := by omega
  have h2 : ¬ (bt s 0 = 46) := by rw [hb]; omega
  have w1 : wrap64 (0 + 1) = ((1 : Nat) : Int) := by unfold wrap64; omega
  simp only [trothref05_Parse.l0, trothref05_Parse.j1]
  rw [if_pos h1, if_pos (Int.le_refl 0), if_neg h2, if_neg (by simp), if_neg (by omega), w1]

theorem list_extract (s : ByteArray) (a b : Nat) : (s.extract a b).data.toList = (s.data.toList.drop a).take (b - a) := by
  rw [ByteArray.data_extract, Array.toList_extract, List.extract_eq_take_drop]

theorem ref_j2 (G : Nat) (hG : 111 ≤ G) (s : ByteArray) (u l q : Int) (p : Nat) (hr : rightP u q = true) (h1 : U32 l) (h2 : U32 q) (hp : 1 ≤ p) (hps : p + 1 ≤ s.size) (hs : s.size ≤ 100) (hb : bt s 0 = 97 + u)
    (x1 : (s.extract 1 p).data.toList = bd l.toNat) (x2 : (s.extract (p + 1) s.size).data.toList = bd q.toNat) (ht : s.data.toList = textB u l q) : trothref05_Parse.j2 (G + 1) s (p : Int) false = some (u, l, q, 0) := by
  have h1' := h1
  have h2' := h2
  unfold U32 at h1' h2'
  have hr' := hr
  simp only [rightP, decide_eq_true_eq] at hr'
  have k1 : l.toNat < 4294967296 := by omega
  have k2 : q.toNat < 4294967296 := by omega
  have w2 : wrap64 ((p : Int) + 1) = ((p + 1 : Nat) : Int) := by unfold wrap64; omega
  have w3 : ((p : Int)).toNat = p := rfl
  have w4 : (((p + 1 : Nat) : Int)).toNat = p + 1 := rfl
  have f1 : trothref05_worth.f G (s.extract 1 p) = some l := by
    unfold trothref05_worth.f
    have len := (bd_u32 l.toNat k1).2.2.2.1
    have := worth_run (G - ((bd l.toNat).length + 1)) (s.extract 1 p) (bd l.toNat) 0 0 (by rw [List.drop_zero, x1]) (bd_u32 l.toNat k1).1 (by rw [Nat.zero_add]; exact len) (by decide)
    rw [(bd_u32 l.toNat k1).2.1, Int.toNat_of_nonneg h1'.1, Nat.add_sub_cancel' (by omega)] at this
    exact this
  have f2 : trothref05_worth.f G (s.extract (p + 1) s.size) = some q := by
    unfold trothref05_worth.f
    have len := (bd_u32 q.toNat k2).2.2.2.1
    have := worth_run (G - ((bd q.toNat).length + 1)) (s.extract (p + 1) s.size) (bd q.toNat) 0 0 (by rw [List.drop_zero, x2]) (bd_u32 q.toNat k2).1 (by rw [Nat.zero_add]; exact len) (by decide)
    rw [(bd_u32 q.toNat k2).2.1, Int.toNat_of_nonneg h2'.1, Nat.add_sub_cancel' (by omega)] at this
    exact this
  have f3 : trothref05_Print.f G u l q = some (strOfNums (textP u l q)) := by
    have := ref_print_eq (G - 10) u l q h1 h2
    rw [Nat.add_sub_cancel' (by omega), if_pos hr] at this
    exact this
  have c1 : (1 : Int) ≤ (p : Int) := by omega
  have c2 : (p : Int) ≤ (s.size : Int) := by omega
  have c3 : (0 : Int) ≤ ((p + 1 : Nat) : Int) := by omega
  have c4 : ((p + 1 : Nat) : Int) ≤ (s.size : Int) := by omega
  have c5 : (0 : Int) < (s.size : Int) := by omega
  have c6 : ¬ (l > 4294967295) := by omega
  have c7 : ¬ (q > 4294967295) := by omega
  have ew : wrap64 (wrap64 (97 + u) - 97) = u := by unfold wrap64; omega
  have m1 : l % 4294967296 = l := by omega
  have m2 : q % 4294967296 = q := by omega
  simp only [trothref05_Parse.j2]
  rw [w2, w3, w4, if_neg (by simp), if_pos c1, if_pos c2, f1, Option.bind_some, if_pos c3, if_pos c4, f2, Option.bind_some, if_pos c5, if_neg c6, if_neg c7, hb]
  rw [ew, m1, m2, ref_right _ _ _ h2'.1, Option.bind_some, if_pos hr, f3, Option.bind_some]
  rw [if_pos (by rw [ByteArray.toList_eq, ByteArray.toList_eq, text_list, ht])]

theorem ref_end (F : Nat) (s : ByteArray) (x4 x5 : Int) (h5 : x5 = (s.size : Int)) (h4 : 1 ≤ x4) (hz : s.size ≤ 23) : trothref05_Parse.l0 (F + 1) s x4 x5 = trothref05_Parse.j2 F s x4 false := by
  have c1 : ¬ (x5 < (s.size : Int)) := by omega
  have c2 : ¬ (x4 < 1) := by omega
  have c3 : decide ((s.size : Int) > 23) = false := decide_eq_false (by omega)
  simp only [trothref05_Parse.l0]
  rw [if_neg c1, if_neg c2, c3]

theorem ref_back (G : Nat) (hG : 111 ≤ G) (s : ByteArray) (u l q : Int) (h : Fits s u l q) : trothref05_Parse.f (2 * s.size + 1 + (G + 1)) s = some (u, l, q, 0) := by
  obtain ⟨hr, hu1, hu2, ht⟩ := h
  have hr' := hr
  simp only [rightP, decide_eq_true_eq] at hr'
  have k1 : l.toNat < 4294967296 := by have := hu1.2; have := hu1.1; omega
  have k2 : q.toNat < 4294967296 := by have := hu2.2; have := hu2.1; omega
  have l1 := (bd_u32 l.toNat k1).2.2.2.1
  have l2 := (bd_u32 q.toNat k2).2.2.2.1
  have a1 := (bd_u32 l.toNat k1).1
  have a2 := (bd_u32 q.toNat k2).1
  have hl := toList_len s
  have htl := ht
  unfold textB at htl
  rw [htl, List.length_cons, List.length_append, List.length_cons] at hl
  have hs : s.size ≤ 100 := by omega
  have hs23 : s.size ≤ 23 := by omega
  have ex : ((UInt8.ofNat (97 + u).toNat).toNat : Int) = 97 + u := by
    rw [UInt8.toNat_ofNat', Nat.mod_eq_of_lt (by omega)]
    omega
  have hb : bt s 0 = 97 + u := (bt_first htl).trans ex
  have d1 : s.data.toList.drop 1 = bd l.toNat ++ 46 :: bd q.toNat := by rw [htl]; rfl
  have d2 : s.data.toList.drop (1 + (bd l.toNat).length) = 46 :: bd q.toNat := by rw [← List.drop_drop, d1, List.drop_left]
  have d3 : s.data.toList.drop (1 + (bd l.toNat).length + 1) = bd q.toNat ++ [] := by rw [← List.drop_drop, d2, List.append_nil]; rfl
  have x1 : (s.extract 1 (1 + (bd l.toNat).length)).data.toList = bd l.toNat := by
    rw [list_extract, d1, Nat.add_sub_cancel_left, List.take_left]
  have x2 : (s.extract (1 + (bd l.toNat).length + 1) s.size).data.toList = bd q.toNat := by
    rw [extract_list, d3, List.append_nil]
  have fin := ref_j2 G hG s u l q (1 + (bd l.toNat).length) hr hu1 hu2 (by omega) (by omega) hs hb x1 x2 ht
  have e4 := ref_end (G + 1) s ((1 + (bd l.toNat).length : Nat) : Int) ((1 + (bd l.toNat).length + 1 + (bd q.toNat).length : Nat) : Int) (by omega) (by omega) hs23
  have e3 := run_digits s hs ((1 + (bd l.toNat).length : Nat) : Int) [] (bd q.toNat) (G + 1 + 1) (1 + (bd l.toNat).length + 1) (by omega) d3 a2
  have e2 := run_dot s (1 + (bd l.toNat).length) _ d2 (by omega) (2 * (bd q.toNat).length + (G + 1 + 1))
  have e1 := run_digits s hs (-1) (46 :: bd q.toNat) (bd l.toNat) (2 * (bd q.toNat).length + (G + 1 + 1) + 1 + 1) 1 (by omega) d1 a1
  have e0 := run_first s _ _ htl (by omega) (2 * (bd l.toNat).length + (2 * (bd q.toNat).length + (G + 1 + 1) + 1 + 1))
  have fu : 2 * s.size + 1 + (G + 1) = 2 * (bd l.toNat).length + (2 * (bd q.toNat).length + (G + 1 + 1) + 1 + 1) + 1 + 1 := by omega
  unfold trothref05_Parse.f
  rw [fu]
  exact e0.trans (e1.trans (e2.trans (e3.trans (e4.trans fin))))

/-- LuwPrints, plainly. -/
theorem luwPrints_plain (s : ByteArray) (u l q : Int) (h1 : U32 l) (h2 : U32 q) : ∃ k, trothlaw05_LuwPrints.f k u l q s = some true := by
  refine ⟨2 * s.size + 1 + (112 + 0), ?_⟩
  unfold trothlaw05_LuwPrints.f
  rw [alive_eq]
  by_cases c : (s.size : Int) > 100
  · rw [if_pos c]; rfl
  · rw [if_neg c]
    have same : trothref05_Parse.f (2 * s.size + 1 + (112 + 0)) s = luw_Parse.f s := by
      rcases parse_reads s (by omega) with h | ⟨u', l', q', hf, h⟩
      · rw [h]
        have := good_l0 0 s (by omega) s.size (-1) 0 (by omega) (by omega) (Or.inl rfl)
        rcases this with g | ⟨u', l', q', hf, _⟩
        · exact g
        · rw [parse_back s u' l' q' hf] at h
          cases h
      · rw [h]; exact ref_back 111 (by omega) s u' l' q' hf
    have pr : trothref05_Print.f (2 * s.size + 1 + (112 + 0)) u l q = luw_Print.f u l q := by
      rw [print_eq u l q h1 h2, show 2 * s.size + 1 + (112 + 0) = 10 + (2 * s.size + 103) by omega, ref_print_eq _ _ _ _ h1 h2]
    rw [same, pr, print_eq u l q h1 h2]
    obtain ⟨n, hn⟩ : ∃ n, luw_Parse.f s = some n := by
      rcases parse_reads s (by omega) with h | ⟨u', l', q', hf, h⟩
      · exact ⟨_, h⟩
      · exact ⟨_, h⟩
    rw [hn]
    simp

theorem prints_walk (u l q : Int) (s : ByteArray) (w : World) (h1 : (Lit.int .u32 l).wf = true) (h2 : (Lit.int .u32 q).wf = true) :
    Calls Try.prog 4 #[.agg #[.int .i64 u, .int .u32 l, .int .u32 q], .string s] w fun e w' => e = .returned (.bool true) ∧ Below w.heap.size w w' := by
  have b1 := bounds_u32 h1
  have b2 := bounds_u32 h2
  obtain ⟨k, hk⟩ := luwPrints_plain s u l q ⟨by omega, by omega⟩ ⟨by omega, by omega⟩
  exact trothlaw05_LuwPrints.calls k u l q s true w hk

end Go.Proofs.Ytlbajagnfmbljaa.Q
