/- Plain laws of a name's text: digits, what luw.number reads, what luw.Parse reads. -/
import Derived.Test.YtlbajagnfmbljaaQLow
import Derived.Test.YtlbajagnfmbljaaQx5p
namespace Go.Proofs.Ytlbajagnfmbljaa.Q
open Go.RowKit Go.Proofs.YtlbajagnfmbljaaW.PrintWords Go.Proofs.YtlbajagnfmbljaaW.PrintLast Go.Proofs.YtlbajagnfmbljaaW.PrintMore
set_option linter.unusedVariables false
set_option linter.unusedSimpArgs false

def isDig (x : UInt8) : Bool := decide (48 ≤ x.toNat ∧ x.toNat ≤ 57)
def accD (n : Nat) (l : List UInt8) : Nat := l.foldl (fun a x => 10 * a + (x.toNat - 48)) n
def lead (k : Nat) (l : List UInt8) : List UInt8 := (l.take k).takeWhile isDig

theorem lead_cons (k : Nat) (x : UInt8) (l : List UInt8) : lead (k + 1) (x :: l) = if isDig x = true then x :: lead k l else [] := by
  unfold lead
  rw [List.take_succ_cons, List.takeWhile_cons]

theorem scan_eq (s : ByteArray) : ∀ k i n, i ≤ s.size → scan s k i n = (accD n (lead k (s.data.toList.drop i)), i + (lead k (s.data.toList.drop i)).length)
  | 0, i, n, h => by simp [scan, lead, accD]
  | k + 1, i, n, h => by
    unfold scan
    by_cases hi : i < s.size
    · rw [dif_pos hi]
      have hl : i < s.data.toList.length := by simpa using hi
      have hd : s.data.toList.drop i = s[i]'hi :: s.data.toList.drop (i + 1) := by
        rw [List.drop_eq_getElem_cons hl]
        rfl
      rw [hd, lead_cons]
      by_cases hc : 48 ≤ (s[i]'hi).toNat ∧ (s[i]'hi).toNat ≤ 57
      · rw [if_pos hc, if_pos (by simpa [isDig] using hc), scan_eq s k (i + 1) _ (by omega)]
        simp only [accD, List.foldl_cons, List.length_cons, Prod.mk.injEq, true_and]
        omega
      · rw [if_neg hc, if_neg (by simpa [isDig] using hc)]
        simp [accD]
    · rw [dif_neg hi]
      have hd : s.data.toList.drop i = [] := by
        apply List.drop_eq_nil_of_le
        have : s.data.toList.length = s.size := by simp
        omega
      rw [hd]
      simp [lead, accD]

/-- A number's digits as bytes. -/
def bd (n : Nat) : List UInt8 := Lib.bytesOf (dec n)

theorem bd_last (n : Nat) (h : n / 10 = 0) : bd n = [UInt8.ofNat (48 + n % 10)] := by
  rw [bd, dec_last n h]
  simp only [Lib.bytesOf, List.map_cons, List.map_nil]
  congr 2

theorem bd_step (n : Nat) (h : n / 10 ≠ 0) : bd n = bd (n / 10) ++ [UInt8.ofNat (48 + n % 10)] := by
  rw [bd, dec_step n h]
  simp only [Lib.bytesOf, List.map_append, List.map_cons, List.map_nil]
  congr 2

theorem dig_nat (m : Nat) : (UInt8.ofNat (48 + m % 10)).toNat = 48 + m % 10 := by
  rw [UInt8.toNat_ofNat', Nat.mod_eq_of_lt (by omega)]

theorem accD_append (n : Nat) (a b : List UInt8) : accD n (a ++ b) = accD (accD n a) b := by simp [accD]

theorem bd_facts : ∀ k n, n < 10 ^ (k + 1) → (∀ x ∈ bd n, isDig x = true) ∧ accD 0 (bd n) = n ∧ bd n ≠ [] ∧ (bd n).length ≤ k + 1 ∧ (1 < (bd n).length → ∃ x xs, bd n = x :: xs ∧ x.toNat ≠ 48) ∧ (0 < n → ∃ x xs, bd n = x :: xs ∧ x.toNat ≠ 48)
  | k, n, h => by
    by_cases g : n / 10 = 0
    · rw [bd_last n g]
      refine ⟨?_, ?_, by simp, by simp, fun q => absurd q (by simp), ?_⟩
      · intro x hx
        simp only [List.mem_singleton] at hx
        subst hx
        unfold isDig
        rw [dig_nat]
        simp only [decide_eq_true_eq]
        omega
      · simp only [accD, List.foldl_cons, List.foldl_nil, dig_nat]
        omega
      · intro q
        refine ⟨_, _, rfl, ?_⟩
        rw [dig_nat]
        omega
    · cases k with
      | zero => omega
      | succ k =>
        obtain ⟨h1, h2, h3, h4, h5, h6⟩ := bd_facts k (n / 10) (by rw [Nat.pow_succ] at h; omega)
        rw [bd_step n g]
        have first : ∃ x xs, bd (n / 10) ++ [UInt8.ofNat (48 + n % 10)] = x :: xs ∧ x.toNat ≠ 48 := by
          obtain ⟨x, xs, e, hx⟩ := h6 (Nat.pos_of_ne_zero g)
          exact ⟨x, xs ++ [UInt8.ofNat (48 + n % 10)], by rw [e]; rfl, hx⟩
        refine ⟨?_, ?_, by simp, ?_, fun _ => first, fun _ => first⟩
        · intro x hx
          rw [List.mem_append] at hx
          rcases hx with hx | hx
          · exact h1 x hx
          · simp only [List.mem_singleton] at hx
            subst hx
            unfold isDig
            rw [dig_nat]
            simp only [decide_eq_true_eq]
            omega
        · rw [accD_append, h2]
          simp only [accD, List.foldl_cons, List.foldl_nil, dig_nat]
          omega
        · rw [List.length_append]
          simp only [List.length_cons, List.length_nil]
          omega

/-- Digits that no number's text could not be: they are their number's. -/
theorem bd_acc : ∀ m (d : List UInt8), d.length = m + 1 → (∀ x ∈ d, isDig x = true) → (1 < d.length → ∃ x xs, d = x :: xs ∧ x.toNat ≠ 48) → bd (accD 0 d) = d ∧ ((∃ x xs, d = x :: xs ∧ x.toNat ≠ 48) → 0 < accD 0 d)
  | 0, d, hl, hd, hc => by
    match d, hl with
    | [x], _ =>
      have hx := hd x List.mem_cons_self
      simp only [isDig, decide_eq_true_eq] at hx
      have e : accD 0 [x] = x.toNat - 48 := by simp [accD]
      rw [e, bd_last _ (by omega)]
      constructor
      · have : 48 + (x.toNat - 48) % 10 = x.toNat := by omega
        rw [this]
        simp
      · rintro ⟨y, ys, h, hy⟩
        cases h
        omega
  | m + 1, d, hl, hd, hc => by
    obtain ⟨x, xs, e, hx⟩ := hc (by omega)
    have hne : d ≠ [] := by intro q; rw [q] at hl; simp at hl
    have hs : d = d.dropLast ++ [d.getLast hne] := (List.dropLast_concat_getLast hne).symm
    have hl' : d.dropLast.length = m + 1 := by rw [List.length_dropLast]; omega
    have hfirst : ∃ x xs, d.dropLast = x :: xs ∧ x.toNat ≠ 48 := by
      subst e
      cases xs with
      | nil => simp at hl
      | cons y ys => exact ⟨x, (y :: ys).dropLast, rfl, hx⟩
    obtain ⟨i1, i2⟩ := bd_acc m d.dropLast hl' (fun y hy => hd y ((List.dropLast_sublist d).subset hy)) (fun _ => hfirst)
    have hp := i2 hfirst
    have hz := hd _ (List.getLast_mem hne)
    generalize d.getLast hne = z at hs hz
    simp only [isDig, decide_eq_true_eq] at hz
    rw [hs, accD_append]
    generalize accD 0 d.dropLast = a at i1 hp
    have ea : accD a [z] = 10 * a + (z.toNat - 48) := by simp [accD]
    rw [ea, bd_step _ (by omega), show (10 * a + (z.toNat - 48)) / 10 = a by omega, i1]
    constructor
    · have : 48 + (10 * a + (z.toNat - 48)) % 10 = z.toNat := by omega
      rw [this]
      simp
    · intro _
      omega

theorem lead_dig : ∀ k l, ∀ x ∈ lead k l, isDig x = true := by
  intro k l x hx
  unfold lead at hx
  exact List.all_eq_true.1 List.all_takeWhile x hx

theorem lead_len (k : Nat) (l : List UInt8) : (lead k l).length ≤ k := by
  unfold lead
  have h1 := (List.takeWhile_sublist (l := l.take k) isDig).length_le
  rw [List.length_take] at h1
  omega

theorem lead_pre (k : Nat) (l : List UInt8) : l = lead k l ++ l.drop (lead k l).length := by
  have h1 : lead k l <+: l := (List.takeWhile_prefix isDig).trans (List.take_prefix k l)
  obtain ⟨t, ht⟩ := h1
  generalize lead k l = d at ht
  subst ht
  rw [List.drop_left]

/-- Digits in front of something else: they are what is read. -/
theorem lead_of : ∀ (k : Nat) (d r : List UInt8), (∀ x ∈ d, isDig x = true) → d.length < k → (∀ x xs, r = x :: xs → isDig x = false) → lead k (d ++ r) = d
  | 0, d, r, hd, hk, hr => by omega
  | k + 1, [], r, hd, hk, hr => by
    cases r with
    | nil => simp [lead]
    | cons x xs => rw [List.nil_append, lead_cons, hr x xs rfl]; rfl
  | k + 1, x :: d, r, hd, hk, hr => by
    rw [List.cons_append, lead_cons, if_pos (hd x List.mem_cons_self), lead_of k d r (fun y hy => hd y (List.mem_cons_of_mem _ hy)) (by simpa using hk) hr]

theorem bd_u32 (n : Nat) (h : n < 4294967296) : (∀ x ∈ bd n, isDig x = true) ∧ accD 0 (bd n) = n ∧ bd n ≠ [] ∧ (bd n).length ≤ 10 ∧ (1 < (bd n).length → ∃ x xs, bd n = x :: xs ∧ x.toNat ≠ 48) := by
  obtain ⟨a, b, c, d, e, _⟩ := bd_facts 9 n (by omega)
  exact ⟨a, b, c, d, e⟩

theorem toList_len (s : ByteArray) : s.data.toList.length = s.size := by simp

theorem firstIs_of {s : ByteArray} {c : Nat} {x : UInt8} {xs : List UInt8} (h : s.data.toList = x :: xs) : firstIs s c = (x.toNat == c) := by
  have hl := toList_len s
  rw [h, List.length_cons] at hl
  unfold firstIs
  rw [dif_pos (by omega)]
  have : s[0]'(by omega) = x := by
    show s.data[0]'_ = x
    rw [← Array.getElem_toList]
    simp only [h, List.getElem_cons_zero]
  rw [this]

theorem byteIs_iff {s : ByteArray} {i : Nat} {c : Int} : byteIs s i c = true ↔ ∃ x xs, s.data.toList.drop i = x :: xs ∧ (x.toNat : Int) = c := by
  have hl := toList_len s
  unfold byteIs
  by_cases h : i < s.size
  · rw [dif_pos h]
    have hl' : i < s.data.toList.length := by omega
    have hd : s.data.toList.drop i = s[i]'h :: s.data.toList.drop (i + 1) := by
      rw [List.drop_eq_getElem_cons hl']
      rfl
    rw [hd]
    constructor
    · intro q
      exact ⟨_, _, rfl, by simpa using q⟩
    · rintro ⟨x, xs, e, hx⟩
      cases e
      simpa using hx
  · rw [dif_neg h]
    have hd : s.data.toList.drop i = [] := List.drop_eq_nil_of_le (by omega)
    rw [hd]
    constructor
    · intro q; cases q
    · rintro ⟨x, xs, e, _⟩; cases e

theorem extract_list (s : ByteArray) (a : Nat) : (s.extract a s.size).data.toList = s.data.toList.drop a := by
  have hl := toList_len s
  rw [ByteArray.data_extract, Array.toList_extract, List.extract_eq_take_drop]
  apply List.take_of_length_le
  rw [List.length_drop]
  omega

/-- What luw.number reads: a number's own digits, and the byte behind them, or the end. -/
theorem number_reads (s : ByteArray) (e : Int) (hs : s.size ≤ 9223372036854775807) :
    luw_number.f s e = some (0, (⟨#[]⟩ : ByteArray), false) ∨ ∃ n : Nat, n < 4294967296 ∧
      ((e = 0 ∧ s.data.toList = bd n ∧ luw_number.f s e = some ((n : Int), (⟨#[]⟩ : ByteArray), true)) ∨
       (e ≠ 0 ∧ ∃ x rest, (x.toNat : Int) = e ∧ s.data.toList = bd n ++ x :: rest.data.toList ∧ luw_number.f s e = some ((n : Int), rest, true))) := by
  unfold luw_number.f
  rw [if_pos hs]
  have hsc := scan_eq s 11 0 0 (by omega)
  rw [List.drop_zero, Nat.zero_add] at hsc
  have hpre := lead_pre 11 s.data.toList
  have hdig := lead_dig 11 s.data.toList
  generalize lead 11 s.data.toList = d at hsc hpre hdig
  rw [hsc]
  simp only
  by_cases hb : d.length = 0 ∨ 10 < d.length ∨ 4294967296 ≤ accD 0 d ∨ (firstIs s 48 = true ∧ 1 < d.length)
  · rw [if_pos hb]; exact Or.inl rfl
  · rw [if_neg hb]
    have hn : accD 0 d < 4294967296 := by omega
    have hcan : bd (accD 0 d) = d := by
      refine (bd_acc (d.length - 1) d (by omega) hdig ?_).1
      intro h1
      cases d with
      | nil => simp at h1
      | cons x xs =>
        refine ⟨x, xs, rfl, ?_⟩
        intro hx
        apply hb
        right; right; right
        refine ⟨?_, h1⟩
        rw [firstIs_of (x := x) (xs := xs ++ s.data.toList.drop (x :: xs).length) (by exact hpre), hx]
        rfl
    by_cases he : e = 0 ∧ d.length = s.size
    · rw [if_pos he]
      right
      refine ⟨accD 0 d, hn, Or.inl ⟨he.1, ?_, rfl⟩⟩
      rw [hcan]
      have hl := toList_len s
      have : s.data.toList.drop d.length = [] := List.drop_eq_nil_of_le (by omega)
      rw [this, List.append_nil] at hpre
      exact hpre
    · rw [if_neg he]
      by_cases hg : e ≠ 0 ∧ byteIs s d.length e = true
      · rw [if_pos hg]
        right
        obtain ⟨x, xs, hx, hxe⟩ := byteIs_iff.1 hg.2
        refine ⟨accD 0 d, hn, Or.inr ⟨hg.1, x, _, hxe, ?_, rfl⟩⟩
        rw [hcan, extract_list]
        have : s.data.toList.drop (d.length + 1) = xs := by
          rw [← List.drop_drop, hx]
          rfl
        rw [this, ← hx]
        exact hpre
      · rw [if_neg hg]; exact Or.inl rfl

/-- It reads what is so. -/
theorem number_end (s : ByteArray) (n : Nat) (hn : n < 4294967296) (h : s.data.toList = bd n) : luw_number.f s 0 = some ((n : Int), (⟨#[]⟩ : ByteArray), true) := by
  obtain ⟨b1, b2, b3, b4, b5⟩ := bd_u32 n hn
  have hl := toList_len s
  rw [h] at hl
  unfold luw_number.f
  rw [if_pos (by omega)]
  have hsc := scan_eq s 11 0 0 (by omega)
  rw [List.drop_zero, Nat.zero_add, h] at hsc
  have hlead : lead 11 (bd n) = bd n := by
    have := lead_of 11 (bd n) [] b1 (by omega) (fun x xs q => by cases q)
    rwa [List.append_nil] at this
  rw [hlead] at hsc
  rw [hsc]
  simp only
  rw [b2]
  have hpos : 0 < (bd n).length := List.length_pos_iff.2 b3
  rw [if_neg, if_pos ⟨trivial, hl⟩]
  rintro (q | q | q | ⟨q1, q2⟩)
  · omega
  · omega
  · omega
  · obtain ⟨x, xs, ex, hx⟩ := b5 q2
    rw [firstIs_of (x := x) (xs := xs) (by rw [h, ex])] at q1
    exact hx (by simpa using q1)

theorem number_upto (s : ByteArray) (n : Nat) (c : UInt8) (rest : List UInt8) (hn : n < 4294967296) (hs : s.size ≤ 9223372036854775807) (hc : isDig c = false) (hc0 : c.toNat ≠ 0) (h : s.data.toList = bd n ++ c :: rest) :
    ∃ r, luw_number.f s (c.toNat : Int) = some ((n : Int), r, true) ∧ r.data.toList = rest := by
  obtain ⟨b1, b2, b3, b4, b5⟩ := bd_u32 n hn
  unfold luw_number.f
  rw [if_pos hs]
  have hsc := scan_eq s 11 0 0 (by omega)
  rw [List.drop_zero, Nat.zero_add, h] at hsc
  have hlead : lead 11 (bd n ++ c :: rest) = bd n := lead_of 11 (bd n) (c :: rest) b1 (by omega) (fun x xs q => by cases q; exact hc)
  rw [hlead] at hsc
  rw [hsc]
  simp only
  rw [b2]
  have hpos : 0 < (bd n).length := List.length_pos_iff.2 b3
  have hne : ¬ ((c.toNat : Int) = 0) := by omega
  have hb : byteIs s (bd n).length (c.toNat : Int) = true := by
    apply byteIs_iff.2
    refine ⟨c, rest, ?_, rfl⟩
    rw [h, List.drop_left]
  rw [if_neg, if_neg (fun q => hne q.1), if_pos ⟨hne, hb⟩]
  · refine ⟨_, rfl, ?_⟩
    rw [extract_list, h, ← List.drop_drop, List.drop_left]
    rfl
  · rintro (q | q | q | ⟨q1, q2⟩)
    · omega
    · omega
    · omega
    · obtain ⟨x, xs, ex, hx⟩ := b5 q2
      rw [firstIs_of (x := x) (xs := xs ++ c :: rest) (by rw [h, ex]; rfl)] at q1
      exact hx (by simpa using q1)

end Go.Proofs.Ytlbajagnfmbljaa.Q
