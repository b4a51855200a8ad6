/- Plain laws: what bytes.Compare says of two rows of as many bytes is what their numbers say. -/
import Derived.Lib.BytesEntry
namespace Go.Proofs.Ytlbajagnfmbljaa.Q

/-- The number that a row of bytes is, the greatest byte first. -/
def beval : List Int → Nat
  | [] => 0
  | x :: xs => x.toNat * 256 ^ xs.length + beval xs

def Bytes (l : List Int) : Prop := ∀ x ∈ l, 0 ≤ x ∧ x < 256

theorem beval_lt : ∀ l : List Int, Bytes l → beval l < 256 ^ l.length
  | [], _ => by simp [beval]
  | x :: xs, h => by
    have ih := beval_lt xs (fun y hy => h y (List.mem_cons_of_mem _ hy))
    have hx := h x List.mem_cons_self
    have h1 : x.toNat ≤ 255 := by omega
    have h2 := Nat.mul_le_mul_right (256 ^ xs.length) h1
    simp only [beval, List.length_cons, Nat.pow_succ]
    omega

theorem cmp_lt : ∀ l0 l1 : List Int, l0.length = l1.length → Bytes l0 → Bytes l1 → ((Lib.compareBytes (Lib.bytesOf l0) (Lib.bytesOf l1) < 0) ↔ beval l0 < beval l1)
  | [], [], _, _, _ => by simp [Lib.bytesOf, Lib.compareBytes, beval]
  | [], _ :: _, h, _, _ => by simp at h
  | _ :: _, [], h, _, _ => by simp at h
  | x :: xs, y :: ys, h, h0, h1 => by
    have hl : xs.length = ys.length := by simpa using h
    have g0 : Bytes xs := fun z hz => h0 z (List.mem_cons_of_mem _ hz)
    have g1 : Bytes ys := fun z hz => h1 z (List.mem_cons_of_mem _ hz)
    have ih := cmp_lt xs ys hl g0 g1
    have b0 := beval_lt xs g0
    have b1 := beval_lt ys g1
    have hx := h0 x List.mem_cons_self
    have hy := h1 y List.mem_cons_self
    have e : ∀ a b : Int, 0 ≤ a ∧ a < 256 → 0 ≤ b ∧ b < 256 → ((UInt8.ofNat a.toNat < UInt8.ofNat b.toNat) ↔ a < b) := by
      intro a b ha hb
      rw [UInt8.lt_iff_toNat_lt, UInt8.toNat_ofNat', UInt8.toNat_ofNat', Nat.mod_eq_of_lt (by omega), Nat.mod_eq_of_lt (by omega)]
      omega
    simp only [Lib.bytesOf, List.map_cons, Lib.compareBytes, beval]
    rw [← hl] at b1 ⊢
    by_cases c1 : x < y
    · rw [if_pos ((e x y hx hy).2 c1)]
      have h1 : x.toNat + 1 ≤ y.toNat := by omega
      have h2 := Nat.mul_le_mul_right (256 ^ xs.length) h1
      rw [Nat.add_mul] at h2
      constructor
      · intro _; omega
      · intro _; omega
    · rw [if_neg (fun q => c1 ((e x y hx hy).1 q))]
      by_cases c2 : y < x
      · rw [if_pos ((e y x hy hx).2 c2)]
        have h1 : y.toNat + 1 ≤ x.toNat := by omega
        have h2 := Nat.mul_le_mul_right (256 ^ xs.length) h1
        rw [Nat.add_mul] at h2
        constructor
        · intro q; omega
        · intro q; omega
      · rw [if_neg (fun q => c2 ((e y x hy hx).1 q))]
        have hxy : x = y := by omega
        subst hxy
        simp only [Lib.bytesOf] at ih
        rw [ih]
        omega

/-- The eight bytes behind a name's unit: which of two stand ahead. -/
theorem cmp_eight (b c d e : Int) (hb : 0 ≤ b ∧ b < 4294967296) (hc : 0 ≤ c ∧ c < 4294967296) (hd : 0 ≤ d ∧ d < 4294967296) (he : 0 ≤ e ∧ e < 4294967296) :
    (Lib.compareBytes (Lib.bytesOf [(b / 16777216) % 256, (b / 65536) % 256, (b / 256) % 256, b % 256, (c / 16777216) % 256, (c / 65536) % 256, (c / 256) % 256, c % 256])
      (Lib.bytesOf [(d / 16777216) % 256, (d / 65536) % 256, (d / 256) % 256, d % 256, (e / 16777216) % 256, (e / 65536) % 256, (e / 256) % 256, e % 256]) < 0) ↔ (b < d ∨ (b = d ∧ c < e)) := by
  have four : ∀ n : Int, 0 ≤ n ∧ n < 4294967296 → ((n / 16777216) % 256).toNat * 16777216 + (((n / 65536) % 256).toNat * 65536 + (((n / 256) % 256).toNat * 256 + (n % 256).toNat)) = n.toNat := by
    intro n hn; omega
  refine (cmp_lt _ _ ?_ ?_ ?_).trans ?_
  · rfl
  · intro x hx; simp only [List.mem_cons, List.not_mem_nil, or_false] at hx; omega
  · intro x hx; simp only [List.mem_cons, List.not_mem_nil, or_false] at hx; omega
  · have ev : ∀ p q r s t u v z : Int, beval [p, q, r, s, t, u, v, z] = (p.toNat * 16777216 + (q.toNat * 65536 + (r.toNat * 256 + s.toNat))) * 4294967296 + (t.toNat * 16777216 + (u.toNat * 65536 + (v.toNat * 256 + z.toNat))) := by
      intro p q r s t u v z
      simp only [beval, List.length_cons, List.length_nil]
      omega
    rw [ev, ev, four b hb, four c hc, four d hd, four e he]
    omega

/-- A name's nine bytes: which of two stand ahead. -/
theorem cmp_nine (a a' b c d e : Int) (ha : 0 ≤ a ∧ a < 256) (ha' : 0 ≤ a' ∧ a' < 256) (hb : 0 ≤ b ∧ b < 4294967296) (hc : 0 ≤ c ∧ c < 4294967296) (hd : 0 ≤ d ∧ d < 4294967296) (he : 0 ≤ e ∧ e < 4294967296) :
    (Lib.compareBytes (Lib.bytesOf [a, (b / 16777216) % 256, (b / 65536) % 256, (b / 256) % 256, b % 256, (c / 16777216) % 256, (c / 65536) % 256, (c / 256) % 256, c % 256])
      (Lib.bytesOf [a', (d / 16777216) % 256, (d / 65536) % 256, (d / 256) % 256, d % 256, (e / 16777216) % 256, (e / 65536) % 256, (e / 256) % 256, e % 256]) < 0) ↔ (a < a' ∨ (a = a' ∧ (b < d ∨ (b = d ∧ c < e)))) := by
  have e1 : ∀ a b : Int, 0 ≤ a ∧ a < 256 → 0 ≤ b ∧ b < 256 → ((UInt8.ofNat a.toNat < UInt8.ofNat b.toNat) ↔ a < b) := by
    intro a b ha hb
    rw [UInt8.lt_iff_toNat_lt, UInt8.toNat_ofNat', UInt8.toNat_ofNat', Nat.mod_eq_of_lt (by omega), Nat.mod_eq_of_lt (by omega)]
    omega
  have eight := cmp_eight b c d e hb hc hd he
  have step : ∀ (x y : Int) (l0 l1 : List Int), Lib.compareBytes (Lib.bytesOf (x :: l0)) (Lib.bytesOf (y :: l1)) = if UInt8.ofNat x.toNat < UInt8.ofNat y.toNat then -1 else if UInt8.ofNat y.toNat < UInt8.ofNat x.toNat then 1 else Lib.compareBytes (Lib.bytesOf l0) (Lib.bytesOf l1) := fun x y l0 l1 => rfl
  rw [step]
  by_cases c1 : a < a'
  · rw [if_pos ((e1 _ _ ha ha').2 c1)]
    exact ⟨fun _ => Or.inl c1, fun _ => by decide⟩
  · rw [if_neg (fun q => c1 ((e1 _ _ ha ha').1 q))]
    by_cases c2 : a' < a
    · rw [if_pos ((e1 _ _ ha' ha).2 c2)]
      exact ⟨fun q => absurd q (by decide), fun q => by omega⟩
    · rw [if_neg (fun q => c2 ((e1 _ _ ha' ha).1 q)), eight]
      omega

end Go.Proofs.Ytlbajagnfmbljaa.Q
