/- gds, plainly: what is written is read as it was; cut, it ends too soon. -/
import Derived.Test.YtfndcfffbpbbhaaQPa
import Derived.Test.YtfndcfffbpbbhaaQPd
import Derived.Test.YtfndcfffbpbbhaaQWrite
namespace Go.Proofs.Ytfndcfffbpbbhaa.Q
open Go.RowKit Go.Proofs.YtfndcfffbpbbhaaW.PrintWords Go.Proofs.YtfndcfffbpbbhaaW.PrintLast Go.Proofs.YtfndcfffbpbbhaaW.PrintMore
set_option linter.unusedVariables false
set_option linter.unusedSimpArgs false

theorem getD_pre (pre rest : List Int) (m : Nat) : (pre ++ rest).getD (pre.length + m) 0 = rest.getD m 0 := by
  rw [List.getD_eq_getElem?_getD, List.getD_eq_getElem?_getD, List.getElem?_append_right (by omega), Nat.add_sub_cancel_left]

/-- A segment, read. -/
theorem next_step {pre p tail : List Int} {x y : Int} {first last : Bool} {id : Int} {data : List Int} {s : Nat} {n : Int}
    (hf : first = true → pre = []) (hn : n = 2 + ((((if first = true then [x, y] else []) ++ p).length : Nat) : Int) + (if last = true then 0 else 32768))
    (hp : p.length ≤ 2048) (hd : data.length + p.length ≤ 2048) :
    nextS (pre ++ ([n / 256 % 256, n % 256] ++ ((if first = true then [x, y] else []) ++ p) ++ tail)) (s + 1) pre.length first id data =
      (if last = true then (if first = true then 256 * x + y else id, data ++ p, (((pre ++ ([n / 256 % 256, n % 256] ++ ((if first = true then [x, y] else []) ++ p))).length : Nat) : Int), 0)
       else nextS (pre ++ ([n / 256 % 256, n % 256] ++ ((if first = true then [x, y] else []) ++ p) ++ tail)) s (pre ++ ([n / 256 % 256, n % 256] ++ ((if first = true then [x, y] else []) ++ p))).length false (if first = true then 256 * x + y else id) (data ++ p)) := by
  obtain ⟨q, hq⟩ : ∃ q, (if first = true then [x, y] else []) = q := ⟨_, rfl⟩
  obtain ⟨b, hbb⟩ : ∃ b, pre ++ ([n / 256 % 256, n % 256] ++ ((if first = true then [x, y] else []) ++ p) ++ tail) = b := ⟨_, rfl⟩
  rw [hbb]
  rw [hq] at hn hbb ⊢
  have hql : q.length + 2 = (if first = true then 4 else 2 : Nat) := by rw [← hq]; split <;> rfl
  have hql2 : q.length ≤ 2 := by rw [← hq]; split <;> simp
  have hn2 : n = 2 + (q.length : Int) + (p.length : Int) + (if last = true then 0 else 32768) := by rw [hn, List.length_append]; push_cast; omega
  clear hn
  have g0 : b.getD pre.length 0 = n / 256 % 256 := by
    have := getD_pre pre ([n / 256 % 256, n % 256] ++ (q ++ p) ++ tail) 0
    rw [hbb] at this; exact this
  have g1 : b.getD (pre.length + 1) 0 = n % 256 := by
    have := getD_pre pre ([n / 256 % 256, n % 256] ++ (q ++ p) ++ tail) 1
    rw [hbb] at this; exact this
  have hbl : b.length = pre.length + (2 + q.length + p.length) + tail.length := by rw [← hbb]; simp only [List.length_append, List.length_cons, List.length_nil]; omega
  have hr : 256 * b.getD pre.length 0 + b.getD (pre.length + 1) 0 = n := by rw [g0, g1]; cases last <;> simp at hn2 <;> omega
  have hm : (n % 32768).toNat = 2 + q.length + p.length := by cases last <;> simp at hn2 <;> omega
  have hcut : (b.take (pre.length + (2 + q.length + p.length))).drop (pre.length + (q.length + 2)) = p := by
    rw [← hbb, List.take_length_add_append, List.drop_length_add_append, List.take_append_of_le_length (by simp only [List.length_append, List.length_cons, List.length_nil]; omega), List.take_of_length_le (by simp only [List.length_append, List.length_cons, List.length_nil]; omega)]
    rw [show q.length + 2 = 2 + q.length by omega, ← List.drop_drop]
    simp
  have hid : (if first = true then 256 * b.getD 2 0 + b.getD 3 0 else id) = (if first = true then 256 * x + y else id) := by
    cases first with
    | false => rfl
    | true =>
      have hpre := hf rfl
      subst hpre
      simp only [if_true] at hq
      subst hq
      rw [← hbb]; rfl
  have htot : (pre ++ ([n / 256 % 256, n % 256] ++ (q ++ p))).length = pre.length + (2 + q.length + p.length) := by simp only [List.length_append, List.length_cons, List.length_nil]; omega
  simp only [nextS, hr, hm, ← hql, hcut, hid, htot]
  rw [if_neg (by omega), if_neg (by omega), if_neg (by omega), if_neg (by rw [List.length_append]; omega)]
  cases last with
  | true =>
    simp at hn2
    rw [if_pos (by omega), if_pos rfl]
  | false =>
    simp at hn2
    rw [if_neg (by omega)]
    simp only [Bool.false_eq_true, if_false]

/-- A segment, cut. -/
theorem next_cut {pre p : List Int} {x y : Int} {first last : Bool} {id : Int} {data : List Int} {s c : Nat} {n : Int}
    (hn : n = 2 + ((((if first = true then [x, y] else []) ++ p).length : Nat) : Int) + (if last = true then 0 else 32768))
    (hp : p.length ≤ 2048) (hc : c < ([n / 256 % 256, n % 256] ++ ((if first = true then [x, y] else []) ++ p)).length) :
    nextS (pre ++ ([n / 256 % 256, n % 256] ++ ((if first = true then [x, y] else []) ++ p)).take c) (s + 1) pre.length first id data = (0, [], 0, 11) := by
  obtain ⟨q, hq⟩ : ∃ q, (if first = true then [x, y] else []) = q := ⟨_, rfl⟩
  rw [hq] at hn hc ⊢
  obtain ⟨b, hbb⟩ : ∃ b, pre ++ ([n / 256 % 256, n % 256] ++ (q ++ p)).take c = b := ⟨_, rfl⟩
  rw [hbb]
  have hql : q.length + 2 = (if first = true then 4 else 2 : Nat) := by rw [← hq]; split <;> rfl
  have hql2 : q.length ≤ 2 := by rw [← hq]; split <;> simp
  have hn2 : n = 2 + (q.length : Int) + (p.length : Int) + (if last = true then 0 else 32768) := by rw [hn, List.length_append]; push_cast; omega
  clear hn
  have hc2 : c < 2 + q.length + p.length := by simp only [List.length_append, List.length_cons, List.length_nil] at hc; omega
  have hbl : b.length = pre.length + c := by rw [← hbb, List.length_append, List.length_take]; omega
  by_cases c1 : b.length < pre.length + 2
  · simp only [nextS]; rw [if_pos c1]
  obtain ⟨c, rfl⟩ : ∃ m, c = m + 2 := ⟨c - 2, by omega⟩
  have g0 : b.getD pre.length 0 = n / 256 % 256 := by
    have := getD_pre pre (([n / 256 % 256, n % 256] ++ (q ++ p)).take (c + 2)) 0
    rw [hbb] at this; exact this
  have g1 : b.getD (pre.length + 1) 0 = n % 256 := by
    have := getD_pre pre (([n / 256 % 256, n % 256] ++ (q ++ p)).take (c + 2)) 1
    rw [hbb] at this; exact this
  have hr : 256 * b.getD pre.length 0 + b.getD (pre.length + 1) 0 = n := by rw [g0, g1]; cases last <;> simp at hn2 <;> omega
  have hm : (n % 32768).toNat = 2 + q.length + p.length := by cases last <;> simp at hn2 <;> omega
  simp only [nextS, hr, hm, ← hql]
  rw [if_neg c1, if_neg (by omega), if_pos (by omega)]

/-- The segments from the k-th on, j of them. -/
def segsFrom (d id : List Int) (s N : Nat) : Nat → Nat → List Int
  | 0, _ => []
  | j + 1, k => segOf d id s N k ++ segsFrom d id s N j (k + 1)
theorem segs_split (d id : List Int) (s N : Nat) : ∀ (j k : Nat), segsOf d id s N (k + j) = segsOf d id s N k ++ segsFrom d id s N j k
  | 0, k => by simp [segsFrom]
  | j + 1, k => by
    rw [show k + (j + 1) = (k + 1) + j by omega, segs_split d id s N j (k + 1), segsFrom, segsOf, List.append_assoc]
theorem seg_form (d : List Int) (x y : Int) (s N k : Nat) : ∃ n : Int, n = 2 + ((((if decide (k = 0) = true then [x, y] else []) ++ pieceOf d s N k).length : Nat) : Int) + (if (!decide (k + 1 < N)) = true then 0 else 32768) ∧
    segOf d [x, y] s N k = [n / 256 % 256, n % 256] ++ ((if decide (k = 0) = true then [x, y] else []) ++ pieceOf d s N k) := by
  refine ⟨_, rfl, ?_⟩
  rw [piece_seg (la := !decide (k + 1 < N)) rfl]
  simp only [decide_eq_true_eq]
theorem piece_rest (d : List Int) (s N k : Nat) (h : k + 1 < N) : pieceOf d s N k ++ d.drop ((k + 1) * s) = d.drop (k * s) := by
  unfold pieceOf
  rw [if_pos h, Nat.succ_mul, ← List.drop_drop, List.take_append_drop]

theorem read_back {d : List Int} {x y : Int} {s N : Nat} (hd : d.length ≤ 2048) : ∀ (j k : Nat) (pre rest data : List Int) (id : Int) (f : Nat), k + (j + 1) = N → (k = 0 → pre = []) → data.length + (d.drop (k * s)).length ≤ 2048 → j + 1 ≤ f →
    nextS (pre ++ (segsFrom d [x, y] s N (j + 1) k ++ rest)) f pre.length (decide (k = 0)) id data = (if k = 0 then 256 * x + y else id, data ++ d.drop (k * s), (((pre ++ segsFrom d [x, y] s N (j + 1) k).length : Nat) : Int), 0) := by
  intro j
  induction j with
  | zero =>
    intro k pre rest data id f hk hpre hdl hf
    obtain ⟨f, rfl⟩ : ∃ m, f = m + 1 := ⟨f - 1, by omega⟩
    obtain ⟨n, hn, hseg⟩ := seg_form d x y s N k
    have hp := piece_le d s N k
    have hpc : pieceOf d s N k = d.drop (k * s) := by unfold pieceOf; rw [if_neg (by omega)]
    simp only [segsFrom, List.append_nil]
    rw [hseg, next_step (by simpa using hpre) hn (by omega) (by rw [hpc]; omega), if_pos (by simp; omega), ← hpc]
    simp only [decide_eq_true_eq]
  | succ j ih =>
    intro k pre rest data id f hk hpre hdl hf
    obtain ⟨f, rfl⟩ : ∃ m, f = m + 1 := ⟨f - 1, by omega⟩
    obtain ⟨n, hn, hseg⟩ := seg_form d x y s N k
    have hp := piece_le d s N k
    have hrest := piece_rest d s N k (by omega)
    have hl : (d.drop (k * s)).length = (pieceOf d s N k).length + (d.drop ((k + 1) * s)).length := by rw [← hrest, List.length_append]
    rw [segsFrom, List.append_assoc, hseg, next_step (by simpa using hpre) hn (by omega) (by omega), if_neg (by simp; omega), ← hseg]
    have := ih (k + 1) (pre ++ segOf d [x, y] s N k) rest (data ++ pieceOf d s N k) (if decide (k = 0) = true then 256 * x + y else id) f (by omega) (by omega) (by rw [List.length_append]; omega) (by omega)
    rw [List.append_assoc, show decide (k + 1 = 0) = false by simp] at this
    rw [this, if_neg (by omega), List.append_assoc, hrest, List.append_assoc]
    simp only [decide_eq_true_eq]

theorem read_cut {d : List Int} {x y : Int} {s N : Nat} (hd : d.length ≤ 2048) : ∀ (j k c : Nat) (pre data : List Int) (id : Int) (f : Nat), k + (j + 1) = N → (k = 0 → pre = []) → data.length + (d.drop (k * s)).length ≤ 2048 → j + 1 ≤ f → c < (segsFrom d [x, y] s N (j + 1) k).length →
    nextS (pre ++ (segsFrom d [x, y] s N (j + 1) k).take c) f pre.length (decide (k = 0)) id data = (0, [], 0, 11) := by
  intro j
  induction j with
  | zero =>
    intro k c pre data id f hk hpre hdl hf hc
    obtain ⟨f, rfl⟩ : ∃ m, f = m + 1 := ⟨f - 1, by omega⟩
    obtain ⟨n, hn, hseg⟩ := seg_form d x y s N k
    have hp := piece_le d s N k
    simp only [segsFrom, List.append_nil] at hc ⊢
    rw [hseg] at hc ⊢
    exact next_cut hn (by omega) hc
  | succ j ih =>
    intro k c pre data id f hk hpre hdl hf hc
    obtain ⟨f, rfl⟩ : ∃ m, f = m + 1 := ⟨f - 1, by omega⟩
    obtain ⟨n, hn, hseg⟩ := seg_form d x y s N k
    have hp := piece_le d s N k
    have hrest := piece_rest d s N k (by omega)
    have hl : (d.drop (k * s)).length = (pieceOf d s N k).length + (d.drop ((k + 1) * s)).length := by rw [← hrest, List.length_append]
    rw [segsFrom] at hc ⊢
    by_cases c1 : c < (segOf d [x, y] s N k).length
    · rw [List.take_append_of_le_length (by omega)]
      rw [hseg] at c1 ⊢
      exact next_cut hn (by omega) c1
    · rw [List.length_append] at hc
      rw [List.take_append, List.take_of_length_le (by omega), hseg, next_step (by simpa using hpre) hn (by omega) (by omega), if_neg (by simp; omega), ← hseg]
      have := ih (k + 1) (c - (segOf d [x, y] s N k).length) (pre ++ segOf d [x, y] s N k) (data ++ pieceOf d s N k) (if decide (k = 0) = true then 256 * x + y else id) f (by omega) (by omega) (by rw [List.length_append]; omega) (by omega) (by omega)
      rw [List.append_assoc, show decide (k + 1 = 0) = false by simp] at this
      exact this

theorem write_ok {a0 : Int} {l : List Int} {a1 : Int} {w : List Int} {e : Int} (h : gds_Write.f a0 l a1 = some (w, e)) : (e ≠ 0 ∧ w = []) ∨
    (e = 0 ∧ (0 ≤ a0 ∧ a0 ≤ 65535) ∧ l.length ≤ 2048 ∧ (1 ≤ a1 ∧ a1 ≤ 2048) ∧ (l.length : Int) ≤ a1 * 64 ∧ ∃ N, N = countOf l.length a1.toNat ∧ 0 < N ∧ N ≤ 64 ∧ w = segsFrom l [a0 / 256, a0 % 256] a1.toNat N N 0) := by
  unfold gds_Write.f at h
  split at h
  · cases h; left; simp
  split at h
  · cases h; left; simp
  split at h
  · cases h; left; simp
  · rename_i h1 h2 h3
    cases h
    obtain ⟨n1, n2, n3⟩ := count_facts l.length a1.toNat (by omega)
    refine .inr ⟨rfl, by omega, by omega, by omega, by omega, _, rfl, n1, ?_, ?_⟩
    · obtain ⟨s, rfl⟩ := Int.eq_ofNat_of_zero_le (show 0 ≤ a1 by omega)
      rw [Int.toNat_natCast] at *
      rcases Nat.lt_or_ge 64 (countOf l.length s) with hlt | hge
      · have := n2 63 (by omega); omega
      · exact hge
    · have := segs_split l [a0 / 256, a0 % 256] a1.toNat (countOf l.length a1.toNat) (countOf l.length a1.toNat) 0
      rw [Nat.zero_add] at this
      rw [this]; rfl
theorem back_next {a0 : Int} {l : List Int} {a1 : Int} {w : List Int} (h : gds_Write.f a0 l a1 = some (w, 0)) (rest : List Int) : nextS (w ++ rest) 64 0 true 0 [] = (a0, l, (w.length : Int), 0) := by
  rcases write_ok h with ⟨h0, _⟩ | ⟨_, ha, hl, ha1, _, N, hN, hN0, hN64, rfl⟩
  · exact absurd rfl h0
  · obtain ⟨j, rfl⟩ : ∃ j, N = j + 1 := ⟨N - 1, by omega⟩
    have := read_back (d := l) (x := a0 / 256) (y := a0 % 256) (s := a1.toNat) (N := j + 1) hl j 0 [] rest [] 0 64 (by omega) (fun _ => rfl) (by simp; omega) (by omega)
    simp only [List.nil_append, List.length_nil, Nat.zero_mul, List.drop_zero, if_true, decide_true] at this
    rw [this, show 256 * (a0 / 256) + a0 % 256 = a0 by omega]
theorem cut_next {a0 : Int} {l : List Int} {a1 : Int} {w : List Int} (h : gds_Write.f a0 l a1 = some (w, 0)) {c : Nat} (hc : c < w.length) : nextS (w.take c) 64 0 true 0 [] = (0, [], 0, 11) := by
  rcases write_ok h with ⟨h0, _⟩ | ⟨_, ha, hl, ha1, _, N, hN, hN0, hN64, rfl⟩
  · exact absurd rfl h0
  · obtain ⟨j, rfl⟩ : ∃ j, N = j + 1 := ⟨N - 1, by omega⟩
    have := read_cut (d := l) (x := a0 / 256) (y := a0 % 256) (s := a1.toNat) (N := j + 1) hl j 0 c [] [] 0 64 (by omega) (fun _ => rfl) (by simp; omega) (by omega) hc
    exact this
theorem bytes_seg {d : List Int} {x y : Int} {s N k : Nat} (h : Bytes d) (hx : 0 ≤ x ∧ x < 256) (hy : 0 ≤ y ∧ y < 256) : Bytes (segOf d [x, y] s N k) := by
  have hp : Bytes (pieceOf d s N k) := by unfold pieceOf; split; exact (h.drop _).take _; exact h.drop _
  obtain ⟨n, hn, hs⟩ := seg_form d x y s N k
  rw [hs]
  refine Bytes.app (fun z hz => ?_) (Bytes.app (fun z hz => ?_) hp)
  · simp only [List.mem_cons, List.mem_nil_iff, or_false] at hz
    rcases hz with rfl | rfl <;> omega
  · split at hz
    · simp only [List.mem_cons, List.mem_nil_iff, or_false] at hz
      rcases hz with rfl | rfl <;> assumption
    · cases hz
theorem bytes_segs {d : List Int} {x y : Int} {s N : Nat} (h : Bytes d) (hx : 0 ≤ x ∧ x < 256) (hy : 0 ≤ y ∧ y < 256) : ∀ j k, Bytes (segsFrom d [x, y] s N j k)
  | 0, k => bytes_nil
  | j + 1, k => (bytes_seg h hx hy).app (bytes_segs h hx hy j (k + 1))
theorem write_bytes {a0 : Int} {l : List Int} {a1 : Int} {w : List Int} {e : Int} (h : gds_Write.f a0 l a1 = some (w, e)) (hb : Bytes l) : Bytes w := by
  rcases write_ok h with ⟨_, rfl⟩ | ⟨_, ha, hl, ha1, _, N, hN, hN0, hN64, rfl⟩
  · exact bytes_nil
  · exact bytes_segs hb (by omega) (by omega) _ _
theorem write_some (a0 : Int) (l : List Int) (a1 : Int) : ∃ w e, gds_Write.f a0 l a1 = some (w, e) := by
  unfold gds_Write.f
  split
  · exact ⟨_, _, rfl⟩
  split
  · exact ⟨_, _, rfl⟩
  split
  · exact ⟨_, _, rfl⟩
  · exact ⟨_, _, rfl⟩
theorem segsFrom_len (d : List Int) (x y : Int) (s N : Nat) : ∀ j k, (segsFrom d [x, y] s N j k).length ≤ j * (d.length + 4)
  | 0, k => by simp [segsFrom]
  | j + 1, k => by
    have ih := segsFrom_len d x y s N j (k + 1)
    have h1 := piece_le d s N k
    obtain ⟨n, hn, hs⟩ := seg_form d x y s N k
    have h2 : (segOf d [x, y] s N k).length ≤ d.length + 4 := by
      rw [hs]
      simp only [List.length_append, List.length_cons, List.length_nil]
      split <;> simp <;> omega
    rw [segsFrom, List.length_append, Nat.succ_mul]
    omega
theorem write_len {a0 : Int} {l : List Int} {a1 : Int} {w : List Int} {e : Int} (h : gds_Write.f a0 l a1 = some (w, e)) : w.length ≤ 131328 := by
  rcases write_ok h with ⟨_, rfl⟩ | ⟨_, ha, hl, ha1, _, N, hN, hN0, hN64, rfl⟩
  · simp
  · have := segsFrom_len l (a0 / 256) (a0 % 256) a1.toNat N N 0
    have h2 : N * (l.length + 4) ≤ 64 * 2052 := Nat.mul_le_mul hN64 (by omega)
    omega
end Go.Proofs.Ytfndcfffbpbbhaa.Q
