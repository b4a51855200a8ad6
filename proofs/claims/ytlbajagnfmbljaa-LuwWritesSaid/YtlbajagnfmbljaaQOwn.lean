/- Hand-made contracts of the functions of luw that the print does not take: digits, number, and bytes.Compare. -/
import Derived.Test.YtlbajagnfmbljaaQx0
namespace Go.Proofs.Ytlbajagnfmbljaa.Q
open Go.RowKit Go.Proofs.YtlbajagnfmbljaaW.PrintWords Go.Proofs.YtlbajagnfmbljaaW.PrintLast Go.Proofs.YtlbajagnfmbljaaW.PrintMore
set_option linter.unusedVariables false
set_option linter.unusedSimpArgs false

/-- A number's digits, the greatest first. -/
def dec (n : Nat) : List Int := if n < 10 then [(48 : Int) + n] else dec (n / 10) ++ [(48 : Int) + (n % 10 : Nat)]
termination_by n
decreasing_by omega

def luw_digits.f (a0 : Int) : Option (ByteArray) := if 0 ≤ a0 ∧ a0 < 4294967296 then some (strOfNums (dec a0.toNat)) else none

theorem hid_ {p : Prop} (h : p) : Hid p := h

theorem dec_step (n : Nat) (h : n / 10 ≠ 0) : dec n = dec (n / 10) ++ [(48 : Int) + (n % 10 : Nat)] := by
  rw [dec]
  rw [if_neg (by omega)]
theorem dec_last (n : Nat) (h : n / 10 = 0) : dec n = [(48 : Int) + (n % 10 : Nat)] := by
  rw [dec]
  have : n < 10 := by omega
  rw [if_pos this, Nat.mod_eq_of_lt this]

def DInv (n0 : Nat) (w : World) (a : Nat) (n : Nat) (wr : World) : Prop :=
  ∃ (s : List Int) (cs : Array Value), 1 ≤ a ∧ a ≤ 10 ∧ n < 4294967296 ∧ n < 10 ^ a ∧ s.length = 10 - a ∧ dec n0 = dec n ++ s ∧
    wr.heap[w.heap.size]? = some (.cells cs 54 (0, 0)) ∧ cs.size = 10 ∧ (∀ i x, s[i]? = some x → cs[a + i]? = some (.int .u8 x)) ∧ Below w.heap.size w wr

theorem dinv_put {w wr : World} {m : Nat} {cs : Array Value} {s : List Int} {c : Value} (hs : s.length = 10 - (m + 1)) (hb : wr.heap[w.heap.size]? = some (.cells cs 54 (0, 0))) (hz : cs.size = 10) (hm : m + 1 ≤ 10)
    (hi : ∀ i x, s[i]? = some x → cs[m + 1 + i]? = some (.int .u8 x)) {d : Int} (hc : c = .int .u8 d) :
    (wr.setCell ⟨w.heap.size, m, none⟩ c).heap[w.heap.size]? = some (.cells (cs.setIfInBounds m c) 54 (0, 0)) ∧ (cs.setIfInBounds m c).size = 10 ∧ (∀ i x, (d :: s)[i]? = some x → (cs.setIfInBounds m c)[m + i]? = some (.int .u8 x)) := by
  refine ⟨by simp [World.setCell, Array.getElem?_modify, hb], by simpa using hz, fun i x hx => ?_⟩
  cases i with
  | zero =>
    simp only [List.getElem?_cons_zero, Option.some.injEq] at hx
    subst hx
    rw [Array.getElem?_setIfInBounds]
    simp [hz, hc]
    omega
  | succ i =>
    rw [Array.getElem?_setIfInBounds, if_neg (by omega)]
    rw [show m + (i + 1) = m + 1 + i by omega]
    exact hi i x (by simpa using hx)

set_option maxHeartbeats 1000000 in
theorem digits_any (n0 : Nat) (w : World) (h0 : n0 < 4294967296) :
    Calls Try.prog 30 #[.int .u32 n0] w fun e w' => e = .returned (.string (strOfNums (dec n0))) ∧ Below w.heap.size w w' := by
  go_enter Try.func30, Try.ntmps30
  go_wp2_with fail
  go_loopg [0, 4] 10 (fun a vn va wr => ∃ (n : Nat), vn = .int .u32 n ∧ va = .int .i64 a ∧ DInv n0 w a n wr)
  case atStart =>
    refine ⟨n0, rfl, rfl, [], #[.int .u8 0, .int .u8 0, .int .u8 0, .int .u8 0, .int .u8 0, .int .u8 0, .int .u8 0, .int .u8 0, .int .u8 0, .int .u8 0], by omega, by omega, h0, by omega, rfl, by simp, ?_, ?_, fun i x hx => by simp at hx, (Below.refl _ _).alloc (Nat.le_refl _) _⟩
    · exact (MapKept.heap_alloc w _).1
    · rfl
  case round =>
    obtain ⟨n, rfl, rfl, s, cs, ha1, ha2, hn32, hn, hs, hd, hb, hz, hi, hf⟩ := hrel
    obtain ⟨m, rfl⟩ : ∃ m, gk = m + 1 := ⟨gk - 1, by omega⟩
    have hcell : ∃ v, wr.cell? ⟨w.heap.size, m, none⟩ = some v := by
      refine ⟨cs[m], ?_⟩
      rw [cell_of_row wr _ m _ _ _ hb, Array.getElem?_eq_getElem]
    obtain ⟨v0, hcell⟩ := hcell
    have hfz : wr.frozen? ⟨w.heap.size, m, none⟩ = false := by simp [World.frozen?, hb]
    have hm10 : (m : Int) < 10 := by omega
    have hr : (n : Int) % 10 < 10 := by omega
    have hr0 : 0 ≤ (n : Int) % 10 := by omega
    have HS := hid_ hs
    have HD := hid_ hd
    have HB := hid_ hb
    have HZ := hid_ hz
    have HI := hid_ hi
    have HN := hid_ hn
    clear hs hd hb hz hi hn
    cases hq : ((n : Int) / 10 == 0)
    · have hq' : n / 10 ≠ 0 := by
        have : ¬ (n : Int) / 10 = 0 := by simpa using hq
        omega
      go_wp2_with fail
      obtain ⟨c, hc⟩ : ∃ c : Value, c = .int .u8 (48 + (n : Int) % 10) := ⟨_, rfl⟩
      have hp := dinv_put HS.out HB.out HZ.out ha2 HI.out hc
      go_roundg m
      case measure => omega
      case rel =>
        refine ⟨n / 10, by go_num, rfl, _ :: s, _, ?_, by omega, by omega, ?_, ?_, ?_, hc ▸ hp.1, hc ▸ hp.2.1, hc ▸ hp.2.2, hf.setCell (by simp) _⟩
        · have := HN.out
          cases m with
          | zero => simp at this; omega
          | succ m => omega
        · have := HN.out
          rw [Nat.pow_succ] at this
          omega
        · have := HS.out; simp; omega
        · rw [HD.out, dec_step n hq']
          simp
    · have hq' : n / 10 = 0 := by
        have : (n : Int) / 10 = 0 := by simpa using hq
        omega
      have hsl : ∀ w', (Instr.sliceAt 54 (.pointer (some ⟨w.heap.size, 0, none⟩)) (some (.int .i64 (m : Int))) none none).run Try.prog w' = .ok (.slice (some ⟨w.heap.size, m, none⟩) (10 - m) (10 - m)) w' := by
        intro w'
        have ha : Try.prog.arrayLen 54 = 10 := by kernel_rfl
        rw [run_sliceAt_array_l w' 54 _ (by kernel_rfl) .i64 m (by omega) (by rw [ha]; omega)]
        have hs1 : (sizeOf (Try.prog.elem 54)).run Try.prog w' = .ok 1 w' := by kernel_rfl
        rw [hs1, ha]
        simp only [Result.andThen, slicedAt, Int.toNat_natCast]
        rw [if_neg (by omega)]
        simp [Addr.add]
        omega
      obtain ⟨c, hc⟩ : ∃ c : Value, c = .int .u8 (48 + (n : Int) % 10) := ⟨_, rfl⟩
      have hp := dinv_put HS.out HB.out HZ.out ha2 HI.out hc
      have hcv := run_convert_bytes_arg (P := Try.prog) (wr.setCell ⟨w.heap.size, m, none⟩ c) 25 5 Try.underlying25 Try.underlying5 w.heap.size m (10 - m) (10 - m) ((48 + (n : Int) % 10) :: s) (by have := HS.out; simp; omega) (by
        intro i hi
        rw [cell_of_row _ _ _ _ _ _ hp.1]
        have hl : i < ((48 + (n : Int) % 10) :: s).length := by have := HS.out; simp; omega
        exact hp.2.2 i _ (by rw [List.getElem?_eq_getElem hl, List.getD_eq_getElem?_getD, List.getElem?_eq_getElem hl]; rfl)) 9 Try.underlying9
      have hdd : dec n0 = (48 + (n : Int) % 10) :: s := by
        rw [HD.out, dec_last n hq']; simp
      have HDD := hid_ hdd
      rw [hc] at hcv
      clear hdd hp hc
      go_wp2_with fail
      go_ret
      exact ⟨by rw [HDD.out]; rfl, hf.setCell (by simp) _⟩

theorem luw_digits.calls (a0 : Int) (r : ByteArray) (w : World) (h : luw_digits.f a0 = some r) :
    Calls Try.prog 30 #[.int .u32 a0] w fun e w' => e = .returned (.string r) ∧ Below w.heap.size w w' := by
  unfold luw_digits.f at h
  split at h
  · rename_i hr
    cases h
    obtain ⟨n, rfl⟩ := Int.eq_ofNat_of_zero_le hr.1
    exact digits_any n w (by omega)
  · cases h
end Go.Proofs.Ytlbajagnfmbljaa.Q
