/- Hand-made contract of luw.number: it reads digits up to a byte, or the end. Condition: none beyond the text's size. -/
import Derived.Test.YtlbajagnfmbljaaQOwn
import Derived.WalkMore
import Derived.ScopeJumps
import Derived.Deep.DeepCutAuto
import Derived.Deep.CutBlock
namespace Go.Proofs.Ytlbajagnfmbljaa.Q
open Go.RowKit Go.Proofs.YtlbajagnfmbljaaW.PrintWords Go.Proofs.YtlbajagnfmbljaaW.PrintLast Go.Proofs.YtlbajagnfmbljaaW.PrintMore
set_option linter.unusedVariables false
set_option linter.unusedSimpArgs false

/-! ### number -/
/-- Digits from place i on, at most k of them, behind what is read: the number, and the place behind them. -/
def scan (s : ByteArray) : Nat → Nat → Nat → Nat × Nat
  | 0, i, n => (n, i)
  | k + 1, i, n => if h : i < s.size then (if 48 ≤ (s[i]'h).toNat ∧ (s[i]'h).toNat ≤ 57 then scan s k (i + 1) (10 * n + ((s[i]'h).toNat - 48)) else (n, i)) else (n, i)

theorem scan_le (s : ByteArray) : ∀ k i n, i ≤ s.size → i ≤ (scan s k i n).2 ∧ (scan s k i n).2 ≤ i + k ∧ (scan s k i n).2 ≤ s.size
  | 0, i, n, h => ⟨Nat.le_refl _, Nat.le_refl _, h⟩
  | k + 1, i, n, h => by
    unfold scan
    split
    · split
      · have := scan_le s k (i + 1) (10 * n + ((s[i]).toNat - 48)) (by omega)
        exact ⟨by omega, by omega, this.2.2⟩
      · exact ⟨Nat.le_refl _, by omega, h⟩
    · exact ⟨Nat.le_refl _, by omega, h⟩

def firstIs (s : ByteArray) (c : Nat) : Bool := if h : 0 < s.size then (s[0]'h).toNat == c else false
def byteIs (s : ByteArray) (i : Nat) (c : Int) : Bool := if h : i < s.size then ((s[i]'h).toNat : Int) == c else false

def luw_number.f (a0 : ByteArray) (a1 : Int) : Option (Int × ByteArray × Bool) :=
  if a0.size ≤ 9223372036854775807 then
    (let r := scan a0 11 0 0
     if r.2 = 0 ∨ 10 < r.2 ∨ 4294967296 ≤ r.1 ∨ (firstIs a0 48 = true ∧ 1 < r.2) then some (0, (⟨#[]⟩ : ByteArray), false)
     else if a1 = 0 ∧ r.2 = a0.size then some ((r.1 : Int), (⟨#[]⟩ : ByteArray), true)
     else if a1 ≠ 0 ∧ byteIs a0 r.2 a1 = true then some ((r.1 : Int), a0.extract (r.2 + 1) a0.size, true)
     else some (0, (⟨#[]⟩ : ByteArray), false))
  else none

def NumDone (a0 : ByteArray) (a1 : Int) (w : World) (e : Ending) (w' : World) : Prop :=
  ∃ r1 r2 r3, luw_number.f a0 a1 = some (r1, r2, r3) ∧ e = .returned (.tuple #[.int .u32 r1, .string r2, .bool r3]) ∧ Drawn0 w w'

def ScanAt (s : ByteArray) (i n : Nat) : Prop := i ≤ 11 ∧ i ≤ s.size ∧ n < 10 ^ i ∧ scan s (11 - i) i n = scan s 11 0 0

def NumJ (s : ByteArray) (e : Int) (w : World) (a' : Act) (w' : World) : Prop :=
  luw_number.f s e = some (0, (⟨#[]⟩ : ByteArray), false) ∧ Drawn0 w w' ∧ ∃ u0 u1 u2 u3 u4 u5 u6 u7 u8 u9 u10 u11 u12 u13 u14 u15 u16 u17 u18 u19 u20 u21 u22 u23 u24 u25 u26 u27 u28 u29 u30 u31 u32 u33 u34 u35 u36 u37 u38 u39 u40 u41 u42 u43 u44 u45 u46 u47 u48 u49 u50 u51 u52 u53 u54 u55 u56 u57 u58 u59 u60 u61 u62 u63 u64 u65 u66 u67 u68 u69 u70 u71 u72 u73 u74 u75 u76 u77 u78 u79 u80 u81 u82 u83 u84 u85 u86 u87 u88 : Value, a' = { tmps := #[u0, u1, u2, u3, u4, u5, u6, u7, u8, u9, u10, u11, u12, u13, u14, u15, u16, u17, u18, u19, u20, u21, u22, u23, u24, u25, u26, u27, u28, u29, u30, u31, u32, u33, u34, u35, u36, u37, u38, u39, u40, u41, u42, u43, u44, u45, u46, u47, u48, u49, u50, u51, u52, u53, u54, u55, u56, u57, u58, u59, u60, u61, u62, u63, u64, u65, u66, u67, u68, u69, u70, u71, u72, u73, u74, u75, u76, u77, u78, u79, u80, u81, u82, u83, u84, u85, u86, u87, u88], defers := [] }

theorem scan_start (s : ByteArray) : ScanAt s 0 0 := ⟨by omega, by omega, by omega, rfl⟩
theorem scan_more {s : ByteArray} {i n : Nat} (h : ScanAt s i n) (hi : i < s.size) (h1 : 48 ≤ (s[i]'hi).toNat) (h2 : (s[i]'hi).toNat ≤ 57) (h3 : i < 11) : ScanAt s (i + 1) (10 * n + ((s[i]'hi).toNat - 48)) := by
  obtain ⟨a, b, c, d⟩ := h
  refine ⟨by omega, by omega, ?_, ?_⟩
  · rw [Nat.pow_succ]
    have : (s[i]'hi).toNat < 256 := UInt8.toNat_lt _
    omega
  · rw [← d, show 11 - i = (11 - (i + 1)) + 1 by omega, scan, dif_pos hi, if_pos ⟨h1, h2⟩]
theorem scan_stop {s : ByteArray} {i n : Nat} (h : ScanAt s i n) (hx : ¬ (∃ hi : i < s.size, 48 ≤ (s[i]'hi).toNat ∧ (s[i]'hi).toNat ≤ 57 ∧ i < 11)) : scan s 11 0 0 = (n, i) := by
  obtain ⟨a, b, c, d⟩ := h
  rw [← d]
  by_cases h11 : i = 11
  · subst h11; rfl
  · rw [show 11 - i = (11 - (i + 1)) + 1 by omega, scan]
    split
    · rename_i hi
      rw [if_neg (fun q => hx ⟨hi, q.1, q.2, by omega⟩)]
    · rfl

set_option maxRecDepth 100000 in
set_option maxHeartbeats 2000000 in
theorem number_any (s : ByteArray) (e : Int) (w : World) (hs : s.size ≤ 9223372036854775807) :
    Calls Try.prog 28 #[.string s, .int .u8 e] w (NumDone s e w) := by
  go_enter Try.func28, Try.ntmps28
  go_wp2_with fail
  refine wp_scope_jumps 0 (NumJ s e w) (fun _ _ => 0) rfl ?_ ?_
  · go_upto_block 0 with (fail)
    go_cut [7, 8] (fun vn vi wc => ∃ i n : Nat, vn = .int .u64 n ∧ vi = .int .i64 i ∧ i ≤ 11 ∧ i ≤ s.size ∧ Hid (scan s 11 0 0 = (n, i)) ∧ n < 100000000000 ∧ wc = w)
    case first =>
      go_wp2_with fail
      go_loopg [7, 8] 11 (fun g vn vi wr => ∃ i n : Nat, vn = .int .u64 n ∧ vi = .int .i64 i ∧ g = 11 - i ∧ ScanAt s i n ∧ wr = w)
      case atStart => exact ⟨0, 0, rfl, rfl, rfl, scan_start s, rfl⟩
      case round =>
        obtain ⟨i, n, rfl, rfl, hg, hsc, rfl⟩ := hrel
        have HG := hid_ hg
        have hi11 : i ≤ 11 := hsc.1
        have his : i ≤ s.size := hsc.2.1
        have hnb : n < 100000000000 := Nat.lt_of_lt_of_le hsc.2.2.1 (by
          calc 10 ^ i ≤ 10 ^ 11 := Nat.pow_le_pow_right (by omega) hi11
            _ = 100000000000 := rfl)
        by_cases hx : ∃ hi : i < s.size, 48 ≤ (s[i]'hi).toNat ∧ (s[i]'hi).toNat ≤ 57 ∧ i < 11
        · obtain ⟨hi, h1, h2, h3⟩ := hx
          have h1' : (48 : Int) ≤ ((s[i]'hi).toNat : Int) := by omega
          have h2' : ((s[i]'hi).toNat : Int) ≤ 57 := by omega
          have h3' : (i : Int) < 11 := by omega
          have SM := hid_ (scan_more hsc hi h1 h2 h3)
          clear hsc hg
          go_wp2_with fail
          go_roundg (11 - (i + 1))
          case measure => rw [HG.out]; omega
          case rel => exact ⟨i + 1, 10 * n + ((s[i]'hi).toNat - 48), by congr 1; omega, by go_num, rfl, SM.out, rfl⟩
        · have SS := hid_ (scan_stop hsc hx)
          have HX := hid_ hx
          clear hsc hg hx
          by_cases hi : i < s.size
          · by_cases h1 : (48 : Int) ≤ ((s[i]'hi).toNat : Int)
            · by_cases h2 : ((s[i]'hi).toNat : Int) ≤ 57
              · have h3 : ¬ (i : Int) < 11 := fun q => HX.out ⟨hi, by omega, by omega, by omega⟩
                go_wp2_with fail
                go_meet
                case rel => exact ⟨i, n, rfl, rfl, hi11, his, SS, hnb, rfl⟩
              · go_wp2_with fail
                go_meet
                case rel => exact ⟨i, n, rfl, rfl, hi11, his, SS, hnb, rfl⟩
            · go_wp2_with fail
              go_meet
              case rel => exact ⟨i, n, rfl, rfl, hi11, his, SS, hnb, rfl⟩
          · go_wp2_with fail
            go_meet
            case rel => exact ⟨i, n, rfl, rfl, hi11, his, SS, hnb, rfl⟩
    case rest =>
      obtain ⟨i, n, rfl, rfl, hi11, his, SS, hnb, rfl⟩ := hcut
      have hf' : luw_number.f s e = (if i = 0 ∨ 10 < i ∨ 4294967296 ≤ n ∨ (firstIs s 48 = true ∧ 1 < i) then some (0, (⟨#[]⟩ : ByteArray), false)
         else if e = 0 ∧ i = s.size then some ((n : Int), (⟨#[]⟩ : ByteArray), true)
         else if e ≠ 0 ∧ byteIs s i e = true then some ((n : Int), s.extract (i + 1) s.size, true)
         else some (0, (⟨#[]⟩ : ByteArray), false)) := by
        unfold luw_number.f
        rw [if_pos hs, SS.out]
      have HF := hid_ hf'
      clear hf'
      have bad : ∀ h : (i = 0 ∨ 10 < i ∨ 4294967296 ≤ n ∨ (firstIs s 48 = true ∧ 1 < i)), luw_number.f s e = some (0, (⟨#[]⟩ : ByteArray), false) := fun h => by rw [HF.out, if_pos h]
      have BAD := hid_ bad
      clear bad
      by_cases b1 : i = 0
      · have hb1 := hid_ (BAD.out (.inl b1))
        subst b1
        go_wp2_with fail
        go_step3
        refine ⟨rfl, hb1.out, Drawn0.refl _, ?_⟩
        (repeat apply Exists.intro)
        rfl
      · by_cases b2 : (10 : Int) < i
        · have hb2 := hid_ (BAD.out (.inr (.inl (by omega))))
          go_wp2_with fail
          go_step3
          refine ⟨rfl, hb2.out, Drawn0.refl _, ?_⟩
          (repeat apply Exists.intro)
          rfl
        · by_cases b3 : (4294967296 : Int) ≤ n
          · have hb3 := hid_ (BAD.out (.inr (.inr (.inl (by omega)))))
            go_wp2_with fail
            go_step3
            refine ⟨rfl, hb3.out, Drawn0.refl _, ?_⟩
            (repeat apply Exists.intro)
            rfl
          · have h0 : 0 < s.size := by omega
            have hfi : firstIs s 48 = ((s[0]'h0).toNat == 48) := by simp [firstIs, h0]
            cases hz : (((s[0]'h0).toNat : Int) == 48)
            · have hfz : firstIs s 48 = false := by
                rw [hfi]
                have : ¬ ((s[0]'h0).toNat : Int) = 48 := by simpa using hz
                simp only [beq_eq_false_iff_ne, ne_eq]
                omega
              have GOOD := hid_ (show ¬ (i = 0 ∨ 10 < i ∨ 4294967296 ≤ n ∨ (firstIs s 48 = true ∧ 1 < i)) by rw [hfz]; simp; omega)
              clear hfi hfz
              by_cases e0 : e = 0
              · subst e0
                by_cases hi : i = s.size
                · have hg := hid_ (show luw_number.f s 0 = some ((n : Int), (⟨#[]⟩ : ByteArray), true) by rw [HF.out, if_neg GOOD.out, if_pos ⟨rfl, hi⟩])
                  have hib2 : (i == s.size) = true := by simpa using hi
                  clear hi
                  go_wp2_with fail
                  simp only [Exit.jump]
                  go_ret3
                  exact ⟨_, _, _, hg.out, rfl, Drawn0.refl _⟩
                · have hg := hid_ (show luw_number.f s 0 = some (0, (⟨#[]⟩ : ByteArray), false) by rw [HF.out, if_neg GOOD.out, if_neg (fun q => hi q.2), if_neg (fun q => q.1 rfl)])
                  have hib2 : (i == s.size) = false := by simpa using hi
                  clear hi
                  go_wp2_with fail
                  go_step3
                  go_wp2_with fail
                  simp only [Exit.jump]
                  go_ret3
                  exact ⟨_, _, _, hg.out, rfl, Drawn0.refl _⟩
              · have e0b : (e == 0) = false := by simpa using e0
                have E0 := hid_ e0
                clear e0
                by_cases hi : i < s.size
                · cases he : (((s[i]'hi).toNat : Int) == e)
                  · have hg := hid_ (show luw_number.f s e = some (0, (⟨#[]⟩ : ByteArray), false) by rw [HF.out, if_neg GOOD.out, if_neg (fun q => E0.out q.1), if_neg (fun q => by have := q.2; unfold byteIs at this; rw [dif_pos hi, he] at this; cases this)])
                    go_wp2_with fail
                    go_step3
                    go_wp2_with fail
                    simp only [Exit.jump]
                    go_ret3
                    exact ⟨_, _, _, hg.out, rfl, Drawn0.refl _⟩
                  · have hg := hid_ (show luw_number.f s e = some ((n : Int), s.extract (i + 1) s.size, true) by rw [HF.out, if_neg GOOD.out, if_neg (fun q => E0.out q.1), if_pos ⟨E0.out, by unfold byteIs; rw [dif_pos hi, he]⟩])
                    go_wp2_with fail
                    go_quiet (fail)
                    go_wp2_with fail
                    simp only [Exit.jump]
                    go_ret3
                    exact ⟨_, _, _, hg.out, rfl, (Drawn0.refl _).step _⟩
                · have hg := hid_ (show luw_number.f s e = some (0, (⟨#[]⟩ : ByteArray), false) by rw [HF.out, if_neg GOOD.out, if_neg (fun q => E0.out q.1), if_neg (fun q => by have := q.2; unfold byteIs at this; rw [dif_neg hi] at this; cases this)])
                  go_wp2_with fail
                  go_step3
                  go_wp2_with fail
                  simp only [Exit.jump]
                  go_ret3
                  exact ⟨_, _, _, hg.out, rfl, Drawn0.refl _⟩
            · have hfz : firstIs s 48 = true := by
                rw [hfi]
                have : ((s[0]'h0).toNat : Int) = 48 := by simpa using hz
                simp only [beq_iff_eq]
                omega
              by_cases b4 : (1 : Int) < i
              · have hb4 := hid_ (BAD.out (.inr (.inr (.inr ⟨hfz, by omega⟩))))
                clear hfi hfz
                go_wp2_with fail
                go_step3
                refine ⟨rfl, hb4.out, Drawn0.refl _, ?_⟩
                (repeat apply Exists.intro)
                rfl
              · have GOOD := hid_ (show ¬ (i = 0 ∨ 10 < i ∨ 4294967296 ≤ n ∨ (firstIs s 48 = true ∧ 1 < i)) by simp; omega)
                clear hfi hfz
                by_cases e0 : e = 0
                · subst e0
                  by_cases hi : i = s.size
                  · have hg := hid_ (show luw_number.f s 0 = some ((n : Int), (⟨#[]⟩ : ByteArray), true) by rw [HF.out, if_neg GOOD.out, if_pos ⟨rfl, hi⟩])
                    have hib2 : (i == s.size) = true := by simpa using hi
                    clear hi
                    go_wp2_with fail
                    simp only [Exit.jump]
                    go_ret3
                    exact ⟨_, _, _, hg.out, rfl, Drawn0.refl _⟩
                  · have hg := hid_ (show luw_number.f s 0 = some (0, (⟨#[]⟩ : ByteArray), false) by rw [HF.out, if_neg GOOD.out, if_neg (fun q => hi q.2), if_neg (fun q => q.1 rfl)])
                    have hib2 : (i == s.size) = false := by simpa using hi
                    clear hi
                    go_wp2_with fail
                    go_step3
                    go_wp2_with fail
                    simp only [Exit.jump]
                    go_ret3
                    exact ⟨_, _, _, hg.out, rfl, Drawn0.refl _⟩
                · have e0b : (e == 0) = false := by simpa using e0
                  have E0 := hid_ e0
                  clear e0
                  by_cases hi : i < s.size
                  · cases he : (((s[i]'hi).toNat : Int) == e)
                    · have hg := hid_ (show luw_number.f s e = some (0, (⟨#[]⟩ : ByteArray), false) by rw [HF.out, if_neg GOOD.out, if_neg (fun q => E0.out q.1), if_neg (fun q => by have := q.2; unfold byteIs at this; rw [dif_pos hi, he] at this; cases this)])
                      go_wp2_with fail
                      go_step3
                      go_wp2_with fail
                      simp only [Exit.jump]
                      go_ret3
                      exact ⟨_, _, _, hg.out, rfl, Drawn0.refl _⟩
                    · have hg := hid_ (show luw_number.f s e = some ((n : Int), s.extract (i + 1) s.size, true) by rw [HF.out, if_neg GOOD.out, if_neg (fun q => E0.out q.1), if_pos ⟨E0.out, by unfold byteIs; rw [dif_pos hi, he]⟩])
                      go_wp2_with fail
                      go_quiet (fail)
                      go_wp2_with fail
                      simp only [Exit.jump]
                      go_ret3
                      exact ⟨_, _, _, hg.out, rfl, (Drawn0.refl _).step _⟩
                  · have hg := hid_ (show luw_number.f s e = some (0, (⟨#[]⟩ : ByteArray), false) by rw [HF.out, if_neg GOOD.out, if_neg (fun q => E0.out q.1), if_neg (fun q => by have := q.2; unfold byteIs at this; rw [dif_neg hi] at this; cases this)])
                    go_wp2_with fail
                    go_step3
                    go_wp2_with fail
                    simp only [Exit.jump]
                    go_ret3
                    exact ⟨_, _, _, hg.out, rfl, Drawn0.refl _⟩
  · intro a' w' hJ
    unfold NumJ at hJ
    obtain ⟨hbad, hd, hJ⟩ := hJ
    obtain ⟨u0, hJ⟩ := hJ
    obtain ⟨u1, hJ⟩ := hJ
    obtain ⟨u2, hJ⟩ := hJ
    obtain ⟨u3, hJ⟩ := hJ
    obtain ⟨u4, hJ⟩ := hJ
    obtain ⟨u5, hJ⟩ := hJ
    obtain ⟨u6, hJ⟩ := hJ
    obtain ⟨u7, hJ⟩ := hJ
    obtain ⟨u8, hJ⟩ := hJ
    obtain ⟨u9, hJ⟩ := hJ
    obtain ⟨u10, hJ⟩ := hJ
    obtain ⟨u11, hJ⟩ := hJ
    obtain ⟨u12, hJ⟩ := hJ
    obtain ⟨u13, hJ⟩ := hJ
    obtain ⟨u14, hJ⟩ := hJ
    obtain ⟨u15, hJ⟩ := hJ
    obtain ⟨u16, hJ⟩ := hJ
    obtain ⟨u17, hJ⟩ := hJ
    obtain ⟨u18, hJ⟩ := hJ
    obtain ⟨u19, hJ⟩ := hJ
    obtain ⟨u20, hJ⟩ := hJ
    obtain ⟨u21, hJ⟩ := hJ
    obtain ⟨u22, hJ⟩ := hJ
    obtain ⟨u23, hJ⟩ := hJ
    obtain ⟨u24, hJ⟩ := hJ
    obtain ⟨u25, hJ⟩ := hJ
    obtain ⟨u26, hJ⟩ := hJ
    obtain ⟨u27, hJ⟩ := hJ
    obtain ⟨u28, hJ⟩ := hJ
    obtain ⟨u29, hJ⟩ := hJ
    obtain ⟨u30, hJ⟩ := hJ
    obtain ⟨u31, hJ⟩ := hJ
    obtain ⟨u32, hJ⟩ := hJ
    obtain ⟨u33, hJ⟩ := hJ
    obtain ⟨u34, hJ⟩ := hJ
    obtain ⟨u35, hJ⟩ := hJ
    obtain ⟨u36, hJ⟩ := hJ
    obtain ⟨u37, hJ⟩ := hJ
    obtain ⟨u38, hJ⟩ := hJ
    obtain ⟨u39, hJ⟩ := hJ
    obtain ⟨u40, hJ⟩ := hJ
    obtain ⟨u41, hJ⟩ := hJ
    obtain ⟨u42, hJ⟩ := hJ
    obtain ⟨u43, hJ⟩ := hJ
    obtain ⟨u44, hJ⟩ := hJ
    obtain ⟨u45, hJ⟩ := hJ
    obtain ⟨u46, hJ⟩ := hJ
    obtain ⟨u47, hJ⟩ := hJ
    obtain ⟨u48, hJ⟩ := hJ
    obtain ⟨u49, hJ⟩ := hJ
    obtain ⟨u50, hJ⟩ := hJ
    obtain ⟨u51, hJ⟩ := hJ
    obtain ⟨u52, hJ⟩ := hJ
    obtain ⟨u53, hJ⟩ := hJ
    obtain ⟨u54, hJ⟩ := hJ
    obtain ⟨u55, hJ⟩ := hJ
    obtain ⟨u56, hJ⟩ := hJ
    obtain ⟨u57, hJ⟩ := hJ
    obtain ⟨u58, hJ⟩ := hJ
    obtain ⟨u59, hJ⟩ := hJ
    obtain ⟨u60, hJ⟩ := hJ
    obtain ⟨u61, hJ⟩ := hJ
    obtain ⟨u62, hJ⟩ := hJ
    obtain ⟨u63, hJ⟩ := hJ
    obtain ⟨u64, hJ⟩ := hJ
    obtain ⟨u65, hJ⟩ := hJ
    obtain ⟨u66, hJ⟩ := hJ
    obtain ⟨u67, hJ⟩ := hJ
    obtain ⟨u68, hJ⟩ := hJ
    obtain ⟨u69, hJ⟩ := hJ
    obtain ⟨u70, hJ⟩ := hJ
    obtain ⟨u71, hJ⟩ := hJ
    obtain ⟨u72, hJ⟩ := hJ
    obtain ⟨u73, hJ⟩ := hJ
    obtain ⟨u74, hJ⟩ := hJ
    obtain ⟨u75, hJ⟩ := hJ
    obtain ⟨u76, hJ⟩ := hJ
    obtain ⟨u77, hJ⟩ := hJ
    obtain ⟨u78, hJ⟩ := hJ
    obtain ⟨u79, hJ⟩ := hJ
    obtain ⟨u80, hJ⟩ := hJ
    obtain ⟨u81, hJ⟩ := hJ
    obtain ⟨u82, hJ⟩ := hJ
    obtain ⟨u83, hJ⟩ := hJ
    obtain ⟨u84, hJ⟩ := hJ
    obtain ⟨u85, hJ⟩ := hJ
    obtain ⟨u86, hJ⟩ := hJ
    obtain ⟨u87, hJ⟩ := hJ
    obtain ⟨u88, hJ⟩ := hJ
    subst hJ
    have HB := hid_ hbad
    clear hbad
    go_wp2_with fail
    simp only [Exit.jump]
    go_ret3
    exact ⟨0, _, false, HB.out, rfl, hd⟩
end Go.Proofs.Ytlbajagnfmbljaa.Q
