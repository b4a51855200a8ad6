/- Texts of this seat, put together: RyR, RyW, Args, RzW0, RzX0. -/
import Derived.Test.YtdejbinmnoabeaaBd16
import Derived.Lib.Hide
import Derived.Test.YtdejbinmnoabeaaBd14
import Derived.Test.YtdejbinmnoabeaaBd15
import Derived.WalkKit
import Derived.ProofKit
import Derived.SizedLaws
import Derived.Deep.Slices
import Derived.Lib.SmallJoins
import Derived.Deep.Strs
import Derived.Test.YtdejbinmnoabeaaBd12
import Derived.Test.YtdejbinmnoabeaaBd7
import Derived.OpenShut
namespace Go.Proofs.Ytdejbinmnoabeaa.P
open Go.RowKit Go.Proofs.YtdejbinmnoabeaaW.PrintWords Go.Proofs.YtdejbinmnoabeaaW.PrintLast Go.Proofs.YtdejbinmnoabeaaW.PrintMore
set_option linter.unusedVariables false
set_option linter.unusedSimpArgs false
def Bytes (l : List Int) : Prop := ∀ x ∈ l, Byt x
theorem Bytes.drop {l : List Int} (h : Bytes l) (n : Nat) : Bytes (l.drop n) := fun x hx => h x (List.mem_of_mem_drop hx)
theorem Bytes.take {l : List Int} (h : Bytes l) (n : Nat) : Bytes (l.take n) := fun x hx => h x (List.mem_of_mem_take hx)
def gN : List Int → Int
  | [a0, a1, a2, a3, a4, a5, a6, a7] => num8 a0 a1 a2 a3 a4 a5 a6 a7
  | _ => 0
theorem eight {l : List Int} (h : l.length = 8) : ∃ a0 a1 a2 a3 a4 a5 a6 a7, l = [a0, a1, a2, a3, a4, a5, a6, a7] := by
  match l, h with
  | [a0, a1, a2, a3, a4, a5, a6, a7], _ => exact ⟨a0, a1, a2, a3, a4, a5, a6, a7, rfl⟩
theorem gN_get {l : List Int} (h : l.length = 8) (hb : Bytes l) (k : Nat) : oct_Get.f (k + 10) l = some (gN l, 0) ∧ trothref01_Get.f (k + 10) l = some (gN l, 0) ∧ 0 ≤ gN l ∧ gN l < 18446744073709551616 := by
  obtain ⟨a0, a1, a2, a3, a4, a5, a6, a7, rfl⟩ := eight h
  have h0 := hb a0 (by simp)
  have h1 := hb a1 (by simp)
  have h2 := hb a2 (by simp)
  have h3 := hb a3 (by simp)
  have h4 := hb a4 (by simp)
  have h5 := hb a5 (by simp)
  have h6 := hb a6 (by simp)
  have h7 := hb a7 (by simp)
  exact ⟨oget8 _ _ _ _ _ _ _ _ h0 h1 h2 h3 h4 h5 h6 h7 k, rget8 _ _ _ _ _ _ _ _ h0 h1 h2 h3 h4 h5 h6 h7 k, (num8_be _ _ _ _ _ _ _ _ h0 h1 h2 h3 h4 h5 h6 h7).2⟩
def rdL : Nat → List Int → List S62 → List S62 × Int
  | 0, _, acc => (acc, 0)
  | m + 1, s, acc => if rd s 0 < 1 ∨ 4 < rd s 0 ∨ 4611686018427387904 < gN ((s.drop 1).take 8) then ([], 30) else rdL m (s.drop 17) (acc ++ [⟨rd s 0, gN ((s.drop 1).take 8), gN ((s.drop 9).take 8)⟩])
def readC (b : List Int) : List S62 × Int := if b.length % 17 ≠ 0 then ([], 11) else if 816 < b.length then ([], 2) else rdL (b.length / 17) b []
theorem cut8 {w : World} {A : Option Addr} {c n : Nat} {s : List Int} (h : Kd.C (Kd.int .u8) w A s.length s) (hs : s.length = n) (hc : n ≤ c) (a b : Int) (ha : 0 ≤ a) (hb : b = a + 8) (hn : b ≤ n) :
    ∃ A', (∀ W : World, (Instr.slice 23 (.slice A n c) (some (.int .i64 a)) (some (.int .i64 b)) none).run Try.prog W = .ok (.slice A' 8 (c - a.toNat)) W) ∧ Kd.C (Kd.int .u8) w A' ((s.drop a.toNat).take 8).length ((s.drop a.toNat).take 8) ∧ 8 ≤ c - a.toNat ∧ ((s.drop a.toNat).take 8).length = 8 := by
  subst hs
  obtain ⟨i, hi, _, hsz, _⟩ := info_parts info5
  obtain ⟨A', hcut, hA, hC⟩ := print_mid_of (P := Try.prog) (Value.int .u8) 0 23 5 .i64 .i64 Try.underlying23 hi hsz A c s a b ha (by omega) hn hc
  have e : (s.take b.toNat).drop a.toNat = (s.drop a.toNat).take 8 := by
    rw [List.drop_take, show b.toNat - a.toNat = 8 by omega]
  have hl : ((s.drop a.toNat).take 8).length = 8 := by rw [List.length_take, List.length_drop]; omega
  have hA2 := hA _ (Kd.reads_of_C h)
  rw [e] at hA2 hC
  refine ⟨A', fun W => ?_, Kd.C_of_reads (h1 := fun _ => rfl) hA2, by omega, hl⟩
  have := hcut W
  rw [e, hl] at this
  exact this
theorem cutT {w : World} {A : Option Addr} {c n : Nat} {s : List Int} (h : Kd.C (Kd.int .u8) w A s.length s) (hs : s.length = n) (hc : n ≤ c) (hn : 17 ≤ n) :
    ∃ A', (∀ W : World, (Instr.slice 23 (.slice A n c) (some (.int .i64 17)) none none).run Try.prog W = .ok (.slice A' (n - 17) (c - 17)) W) ∧ Kd.C (Kd.int .u8) w A' (s.drop 17).length (s.drop 17) ∧ (s.drop 17).length ≤ c - 17 ∧ (s.drop 17).length = n - 17 := by
  subst hs
  obtain ⟨i, hi, _, hsz, _⟩ := info_parts info5
  obtain ⟨A', hcut, hA, hC⟩ := print_drop_of (P := Try.prog) (Value.int .u8) 0 23 5 .i64 Try.underlying23 hi hsz A c s 17 (by omega) (by omega) hc
  have hA2 := hA _ (Kd.reads_of_C h)
  refine ⟨A', fun W => ?_, Kd.C_of_reads (h1 := fun _ => rfl) hA2, hC, List.length_drop⟩
  have := hcut W
  rw [show (s.drop (Int.toNat 17)).length = s.length - 17 from List.length_drop] at this
  exact this
theorem get8 {w w1 : World} {A : Option Addr} {c : Nat} {l : List Int} (h : Kd.C (Kd.int .u8) w A l.length l) (hb : Below w.heap.size w w1) (hl : l.length = 8) (hc : 8 ≤ c) (hB : Bytes l) :
    Calls Try.prog 31 #[.slice A 8 c] w1 fun e w' => e = .returned (.tuple #[.int .u64 (gN l), .int .i64 0]) ∧ ∃ q, w' = w1.drewN q := by
  have := oct_Get.calls (0 + 10) A c l (gN l) 0 w1 (Kd.C_below h hb) (by omega) (gN_get hl hB 0).1
  rw [hl] at this
  exact this.mono (by rintro e w' ⟨rfl, ⟨q, hq⟩⟩; exact ⟨rfl, q, hq⟩)
theorem bN (w : World) (n : Nat) : Below w.heap.size w (w.drewN n) := ⟨rfl, rfl, rfl, Nat.le_refl _, fun _ _ => rfl⟩
theorem b1 (w : World) : Below w.heap.size w w.drew := ⟨rfl, rfl, rfl, Nat.le_refl _, fun _ _ => rfl⟩
set_option maxRecDepth 100000 in
set_option maxHeartbeats 4000000 in
theorem read_any (A : Option Addr) (c : Nat) (b : List Int) (w : World) (hr : Kd.C (Kd.int .u8) w A b.length b) (hc : b.length ≤ c) (hb : Bytes b) :
    Calls Try.prog 11 #[.slice A b.length c] w fun e w' => ∃ v, e = .returned (.tuple #[v, .int .i64 (readC b).2]) ∧ Kd.R k62 62 w' w.heap.size (fun _ => True) v (readC b).1 ∧ Below w.heap.size w w' := by
  have hu62 := Try.underlying62
  obtain ⟨n, hn⟩ : ∃ n, b.length = n := ⟨_, rfl⟩
  rw [hn] at hc ⊢
  go_enter Try.func11, Try.ntmps11
  by_cases h17 : n % 17 = 0
  · have hd : (((n : Int) % 17) != 0) = false := by rw [bne_eq_false_iff_eq]; omega
    by_cases h816 : 816 < n
    · have hd2 : decide ((816 : Int) < n) = true := decide_eq_true (by omega)
      go_wp2
      go_ret2
      have hv : readC b = ([], 2) := by unfold readC; rw [hn, if_neg (by omega), if_pos h816]
      exact ⟨_, by (first | (rw [hv]; done) | (rw [hv]; rfl)), by rw [hv]; exact Kd.R_nil _ _ _ _ _, Below.refl _ _⟩
    · have hd2 : decide ((816 : Int) < n) = false := decide_eq_false (by omega)
      obtain ⟨m0, hm0⟩ : ∃ m0, n = 17 * m0 := ⟨n / 17, by omega⟩
      have hv : readC b = rdL m0 b [] := by unfold readC; rw [hn, if_neg (by omega), if_neg h816, show n / 17 = m0 by omega]
      rw [hv]
      obtain ⟨R, hR⟩ : ∃ R, rdL m0 b [] = R := ⟨_, rfl⟩
      rw [hR]
      obtain ⟨r1, r2⟩ := R
      have HR := Lib.hid hR
      have HC := Lib.hid hr
      have HN := Lib.hid hn
      have HBY := Lib.hid hb
      have HM0 := Lib.hid hm0
      have HM48 := Lib.hid (show m0 ≤ 48 by omega)
      clear hR hr hn hb hv hm0 h17 h816
      go_wp2
      go_loopg [0, 4] (m0 + 1) (fun g v0 v4 wr => ∃ (m N cc : Nat) (s : List Int) (acc : List S62) (A' : Option Addr), v0 = .slice A' N cc ∧ N = 17 * m ∧ s.length = N ∧ N ≤ cc ∧ g = m + 1 ∧ m + acc.length = m0 ∧ rdL m s acc = (r1, r2) ∧ Bytes s ∧ Kd.C (Kd.int .u8) w A' s.length s ∧ Kd.R k62 62 wr w.heap.size (fun _ => True) v4 acc ∧ Below w.heap.size w wr)
      case atStart => exact ⟨m0, n, c, b, [], A, rfl, HM0.out, HN.out, hc, rfl, by simp, HR.out, HBY.out, HC.out, Kd.R_nil _ _ _ _ _, Below.refl _ _⟩
      case round =>
        obtain ⟨m, M, cc, s, acc, A', rfl, hM, hsM, hcc, hg, hma, hR, hB, hC, hO, hBe⟩ := hrel
        have HG := Lib.hid hg
        have HMA := Lib.hid hma
        have HM := Lib.hid hM
        have HS := Lib.hid hsM
        have HO := Lib.hid hO
        have HBE := Lib.hid hBe
        have HCC := Lib.hid hcc
        clear hg hma hO hBe hd hd2 hc HR HC HN HBY
        cases m with
        | zero =>
          have hM0 : M = 0 := by omega
          have hR2 : (acc, (0 : Int)) = (r1, r2) := hR
          clear hR hC hB hM hsM hcc
          cases hR2
          clear HM HS HCC HMA HG
          subst hM0
          go_wp2
          go_ret2
          exact ⟨_, rfl, HO.out, HBE.out⟩
        | succ m =>
          have hM17 : 17 ≤ M := by omega
          have hpos : decide ((0 : Int) < M) = true := decide_eq_true (by omega)
          obtain ⟨A1, cut1, C1, n1, l1⟩ := cut8 hC hsM hcc 1 9 (by omega) (by omega) (by omega)
          obtain ⟨A2, cut2, C2, n2, l2⟩ := cut8 hC hsM hcc 9 17 (by omega) (by omega) (by omega)
          obtain ⟨A3, cut3, C3, n3, l3⟩ := cutT hC hsM hcc hM17
          have G1 := Lib.hid (fun w1 (h : Below w.heap.size w w1) => get8 C1 h l1 n1 ((hB.drop _).take _))
          have G2 := Lib.hid (fun w1 (h : Below w.heap.size w w1) => get8 C2 h l2 n2 ((hB.drop _).take _))
          have key0 := (gN_get l1 ((hB.drop _).take _) 0).2.2
          have val0 := (gN_get l2 ((hB.drop _).take _) 0).2.2
          obtain ⟨ad, rfl, hx⟩ := Kd.at_int hC 0 (by omega) (by omega)
          have hx : w.cell? ad = some (.int .u8 (rd s 0)) := by have := hx; rwa [show ad.add (Int.toNat 0) = ad from rfl] at this
          have hkb : Byt (rd s 0) := by
            unfold rd
            rw [List.getD_eq_getElem?_getD, List.getElem?_eq_getElem (show (Int.toNat 0) < s.length from by rw [hsM]; show 0 < M; omega)]
            exact hB _ (List.getElem_mem _)
          rw [rdL] at hR
          have d1 : (s.drop (Int.toNat 1)) = s.drop 1 := rfl
          have d9 : (s.drop (Int.toNat 9)) = s.drop 9 := rfl
          rw [d1] at G1 key0
          rw [d9] at G2 val0
          generalize gN ((s.drop 1).take 8) = key at *
          generalize gN ((s.drop 9).take 8) = val at *
          generalize hkd : rd s 0 = kd at *
          have HR := Lib.hid hR
          have HC3 := Lib.hid C3
          have HB := Lib.hid hB
          have HN3 := Lib.hid n3
          have HL3 := Lib.hid l3
          have HX := Lib.hid hx
          have HC := Lib.hid hC
          clear hR C3 hB n3 l3 hx hC C1 C2 n1 n2 l1 l2 d1 d9 hM hsM
          go_wp2_with fail
          refine (G1.out _ HBE.out).mono ?_
          rintro e w3 ⟨rfl, q3, rfl⟩
          have hb3 := Lib.hid (HBE.out.trans ((bN wr q3).mono HBE.out.size))
          go_wp2_with fail
          refine (G2.out _ hb3.out).mono ?_
          rintro e w4 ⟨rfl, q4, rfl⟩
          have hb4 := Lib.hid (hb3.out.trans ((bN (wr.drewN q3) q4).mono hb3.out.size))
          have hx4 := (hb4.out.cell (World.block_lt_of_cell? w _ HX.out)).trans HX.out
          have HO4 := Lib.hid (show Kd.R k62 62 ((wr.drewN q3).drewN q4) w.heap.size (fun _ => True) u4 acc from by (with_reducible repeat (first | apply Kd.R_alloc | apply Kd.R_drewN | apply Kd.R_drew)); exact HO.out)
          clear HO HBE hb3 G1 G2
          generalize (wr.drewN q3).drewN q4 = w5 at *
          unfold Byt at hkb
          by_cases k1 : kd < 1
          · have kd1 : decide (kd < 1) = true := decide_eq_true k1
            have hv : ([], (30 : Int)) = (r1, r2) := by rw [← HR.out, if_pos (.inl k1)]
            cases hv
            clear k1
            go_wp2_with fail
            go_ret2
            exact ⟨_, rfl, Kd.R_nil _ _ _ _ _, hb4.out⟩
          · have kd1 : decide (kd < 1) = false := decide_eq_false k1
            by_cases k4 : 4 < kd
            · have kd4 : decide (4 < kd) = true := decide_eq_true k4
              have hv : ([], (30 : Int)) = (r1, r2) := by rw [← HR.out, if_pos (.inr (.inl k4))]
              cases hv
              clear k1 k4
              go_wp2_with fail
              go_ret2
              exact ⟨_, rfl, Kd.R_nil _ _ _ _ _, hb4.out⟩
            · have kd4 : decide (4 < kd) = false := decide_eq_false k4
              by_cases k62' : 4611686018427387904 < key
              · have kdk : decide (4611686018427387904 < key) = true := decide_eq_true k62'
                have hv : ([], (30 : Int)) = (r1, r2) := by rw [← HR.out, if_pos (.inr (.inr k62'))]
                cases hv
                clear k1 k4 k62'
                go_wp2_with fail
                go_ret2
                exact ⟨_, rfl, Kd.R_nil _ _ _ _ _, hb4.out⟩
              · have kdk : decide (4611686018427387904 < key) = false := decide_eq_false k62'
                have hv : rdL m (s.drop 17) (acc ++ [⟨kd, key, val⟩]) = (r1, r2) := by rw [← HR.out, if_neg (by omega)]
                have HV := Lib.hid hv
                have wk : wrap64 kd = kd := by unfold wrap64; omega
                have wy : wrap64 key = key := by unfold wrap64; omega
                have wk2 : IntKind.i64.wrap kd = kd := (i64_w _).trans wk
                have wy2 : IntKind.i64.wrap key = key := (i64_w _).trans wy
                have hal : acc.length < 5864062014805 := by have := HMA.out; have := HM48.out; omega
                have HAL := Lib.hid hal
                clear k1 k4 k62' hv hal
                go_wp2_with (first | ((with_reducible refine gate_builtin (b := .append) (xs := #[.tmp 47, .tmp 56]) rfl ?_); at_builtin; refine Kd.R_append k62 (w0 := w) w.heap.size rfl (.tmp 47) (.tmp 56) 22 62 (.agg #[(.int .i64 0), (.int .i64 0), (.int .u64 0)]) 24 rfl Try.underlying22 info62 rfl (by decide) (by omega) u4 acc (⟨kd, key, val⟩ : S62) [.int .i64 kd, .int .i64 key, .int .u64 val] (fun _ => True) (fun _ => False) rfl rfl ?aP (fun _ hk => hk.elim) ?aF ?aO ?aB ?aS ?aL ?_; (case aP => exact k62_mkM _ _ _ (⟨kd, key, val⟩ : S62)); (case aB => exact (by repeat (first | (with_reducible first | exact hb4.out | apply below_alloc | apply pw_below_drewN | apply below_drew1) | exact hb4.out))); (case aF => exact (fun _ _ => trivial)); (case aO => exact (by (with_reducible repeat (first | apply Kd.R_alloc | apply Kd.R_drewN | apply Kd.R_drew)); exact HO4.out)); (case aS => exact (below_size (by repeat (first | (with_reducible first | exact hb4.out | apply below_alloc | apply pw_below_drewN | apply below_drew1) | exact hb4.out)))); (case aL => have := HAL.out; omega); intro v57 w57 ho hb hg hat; have HO5 := Lib.hid ho; have HB5 := Lib.hid hb; clear ho hb hg hat))
                go_roundg (m + 1)
                case measure => rw [HG.out]; omega
                case rel => exact ⟨m, M - 17, cc - 17, s.drop 17, acc ++ [⟨kd, key, val⟩], A3, rfl, by have := HM.out; omega, HL3.out, by have := HN3.out; have := HL3.out; omega, rfl, by have := HMA.out; simp only [List.length_append, List.length_cons, List.length_nil]; omega, HV.out, HB.out.drop 17, HC3.out, HO5.out, HB5.out⟩
  · have hd : (((n : Int) % 17) != 0) = true := by rw [bne_iff_ne]; omega
    go_wp2
    go_ret2
    have hv : readC b = ([], 11) := by unfold readC; rw [hn, if_pos h17]
    exact ⟨_, by (first | (rw [hv]; done) | (rw [hv]; rfl)), by rw [hv]; exact Kd.R_nil _ _ _ _ _, Below.refl _ _⟩
end Go.Proofs.Ytdejbinmnoabeaa.P
namespace Go.Proofs.Ytdejbinmnoabeaa.P
open Go.RowKit Go.Proofs.YtdejbinmnoabeaaW.PrintWords Go.Proofs.YtdejbinmnoabeaaW.PrintLast Go.Proofs.YtdejbinmnoabeaaW.PrintMore
set_option linter.unusedVariables false
set_option linter.unusedSimpArgs false
def okC (c : S62) : Bool := decide (1 ≤ c.f0) && decide (c.f0 ≤ 4) && decide (0 ≤ c.f1)
def encC (c : S62) : List Int := [c.f0] ++ be8 c.f1 ++ be8 c.f2
structure U62 (c : S62) : Prop where
  a0 : -9223372036854775808 ≤ c.f1
  a1 : c.f1 < 9223372036854775808
  b0 : 0 ≤ c.f2
  b1 : c.f2 < 18446744073709551616
def writeC (l : List S62) : List Int × Int := if 48 < l.length then ([], 2) else if l.all okC = true then (l.flatMap encC, 0) else ([], 30)
theorem be8_len (x : Int) : (be8 x).length = 8 := rfl
theorem w48 {x : Int} (h0 : 0 ≤ x) (h1 : x ≤ 1000000) : wrap64 x = x := w64 h0 h1
theorem rdT {l : List S62} {i : Nat} {c : S62} (h : l[i]? = some c) : rd_T62 l (i : Int) = c := by
  unfold rd_T62
  rw [Int.toNat_natCast, List.getD_eq_getElem?_getD, h]
  rfl
theorem okC_parts {c : S62} (h : okC c = true) : 1 ≤ c.f0 ∧ c.f0 ≤ 4 ∧ 0 ≤ c.f1 := by
  unfold okC at h
  simp only [Bool.and_eq_true, decide_eq_true_eq] at h
  exact ⟨h.1.1, h.1.2, h.2⟩
theorem okC_not {c : S62} (h : okC c = false) : c.f0 < 1 ∨ 4 < c.f0 ∨ c.f1 < 0 := by
  by_cases q0 : c.f0 < 1
  · exact .inl q0
  by_cases q02 : 4 < c.f0
  · exact .inr (.inl q02)
  by_cases q03 : c.f1 < 0
  · exact .inr (.inr q03)
  have q : 1 ≤ c.f0 := by omega
  have q2 : c.f0 ≤ 4 := by omega
  have q3 : 0 ≤ c.f1 := by omega
  unfold okC at h
  rw [decide_eq_true q, decide_eq_true q2, decide_eq_true q3] at h
  cases h
theorem oput {x : Int} (h0 : 0 ≤ x) (h1 : x < 18446744073709551616) : oct_Put.f x 8 = some (be8 x, 0) := by
  unfold oct_Put.f
  rw [if_pos ⟨rfl, h0, h1⟩]
theorem w_ok (k : Nat) (x4 : List Int) (l : List S62) (i : Nat) (c : S62) (hc : l[i]? = some c) (ho : okC c = true) (hu : U62 c) (hx : x4.length ≤ 1000) (hl : l.length ≤ 48) :
    res_Write.l0 (k + 1 + 1) x4 l (l.length : Int) (i : Int) = res_Write.l0 k (x4 ++ encC c) l (l.length : Int) ((i + 1 : Nat) : Int) := by
  have hi : i < l.length := (List.getElem?_eq_some_iff.1 hc).1
  obtain ⟨o1, o2, o3⟩ := okC_parts ho
  have hw : IntKind.u64.wrap c.f1 = c.f1 := by rw [IntKind.wrap_u64]; have := hu.a1; omega
  rw [res_Write.l0, if_pos (by omega), if_pos (by omega), if_pos (by omega), rdT hc, if_neg (by omega), if_neg (by omega), decide_eq_false (by omega), res_Write.j1, if_neg (by simp), hw, oput o3 (by have := hu.a1; omega), Option.bind_some, oput hu.b0 hu.b1, Option.bind_some, if_pos (by omega)]
  simp only [Option.bind_some, List.length_append, List.length_cons, List.length_nil, be8_len]
  rw [if_pos (by omega), if_pos (by omega), w48 (by omega) (by omega), show c.f0 % 256 = c.f0 by omega]
  unfold encC
  rw [List.append_assoc, List.append_assoc, List.append_assoc]
  rfl
theorem w_bad (k : Nat) (x4 : List Int) (l : List S62) (i : Nat) (c : S62) (hc : l[i]? = some c) (ho : okC c = false) :
    res_Write.l0 (k + 1 + 1) x4 l (l.length : Int) (i : Int) = some ([], 30) := by
  have hi : i < l.length := (List.getElem?_eq_some_iff.1 hc).1
  rw [res_Write.l0, if_pos (by omega), if_pos (by omega), if_pos (by omega), rdT hc]
  by_cases q1 : c.f0 < 1
  · rw [if_pos q1, res_Write.j1, if_pos rfl]
  · rw [if_neg q1]
    by_cases q2 : c.f0 > 4
    · rw [if_pos q2, res_Write.j1, if_pos rfl]
    · rw [if_neg q2, res_Write.j1, if_pos (by have := okC_not ho; rw [decide_eq_true_eq]; omega)]
theorem encC_len (c : S62) : (encC c).length = 17 := rfl
def wEnd (x4 : List Int) (r : List S62) : List Int × Int := if r.all okC = true then (x4 ++ r.flatMap encC, 0) else ([], 30)
theorem wEnd_nil (x4 : List Int) : wEnd x4 [] = (x4, 0) := by simp [wEnd]
theorem wEnd_ok (x4 : List Int) (c : S62) (r : List S62) (h : okC c = true) : wEnd x4 (c :: r) = wEnd (x4 ++ encC c) r := by
  unfold wEnd
  rw [List.all_cons, h, Bool.true_and, List.flatMap_cons, List.append_assoc]
theorem wEnd_bad (x4 : List Int) (c : S62) (r : List S62) (h : okC c = false) : wEnd x4 (c :: r) = ([], 30) := by
  unfold wEnd
  rw [List.all_cons, h, Bool.false_and, if_neg (by simp)]
theorem w_all (l : List S62) (hl : l.length ≤ 48) (hu : ∀ c ∈ l, U62 c) : ∀ (d : Nat) (m : Nat) (x4 : List Int) (i : Nat), i + d = l.length → x4.length = 17 * i → res_Write.l0 (m + 1 + 2 * d) x4 l (l.length : Int) (i : Int) = some (wEnd x4 (l.drop i))
  | 0, m, x4, i, hi, hx => by
    rw [show m + 1 + 2 * 0 = m + 1 by omega, res_Write.l0, if_neg (by omega), List.drop_eq_nil_of_le (by omega), wEnd_nil]
  | d + 1, m, x4, i, hi, hx => by
    have hlt : i < l.length := by omega
    have hc : l[i]? = some l[i] := List.getElem?_eq_getElem hlt
    rw [show m + 1 + 2 * (d + 1) = m + 1 + 2 * d + 1 + 1 by omega, List.drop_eq_getElem_cons hlt]
    cases ho : okC l[i]
    · rw [w_bad _ _ _ _ _ hc ho, wEnd_bad _ _ _ ho]
    · rw [w_ok _ _ _ _ _ hc ho (hu _ (List.getElem_mem _)) (by omega) hl, wEnd_ok _ _ _ ho]
      exact w_all l hl hu d m _ (i + 1) (by omega) (by rw [List.length_append, encC_len]; omega)
theorem write_f (l : List S62) (hu : ∀ c ∈ l, U62 c) : ∃ k, res_Write.f k l = some (writeC l) := by
  refine ⟨0 + 1 + 2 * l.length, ?_⟩
  unfold res_Write.f writeC
  by_cases h : 48 < l.length
  · rw [if_pos (by omega), if_pos h]
  · rw [if_neg (by omega), if_neg h]
    refine (w_all l (by omega) hu l.length 0 [] 0 (by omega) rfl).trans ?_
    unfold wEnd
    rfl
end Go.Proofs.Ytdejbinmnoabeaa.P
namespace Go.Mine
open Go.RowKit Go.Deep
set_option linter.unusedVariables false
set_option linter.unusedSimpArgs false
def RowR {α : Type} (E : World → α → List Value → Prop) (w : World) (B size : Nat) (A : Option Addr) (ys : List α) : Prop :=
  ∀ i y, ys[i]? = some y → ∃ b off cs, A = some ⟨b, off, none⟩ ∧ b < B ∧ E w y cs ∧ cs.length = size ∧ ∀ j v, cs[j]? = some v → w.cell? ⟨b, off + i * size + j, none⟩ = some v
theorem RowR.below {α : Type} {E : World → α → List Value → Prop} {w w' : World} {B size : Nat} {A : Option Addr} {ys : List α} (h : RowR E w B size A ys) (hb : Below B w w') (hE : ∀ y cs, E w y cs → E w' y cs) : RowR E w' B size A ys := by
  intro i y hy
  obtain ⟨b, off, cs, e, hlt, he, hl, hc⟩ := h i y hy
  exact ⟨b, off, cs, e, hlt, hE y cs he, hl, fun j v hv => (hb.cell (p := ⟨b, off + i * size + j, none⟩) hlt).trans (hc j v hv)⟩
theorem cell_spot {w : World} {a : Addr} {v : Value} (h : w.cell? a = some v) : a.spot = none := by
  unfold World.cell? at h
  split at h
  · cases hs : a.spot with
    | none => rfl
    | some x => simp [hs] at h
  · cases h
theorem list_of_fn {α : Type} {n : Nat} {p : Nat → α → Prop} : (∀ i, i < n → ∃ y, p i y) → ∃ ys : List α, ys.length = n ∧ ∀ i y, ys[i]? = some y → p i y := by
  induction n with
  | zero => intro _; exact ⟨[], rfl, by simp⟩
  | succ n ih =>
    intro h
    obtain ⟨ys, hl, hp⟩ := ih (fun i hi => h i (by omega))
    obtain ⟨y, hy⟩ := h n (by omega)
    refine ⟨ys ++ [y], by simp [hl], fun i z hz => ?_⟩
    by_cases hi : i < n
    · rw [List.getElem?_append_left (by omega)] at hz
      exact hp i z hz
    · rw [List.getElem?_append_right (by omega), hl] at hz
      have : i - n = 0 := by
        cases hk : i - n with
        | zero => rfl
        | succ m => rw [hk] at hz; simp at hz
      rw [this] at hz
      simp at hz
      subst hz
      have : i = n := by omega
      subst this
      exact hy
section
variable {H : Type} {enc : TypeId × Value → H} {P : Program} {w : World} {base : Nat} {spare : Nat → Bool} {held : Bool}
theorem open_row {α : Type} (E : World → α → List Value → Prop) {t e : TypeId} {size fuel : Nat} {A : Option Addr} {len cap : Nat} {x : DataW H × List MemPlace} (ht : P.underlying t = some (.slice e)) (hc : P.cellsOf e = size) (hs : 0 < size)
    (hel : ∀ n cs z, DataW.trod enc P w base spare held n e cs = some z → ∃ y, E w y cs)
    (h : DataW.trod enc P w base spare held fuel t [.slice A len cap] = some x) :
    ∃ ys : List α, ys.length = len ∧ RowR E w w.heap.size size A ys ∧ len ≤ cap := by
  rcases open_slice ht h with ⟨h0, _⟩ | ⟨a, len', cap', m, n, D, Pl, hcs, hb, hl, hm, hmm, _, hx⟩
  · simp only [List.cons.injEq, Value.slice.injEq, and_true] at h0
    obtain ⟨rfl, rfl, rfl⟩ := h0
    exact ⟨[], rfl, fun i y hy => by simp at hy, Nat.le_refl _⟩
  · simp only [List.cons.injEq, Value.slice.injEq, and_true] at hcs
    obtain ⟨rfl, rfl, rfl⟩ := hcs
    have hlm : len ≤ m := by rw [hmm]; split <;> omega
    obtain ⟨ys, hyl, hyp⟩ := list_of_fn (α := α) (n := len) (p := fun i y => ∃ cs, E w y cs ∧ cs.length = size ∧ ∀ j, j < size → w.cell? ((a.add (i * size)).add j) = cs[j]?) (by
      intro i hi
      obtain ⟨cs', h1, h2⟩ := hx i (by omega)
      rw [hc] at h1
      obtain ⟨_, hln, hce⟩ := World.cells?_some h1
      obtain ⟨y, hy⟩ := hel _ _ _ h2
      exact ⟨y, cs', hy, hln, hce⟩)
    refine ⟨ys, hyl, fun i y hy => ?_, hl⟩
    obtain ⟨cs, he, hln, hce⟩ := hyp i y hy
    have h0 : w.cell? ((a.add (i * size)).add 0) = some cs[0] := by rw [hce 0 hs, List.getElem?_eq_getElem (by omega)]
    obtain ⟨b, off, sp⟩ := a
    have hadd : ∀ k, (⟨b, off, sp⟩ : Addr).add k = ⟨b, off + k, if k = 0 then sp else none⟩ := by
      intro k
      unfold Addr.add
      by_cases hk : k = 0
      · subst hk; simp
      · simp [hk]
    have hsp : sp = none := by
      by_cases hi0 : i = 0
      · subst hi0
        have := cell_spot h0
        simpa [hadd, Addr.add] using this
      · 
        obtain ⟨cs0, h1, _⟩ := hx 0 (by have := (List.getElem?_eq_some_iff.1 hy).1; omega)
        rw [hc] at h1
        obtain ⟨_, hln0, hce0⟩ := World.cells?_some h1
        have h00 := hce0 0 hs
        rw [List.getElem?_eq_getElem (by omega)] at h00
        have := cell_spot h00
        simpa [hadd, Addr.add] using this
    subst hsp
    have hblk : b < w.heap.size := by
      have := World.block_lt_of_cell? _ _ h0
      simp only [hadd] at this
      exact this
    refine ⟨b, off, cs, rfl, hblk, he, hln, fun j v hv => ?_⟩
    have hj : j < size := by have := (List.getElem?_eq_some_iff.1 hv).1; omega
    rw [← hv, ← hce j hj]
    congr 1
    simp only [hadd]
    unfold Addr.add
    by_cases hj0 : j = 0
    · subst hj0; simp
    · simp [hj0]
theorem sized_row {ts : List TypeId} {ds : List (DataW H)} {j : Nat} {t e : TypeId} {A : Option Addr} {len cap : Nat} {d : DataW H} {ps : List MemPlace} (hsz : (DataW.weightsEach P ts ds).all (· ≤ reachBytes) = true)
    (htj : ts[j]? = some t) (hdj : ds[j]? = some d) (ht : P.underlying t = some (.slice e)) (h : DataW.Trod enc P w base spare held t (.slice A len cap) d ps) {B : Nat} (hB : P.bytesOf e = B) : len * B ≤ 140737488351232 := by
  obtain ⟨fuel, hf⟩ := h
  rcases open_slice ht hf with ⟨h0, _⟩ | ⟨a, len', cap', m, n, D, Pl, hcs, hb, hl, hm, hmm, hx, _⟩
  · simp only [Value.cells, List.cons.injEq, Value.slice.injEq, and_true] at h0
    obtain ⟨_, rfl, _⟩ := h0
    simp
  · simp only [Value.cells, List.cons.injEq, Value.slice.injEq, and_true] at hcs
    obtain ⟨rfl, rfl, rfl⟩ := hcs
    obtain ⟨rfl, _⟩ := Prod.mk.inj hx
    have z := sized_slice hsz htj hdj ht
    rw [hB] at z
    refine Nat.le_trans (Nat.mul_le_mul_right _ ?_) z
    simp
end
end Go.Mine
namespace Go.Proofs.Ytdejbinmnoabeaa.P
open Go.RowKit Go.Proofs.YtdejbinmnoabeaaW.PrintWords Go.Proofs.YtdejbinmnoabeaaW.PrintLast Go.Proofs.YtdejbinmnoabeaaW.PrintMore
set_option linter.unusedVariables false
set_option linter.unusedSimpArgs false
def encS (y : S62) : List Value := [.int .i64 y.f0, .int .i64 y.f1, .int .u64 y.f2]
theorem chs_of {w : World} {B : Nat} {A : Option Addr} {l : List S62} (h : Go.Mine.RowR (fun _ y cs => cs = encS y ∧ U62 y) w B 3 A l) (hz : l.length ≤ 9223372036854775807) :
    Kd.C k62 w A l.length l ∧ ∀ c ∈ l, U62 c := by
  constructor
  · refine ⟨rfl, hz, fun hp => ?_⟩
    obtain ⟨b, off, cs, e, _⟩ := h 0 _ (List.getElem?_eq_getElem hp)
    refine ⟨⟨b, off, none⟩, e, fun j p hj => ?_⟩
    obtain ⟨b', off', cs', e', _, ⟨hc, _⟩, _, hcell⟩ := h j p hj
    rw [e] at e'
    cases e'
    refine ⟨encS p, rfl, k62_mk _ _, fun i u hu => ?_⟩
    have := hcell i u (by rw [hc]; exact hu)
    have ea : ∀ n, (⟨b, off, none⟩ : Addr).add n = ⟨b, off + n, none⟩ := by
      intro n
      unfold Addr.add
      by_cases h0 : n = 0
      · simp [h0]
      · simp [h0]
    change w.cell? ((⟨b, off, none⟩ : Addr).add (j * 3 + i)) = some u
    rw [ea, ← Nat.add_assoc]
    exact this
  · intro x hx
    obtain ⟨i, hi, rfl⟩ := List.mem_iff_getElem.1 hx
    obtain ⟨b, off, cs, e, _, ⟨_, hw⟩, _⟩ := h i _ (List.getElem?_eq_getElem hi)
    exact hw
section
variable {H : Type} {enc : TypeId × Value → H} {w : World} {base : Nat} {spare : Nat → Bool} {held : Bool}
end
def toCh (s : S62) : Go.Mine.Ch := ⟨s.f0, s.f1, s.f2⟩
theorem ch_of_R {w : World} {base : Nat} {v : Value} {l : List S62} (h : Kd.R k62 62 w base (fun _ => True) v l) : ∃ A c, v = .slice A (l.map toCh).length c ∧ ChAt w w.heap.size A (l.map toCh) := by
  obtain ⟨A, c, rfl, hlc, hC⟩ := Kd.R_reads h
  refine ⟨A, c, by rw [List.length_map], ?_⟩
  intro i x hx
  rw [List.getElem?_map] at hx
  obtain ⟨s, hs, rfl⟩ := Option.map_eq_some_iff.1 hx
  have hi : i < l.length := (List.getElem?_eq_some_iff.1 hs).1
  obtain ⟨g, cp, hv, _⟩ := Kd.R_form h (by omega)
  have hAg : A = some ⟨g, 0, none⟩ := by injection hv
  obtain ⟨ad, e, hc⟩ := hC.2.2 (by omega)
  obtain ⟨c', _, hK, hcell⟩ := hc i s hs
  have hk := k62_open hK
  subst hk
  rw [hAg] at e
  cases e
  have ea : ∀ n, (⟨g, 0, none⟩ : Addr).add n = ⟨g, 0 + n, none⟩ := by
    intro n
    unfold Addr.add
    by_cases h0 : n = 0
    · simp [h0]
    · simp [h0]
  refine ⟨g, 0, hAg, ?_, fun j v hv => ?_⟩
  · have := hcell 0 _ rfl
    rw [ea] at this
    exact World.block_lt_of_cell? w _ this
  · have := hcell j v hv
    change w.cell? ((⟨g, 0, none⟩ : Addr).add (i * 3 + j)) = some v at this
    rw [ea, ← Nat.add_assoc] at this
    exact this
theorem ch_below {w w' : World} {A : Option Addr} {l : List Go.Mine.Ch} (h : ChAt w w.heap.size A l) (hb : Below w.heap.size w w') : ChAt w' w'.heap.size A l := Q.RowAt.up (Q.RowAt.below h hb) hb.size
end Go.Proofs.Ytdejbinmnoabeaa.P
namespace Go.Proofs.Ytdejbinmnoabeaa.P
open Go.RowKit Go.Proofs.YtdejbinmnoabeaaW.PrintWords Go.Proofs.YtdejbinmnoabeaaW.PrintLast Go.Proofs.YtdejbinmnoabeaaW.PrintMore
set_option linter.unusedVariables false
set_option linter.unusedSimpArgs false
theorem gN_be {x : Int} (h0 : 0 ≤ x) (h1 : x < 18446744073709551616) : gN (be8 x) = x := by
  obtain ⟨a0, a1, a2, a3, a4, a5, a6, a7, e, _, _, _, _, _, _, _, _, hn⟩ := be8_num x h0 h1
  rw [e]
  exact hn
theorem be8_bytes {x : Int} (h0 : 0 ≤ x) (h1 : x < 18446744073709551616) : Bytes (be8 x) := by
  obtain ⟨a0, a1, a2, a3, a4, a5, a6, a7, e, b0, b1, b2, b3, b4, b5, b6, b7, _⟩ := be8_num x h0 h1
  rw [e]
  intro y hy
  simp only [List.mem_cons, List.not_mem_nil, or_false] at hy
  rcases hy with rfl | rfl | rfl | rfl | rfl | rfl | rfl | rfl
  all_goals assumption
def lowK (c : S62) : Bool := decide (c.f1 ≤ 4611686018427387904)
theorem enc_bytes : ∀ (l : List S62), (∀ c ∈ l, U62 c) → l.all okC = true → Bytes (l.flatMap encC) ∧ (l.flatMap encC).length = 17 * l.length
  | [], _, _ => ⟨fun x hx => by simp at hx, rfl⟩
  | c :: l, hu, ho => by
    rw [List.all_cons, Bool.and_eq_true] at ho
    obtain ⟨h1, h2⟩ := enc_bytes l (fun x hx => hu x (List.mem_cons_of_mem _ hx)) ho.2
    obtain ⟨o1, o2, o3⟩ := okC_parts ho.1
    have u := hu c (List.mem_cons_self ..)
    rw [List.flatMap_cons]
    refine ⟨?_, by rw [List.length_append, h2, encC_len, List.length_cons]; omega⟩
    intro x hx
    rcases List.mem_append.1 hx with hx | hx
    · unfold encC at hx
      rcases List.mem_append.1 hx with hx | hx
      · rcases List.mem_append.1 hx with hx | hx
        · obtain rfl := List.mem_singleton.1 hx
          exact ⟨by omega, by omega⟩
        · exact be8_bytes o3 (by have := u.a1; omega) x hx
      · exact be8_bytes u.b0 u.b1 x hx
    · exact h1 x hx
theorem rd_enc : ∀ (l : List S62) (acc : List S62), (∀ c ∈ l, U62 c) → l.all okC = true → rdL l.length (l.flatMap encC) acc = if l.all lowK = true then (acc ++ l, 0) else ([], 30)
  | [], acc, _, _ => by simp [rdL]
  | c :: l, acc, hu, ho => by
    rw [List.all_cons, Bool.and_eq_true] at ho
    obtain ⟨o1, o2, o3⟩ := okC_parts ho.1
    have u := hu c (List.mem_cons_self ..)
    have e0 : rd ((c :: l).flatMap encC) 0 = c.f0 := rfl
    have e1 : (((c :: l).flatMap encC).drop 1).take 8 = be8 c.f1 := rfl
    have e9 : (((c :: l).flatMap encC).drop 9).take 8 = be8 c.f2 := rfl
    have e17 : ((c :: l).flatMap encC).drop 17 = l.flatMap encC := rfl
    rw [List.length_cons, rdL, e0, e1, e9, e17, gN_be o3 (by have := u.a1; omega), gN_be u.b0 u.b1, List.all_cons]
    by_cases hk : 4611686018427387904 < c.f1
    · rw [if_pos (.inr (.inr hk)), show lowK c = false from decide_eq_false (by omega), Bool.false_and, if_neg (by simp)]
    · rw [if_neg (by omega), show lowK c = true from decide_eq_true (by omega), Bool.true_and, rd_enc l _ (fun x hx => hu x (List.mem_cons_of_mem _ hx)) ho.2, List.append_assoc]
      rfl
theorem read_back (l : List S62) (hl : l.length ≤ 48) (hu : ∀ c ∈ l, U62 c) (ho : l.all okC = true) : readC (l.flatMap encC) = if l.all lowK = true then (l, 0) else ([], 30) := by
  have hn := (enc_bytes l hu ho).2
  unfold readC
  rw [hn, if_neg (by omega), if_neg (by omega), show 17 * l.length / 17 = l.length by omega, rd_enc l [] hu ho]
  rfl
end Go.Proofs.Ytdejbinmnoabeaa.P
