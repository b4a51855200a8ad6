/- The queue's calls over the plain queue, and walks of trothref14.Same and of the statement's alive. Conditions: the queue reads as St says. -/
import Derived.Test.YtmckdoiepmkbbaaQuP
namespace Go.Proofs.Ytmckdoiepmkbbaa
open Go.RowKit Go.Mine Go.Proofs.YtmckdoiepmkbbaaW.PrintWords
set_option linter.unusedVariables false
set_option linter.unusedSimpArgs false
def St (B : Nat) (w : World) (b : Nat) (s : QS) : Prop := (∃ F, QAt F w b s ∧ ∀ i, F i → B ≤ i) ∧ B ≤ w.heap.size
theorem St.of {B : Nat} {F F' : Nat → Prop} {w w' : World} {b : Nat} {s : QS} (hB : B ≤ w.heap.size) (hF : ∀ i, F i → B ≤ i) (h : QAt F' w' b s) (hg : Grew F F' w) (hf : Fr F w w') : St B w' b s ∧ Below B w w' :=
  ⟨⟨⟨F', h, fun i hi => (hg i hi).elim (hF i) (fun q => Nat.le_trans hB q)⟩, Nat.le_trans hB hf.size⟩, hf.below hB (fun k hk q => by have := hF k q; omega)⟩
theorem St.below {B : Nat} {w w' : World} {b : Nat} {s : QS} (h : St B w b s) (hb : Below w.heap.size w w') : St B w' b s := by
  obtain ⟨⟨F, h1, h2⟩, h3⟩ := h
  exact ⟨⟨F, h1.below hb, h2⟩, Nat.le_trans h3 hb.size⟩
theorem new_st (w : World) : Calls Try.prog 10 #[] w fun e w' => ∃ b, e = .returned (.pointer (some ⟨b, 0, none⟩)) ∧ St w.heap.size w' b QS.new ∧ Below w.heap.size w w' := by
  refine (new_any w).mono ?_
  rintro e w' ⟨rfl, rfl⟩
  exact ⟨_, rfl, ⟨⟨_, ⟨[], _, _, QR.new w, rfl⟩, fun i hi => by rw [hi]; exact Nat.le_refl _⟩, by simp⟩, (Below.refl _ _).alloc (Nat.le_refl _) _⟩
section
variable {B : Nat} {w : World} {b : Nat} {s : QS}
theorem put_st (h : St B w b s) (hb : s.Bd) (n v : Int) : Calls Try.prog 30 #[.pointer (some ⟨b, 0, none⟩), .int .i64 n, .int .u64 v] w fun e w' => e = .returned (.int .i64 (s.put n v).1) ∧ St B w' b (s.put n v).2 ∧ Below B w w' := by
  obtain ⟨⟨F, h1, h2⟩, h3⟩ := h
  refine (put_any h1 hb n v).mono ?_
  rintro e w' ⟨rfl, ⟨F', hk, hg⟩, hf⟩
  exact ⟨rfl, St.of h3 h2 hk hg hf⟩
theorem take_st (h : St B w b s) (hb : s.Bd) (n : Int) : Calls Try.prog 13 #[.pointer (some ⟨b, 0, none⟩), .int .i64 n] w fun e w' => e = .returned (.tuple #[.int .u64 (s.take n).1.1, .int .i64 (s.take n).1.2]) ∧ St B w' b (s.take n).2 ∧ Below B w w' := by
  obtain ⟨⟨F, h1, h2⟩, h3⟩ := h
  refine (take_any h1 hb n).mono ?_
  rintro e w' ⟨rfl, ⟨F', hk, hg⟩, hf⟩
  exact ⟨rfl, St.of h3 h2 hk hg hf⟩
theorem commit_st (h : St B w b s) (hb : s.Bd) (n : Int) : Calls Try.prog 16 #[.pointer (some ⟨b, 0, none⟩), .int .i64 n] w fun e w' => e = .returned (.int .i64 (s.commit n).1) ∧ St B w' b (s.commit n).2 ∧ Below B w w' := by
  obtain ⟨⟨F, h1, h2⟩, h3⟩ := h
  refine (commit_any h1 hb n).mono ?_
  rintro e w' ⟨rfl, ⟨F', hk, hg⟩, hf⟩
  exact ⟨rfl, St.of h3 h2 hk hg hf⟩
theorem backout_st (h : St B w b s) (hb : s.Bd) (n : Int) : Calls Try.prog 28 #[.pointer (some ⟨b, 0, none⟩), .int .i64 n] w fun e w' => e = .returned (.int .i64 (s.backout n).1) ∧ St B w' b (s.backout n).2 ∧ Below B w w' := by
  obtain ⟨⟨F, h1, h2⟩, h3⟩ := h
  refine (backout_any h1 hb n).mono ?_
  rintro e w' ⟨rfl, ⟨F', hk, hg⟩, hf⟩
  exact ⟨rfl, St.of h3 h2 hk hg hf⟩
theorem load_st (h : St B w b s) (hb : s.Bd) (A : Option Addr) (vals : List Int) (c : Nat) (next : Int) (hv : UAt w w.heap.size A vals) (hA : vals ≠ [] → ∀ b' off, A = some ⟨b', off, none⟩ → b' < B) (hlen : vals.length ≤ 100000000000000000) (hc : vals.length ≤ c) :
    Calls Try.prog 11 #[.pointer (some ⟨b, 0, none⟩), .slice A vals.length c, .int .i64 next] w fun e w' => e = .returned (.int .i64 (s.load vals next).1) ∧ St B w' b (s.load vals next).2 ∧ Below B w w' := by
  obtain ⟨⟨F, h1, h2⟩, h3⟩ := h
  refine (load_any h1 hb A vals c next hv (fun hne b' off e q => by have := hA hne b' off e; have := h2 _ q; omega) hlen hc).mono ?_
  rintro e w' ⟨rfl, ⟨F', hk, hg⟩, hf⟩
  exact ⟨rfl, St.of h3 h2 hk hg hf⟩
theorem values_st (h : St B w b s) (hn : s.its.length ≤ 100000) : Calls Try.prog 15 #[.pointer (some ⟨b, 0, none⟩)] w fun e w' => ∃ A c, e = .returned (.slice A s.its.length c) ∧ FR eU 28 w' (.slice A s.its.length c) (s.its.map (·.val)) ∧ (∀ k, (Value.slice A s.its.length c).ownBlock = some k → w.heap.size ≤ k) ∧ Below w.heap.size w w' := by
  obtain ⟨⟨F, h1, h2⟩, h3⟩ := h
  refine (values_any h1 hn).mono ?_
  rintro e w' ⟨v, rfl, hr, ho, hb⟩
  obtain ⟨A, c, rfl⟩ := Kd.R_slice hr
  rw [List.length_map] at hr ho ⊢
  exact ⟨A, c, rfl, hr, ho, hb⟩
theorem next_st (h : St B w b s) (hb : s.Bd) : Calls Try.prog 17 #[.pointer (some ⟨b, 0, none⟩)] w fun e w' => e = .returned (.int .i64 (s.gv + 1)) ∧ w = w' := by
  obtain ⟨⟨F, h1, h2⟩, h3⟩ := h
  exact next_any h1 hb.g0 hb.gt
theorem busy_st (h : St B w b s) (hn : s.ws.length ≤ 1000000) (n : Int) : Calls Try.prog 26 #[.pointer (some ⟨b, 0, none⟩), .int .i64 n] w fun e w' => e = .returned (.bool (s.busy n)) ∧ w = w' := by
  obtain ⟨⟨F, h1, h2⟩, h3⟩ := h
  exact busy_any h1 hn n
end
set_option maxRecDepth 100000 in
set_option maxHeartbeats 2000000 in
theorem same_any (A A' : Option Addr) (l : List Int) (c c' B : Nat) (w : World) (h : UAt w B A l) (h' : UAt w B A' l) (hn : l.length ≤ 1000000) :
    Calls Try.prog 14 #[.slice A l.length c, .slice A' l.length c'] w fun e w' => e = .returned (.bool true) ∧ ∃ q, w' = w.drewN q := by
  have H := hid h
  have H' := hid h'
  clear h h'
  go_enter Try.func14, Try.ntmps14
  go_wp2_with fail
  go_loopg [5] (l.length + 1) (fun m v wr => ∃ i : Nat, v = .int .i64 i ∧ i ≤ l.length ∧ m = l.length + 1 - i ∧ ∃ q, wr = w.drewN q)
  case atStart => exact ⟨0, rfl, Nat.zero_le _, rfl, 0, rfl⟩
  case round =>
    obtain ⟨i, rfl, hi, hm, q, hq⟩ := hrel
    have HN := hid hm
    clear hm
    by_cases h1 : i < l.length
    · obtain ⟨y, hy⟩ : ∃ y, l[i]? = some y := ⟨_, List.getElem?_eq_getElem h1⟩
      obtain ⟨b, off, rfl, _, hc⟩ := H.out i y hy
      obtain ⟨b', off', rfl, _, hc'⟩ := H'.out i y hy
      have k0 : wr.cell? ⟨b, off + i, none⟩ = some (.int .u64 y) := by rw [hq]; have := hc 0 _ rfl; simpa using this
      have k1 : wr.cell? ⟨b', off' + i, none⟩ = some (.int .u64 y) := by rw [hq]; have := hc' 0 _ rfl; simpa using this
      have dy : (y != y) = false := by simp
      have HQ := hid hq
      clear hc hc' hy hq
      go_wp2_with fail
      go_quiet (fail)
      go_wp2_with fail
      go_roundg (l.length + 1 - (i + 1))
      case measure => rw [HN.out]; omega
      case rel => exact ⟨i + 1, by go_num, by omega, rfl, _, by rw [HQ.out]; exact drewN_two _ _ _⟩
    · go_wp2_with fail
      go_ret
      first | exact ⟨rfl, q, rfl⟩ | exact ⟨rfl, q, hq⟩
set_option maxRecDepth 100000 in
set_option maxHeartbeats 4000000 in
theorem alive_any (w : World) : Calls Try.prog 12 #[] w fun e w' => e = .returned (.bool true) ∧ Below w.heap.size w w' := by
  have e1 : QS.new.put 1 7 = (0, ⟨[], [(1, ⟨[⟨3, 0, 7⟩], false⟩)], 0⟩) := by decide +kernel
  have e2 : (⟨[], [(1, ⟨[⟨3, 0, 7⟩], false⟩)], 0⟩ : QS).commit 1 = (0, ⟨[⟨1, 7, 0⟩], [], 1⟩) := by decide +kernel
  have e3 : (⟨[⟨1, 7, 0⟩], [], 1⟩ : QS).take 2 = ((7, 0), ⟨[⟨1, 7, 2⟩], [(2, ⟨[⟨4, 1, 7⟩], false⟩)], 1⟩) := by decide +kernel
  have e4 : (⟨[⟨1, 7, 2⟩], [(2, ⟨[⟨4, 1, 7⟩], false⟩)], 1⟩ : QS).take 3 = ((0, 120), ⟨[⟨1, 7, 2⟩], [(2, ⟨[⟨4, 1, 7⟩], false⟩)], 1⟩) := by decide +kernel
  have e5 : (⟨[⟨1, 7, 2⟩], [(2, ⟨[⟨4, 1, 7⟩], false⟩)], 1⟩ : QS).backout 2 = (0, ⟨[⟨1, 7, 0⟩], [], 1⟩) := by decide +kernel
  have e6 : (⟨[⟨1, 7, 0⟩], [], 1⟩ : QS).take 3 = ((7, 0), ⟨[⟨1, 7, 3⟩], [(3, ⟨[⟨4, 1, 7⟩], false⟩)], 1⟩) := by decide +kernel
  have d0 : QS.new.Bd := ⟨by decide, by decide, by decide, by decide, by decide, by decide, by decide⟩
  have d1 : (⟨[], [(1, ⟨[⟨3, 0, 7⟩], false⟩)], 0⟩ : QS).Bd := ⟨by decide, by decide, by decide, by decide, by decide, by decide, by decide⟩
  have d2 : (⟨[⟨1, 7, 0⟩], [], 1⟩ : QS).Bd := ⟨by decide, by decide, by decide, by decide, by decide, by decide, by decide⟩
  have d3 : (⟨[⟨1, 7, 2⟩], [(2, ⟨[⟨4, 1, 7⟩], false⟩)], 1⟩ : QS).Bd := ⟨by decide, by decide, by decide, by decide, by decide, by decide, by decide⟩
  have d6 : (⟨[⟨1, 7, 3⟩], [(3, ⟨[⟨4, 1, 7⟩], false⟩)], 1⟩ : QS).Bd := ⟨by decide, by decide, by decide, by decide, by decide, by decide, by decide⟩
  go_enter Try.func12, Try.ntmps12
  go_wp2_with fail
  refine (new_st w).mono ?_
  rintro e w1 ⟨b, rfl, t1, f1⟩
  have c1 := put_st t1 d0 1 7
  rw [e1] at c1
  have C1 := hid c1
  clear c1
  go_wp2_with fail
  refine C1.out.mono ?_
  rintro e w2 ⟨rfl, t2, f2⟩
  have c2 := commit_st t2 d1 1
  rw [e2] at c2
  have C2 := hid c2
  clear c2 C1 t1
  go_wp2_with fail
  refine C2.out.mono ?_
  rintro e w3 ⟨rfl, t3, f3⟩
  have c3 := take_st t3 d2 2
  rw [e3] at c3
  have C3 := hid c3
  clear c3 C2 t2
  go_wp2_with fail
  refine C3.out.mono ?_
  rintro e w4 ⟨rfl, t4, f4⟩
  have c4 := take_st t4 d3 3
  rw [e4] at c4
  have C4 := hid c4
  clear c4 C3 t3
  go_wp2_with fail
  refine C4.out.mono ?_
  rintro e w5 ⟨rfl, t5, f5⟩
  have c5 := backout_st t5 d3 2
  rw [e5] at c5
  have C5 := hid c5
  clear c5 C4 t4
  go_wp2_with fail
  refine C5.out.mono ?_
  rintro e w6 ⟨rfl, t6, f6⟩
  have c6 := take_st t6 d2 3
  rw [e6] at c6
  have C6 := hid c6
  clear c6 C5 t5
  go_wp2_with fail
  refine C6.out.mono ?_
  rintro e w7 ⟨rfl, t7, f7⟩
  have C7 := hid (next_st t7 d6)
  clear C6 t6
  go_wp2_with fail
  refine C7.out.mono ?_
  rintro e w8 ⟨rfl, rfl⟩
  go_wp2_with fail
  go_ret
  exact ⟨rfl, (((((f1.trans f2).trans f3).trans f4).trans f5).trans f6).trans f7⟩
end Go.Proofs.Ytmckdoiepmkbbaa
