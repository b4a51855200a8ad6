/- Walks of trothlaw13.played and sameValues. Conditions: the lists read. -/
import Derived.Test.YtekebjcknhjceaaKvW9
namespace Go.Mine
set_option linter.unusedVariables false
def stepK (s : KS) (o : KOp) : KS := if o.l.length ≤ 30 then (callK s o).2 else s
def playK (l : List KOp) : KS := (l.take 60).foldl stepK KS.new
theorem KS.Ok.call {s : KS} (h : s.Ok) (o : KOp) : (callK s o).2.Ok := by
  unfold callK
  split
  · exact h.get _ _
  · split
    · exact h.change _ _ (.inl rfl)
    · split
      · exact h.change _ _ (.inr ⟨rfl, rfl⟩)
      · split
        · exact h.prepare _
        · split
          · exact h.commit _
          · split
            · exact h.backout _
            · split
              · exact h.restore _ _
              · exact h
end Go.Mine
namespace Go.Proofs.Ytekebjcknhjceaa
open Go.RowKit Go.Mine Go.Proofs.YtekebjcknhjceaaW.PrintWords
set_option linter.unusedVariables false
set_option linter.unusedSimpArgs false

def encOp (o : KOp) : List Value := [.int .i64 o.kind, .int .i64 o.work, .int .i64 o.key, .int .u64 o.val, .slice o.la o.l.length o.lc]
/-- A slice of calls that came in. -/
def OpsAt (w : World) (B : Nat) (A : Option Addr) (l : List KOp) : Prop :=
  ∀ i x, l[i]? = some x → ∃ b off, A = some ⟨b, off, none⟩ ∧ b < B ∧ (∀ j v, (encOp x)[j]? = some v → w.cell? ⟨b, off + i * 5 + j, none⟩ = some v) ∧ ChAt w B x.la x.l ∧ x.l.length ≤ x.lc
theorem OpsAt.below {w w' : World} {B : Nat} {A : Option Addr} {l : List KOp} (h : OpsAt w B A l) (hb : Below B w w') : OpsAt w' B A l := by
  intro i x hx
  obtain ⟨b, off, e, hlt, hc, h1, h2⟩ := h i x hx
  exact ⟨b, off, e, hlt, fun j v hv => (hb.cell (p := ⟨b, off + i * 5 + j, none⟩) hlt).trans (hc j v hv), h1.below hb, h2⟩

theorem call_st {B : Nat} {w : World} {b0 : Nat} {s : KS} (h : St B w b0 s) (o : KOp) {B' : Nat} (hl : ChAt w B' o.la o.l) (hB : B' ≤ w.heap.size) (hn : o.kind = 6 → o.l.length ≤ 100000) (hc : o.l.length ≤ o.lc) :
    Calls Try.prog 19 #[.pointer (some ⟨b0, 0, none⟩), .agg #[.int .i64 o.kind, .int .i64 o.work, .int .i64 o.key, .int .u64 o.val, .slice o.la o.l.length o.lc]] w fun e w' =>
      (∃ a b v c, e = .returned (.tuple #[a, b, v, c])) ∧ St B w' b0 (callK s o).2 ∧ Below B w w' := by
  obtain ⟨⟨F, h1, h2⟩, h3⟩ := h
  refine (call_any h1 o (hl.up hB) hn hc).mono ?_
  rintro e w' ⟨v, F', he, hk, hg, hf, _, _⟩
  exact ⟨⟨_, _, _, _, he⟩, St.of h3 h2 hk hg hf⟩

set_option maxRecDepth 100000 in
set_option maxHeartbeats 2000000 in
theorem played_any (A : Option Addr) (l : List KOp) (c B : Nat) (w : World) (hB : B ≤ w.heap.size) (hl : OpsAt w B A l) :
    Calls Try.prog 18 #[.slice A l.length c] w fun e w' => ∃ b0, e = .returned (.pointer (some ⟨b0, 0, none⟩)) ∧ St w.heap.size w' b0 (playK l) ∧ Below w.heap.size w w' := by
  go_enter Try.func18, Try.ntmps18
  go_wp2_with fail
  refine (new_st w).mono ?_
  rintro e w1 ⟨b0, rfl, t1, f1⟩
  go_wp2_with fail
  go_loopg [4] 61 (fun m v wr => ∃ i : Nat, v = .int .i64 i ∧ i ≤ l.length ∧ i ≤ 60 ∧ m = 61 - i ∧ St w.heap.size wr b0 ((l.take i).foldl stepK KS.new) ∧ Below w.heap.size w wr)
  case atStart => exact ⟨0, rfl, Nat.zero_le _, Nat.zero_le _, rfl, t1, f1⟩
  case round =>
    obtain ⟨i, rfl, hi1, hi2, hm, ht, hf⟩ := hrel
    have HN := hid hm
    clear hm
    have hlr := hl.below (hf.mono hB)
    by_cases h1 : i < l.length
    · by_cases h2 : (i : Int) < 60
      · obtain ⟨x, hx⟩ : ∃ x, l[i]? = some x := ⟨_, List.getElem?_eq_getElem h1⟩
        obtain ⟨b, off, rfl, hb, hc, hch, hlc⟩ := hlr i x hx
        have k0 : wr.cell? ⟨b, off + i * 5, none⟩ = some (.int .i64 x.kind) := hc 0 _ rfl
        have k1 := hc 1 _ rfl
        have k2 := hc 2 _ rfl
        have k3 := hc 3 _ rfl
        have k4 : wr.cell? ⟨b, off + i * 5 + 4, none⟩ = some (.slice x.la x.l.length x.lc) := hc 4 _ rfl
        have hst : (l.take (i + 1)).foldl stepK KS.new = stepK ((l.take i).foldl stepK KS.new) x := by
          rw [List.take_succ_eq_append_getElem h1, List.foldl_append]
          have : l[i] = x := by rw [List.getElem?_eq_getElem h1] at hx; exact Option.some.inj hx
          simp [this]
        have HS := hid hst
        have HCH := hid hch
        have hBr : B ≤ wr.heap.size := Nat.le_trans hB hf.size
        generalize (l.take i).foldl stepK KS.new = cur at *
        clear hc hlr hx hst hl hch
        by_cases h30 : x.l.length ≤ 30
        · have h30' : (x.l.length : Int) ≤ 30 := by omega
          have HC := hid (call_st ht x HCH.out hBr (fun _ => by omega) hlc)
          have hsx : stepK cur x = (callK cur x).2 := by unfold stepK; rw [if_pos h30]
          have HX := hid hsx
          clear hsx
          go_wp2_with fail
          refine HC.out.mono ?_
          rintro e w2 ⟨⟨a, bb, v, cc, rfl⟩, t2, f2⟩
          go_wp2_with fail
          go_roundg (61 - (i + 1))
          case measure => rw [HN.out]; omega
          case rel => exact ⟨i + 1, by go_num, by omega, by omega, rfl, by rw [HS.out, HX.out]; exact t2, hf.trans f2⟩
        · have h30' : ¬ (x.l.length : Int) ≤ 30 := by omega
          have hsx : stepK cur x = cur := by unfold stepK; rw [if_neg h30]
          have HX := hid hsx
          clear hsx
          go_wp2_with fail
          go_roundg (61 - (i + 1))
          case measure => rw [HN.out]; omega
          case rel => exact ⟨i + 1, by go_num, by omega, by omega, rfl, by rw [HS.out, HX.out]; exact ht, hf⟩
      · go_wp2_with fail
        go_ret
        have : i = 60 := by omega
        subst this
        exact ⟨_, rfl, ht, hf⟩
    · go_wp2_with fail
      go_ret
      have : i = l.length := by omega
      subst this
      refine ⟨_, rfl, ?_, hf⟩
      have e : l.take l.length = l.take 60 := by rw [List.take_of_length_le (Nat.le_refl _), List.take_of_length_le hi2]
      rw [e] at ht
      exact ht

set_option maxRecDepth 100000 in
set_option maxHeartbeats 2000000 in
/-- Two stores of the same values. -/
theorem same_any {F G : Nat → Prop} {w : World} {b0 b1 : Nat} {s t : KS} (hs : KvAt F w b0 s) (ht : KvAt G w b1 t) (hv : s.vs = t.vs) (hb : s.th = t.th) :
    Calls Try.prog 25 #[.pointer (some ⟨b0, 0, none⟩), .pointer (some ⟨b1, 0, none⟩)] w fun e w' => e = .returned (.bool true) ∧ ∃ m, w' = w.drewN m := by
  go_enter Try.func25, Try.ntmps25
  go_wp2_with fail
  go_loopg [5] 17 (fun m v wr => ∃ i : Nat, v = .int .i64 i ∧ i ≤ 16 ∧ m = 17 - i ∧ ∃ q, wr = w.drewN q)
  case atStart => exact ⟨0, rfl, Nat.zero_le _, rfl, 0, rfl⟩
  case round =>
    obtain ⟨i, rfl, hi, hm, q, hq⟩ := hrel
    subst hq
    have HN := hid hm
    clear hm
    by_cases h1 : (i : Int) < 16
    · have e1 : t.value i = s.value i := by unfold KS.value; rw [hv, hb]
      have c1 := value_any (hs.below (bdN w q)) i
      have HT := ht
      generalize hsv : s.value i = sv at *
      obtain ⟨a, b⟩ := sv
      clear hsv
      go_wp2_with fail
      refine c1.mono ?_
      rintro e w2 ⟨rfl, m2, hw2⟩
      subst hw2
      have c2 := value_any (ht.below (bdN w (q + m2))) i
      rw [e1] at c2
      have d1 : (a != a) = false := by simp
      have d2 : (b != b) = false := by simp
      go_wp2_with fail
      refine c2.mono ?_
      rintro e w3 ⟨rfl, m3, hw3⟩
      subst hw3
      go_wp2_with fail
      go_roundg (17 - (i + 1))
      case measure => rw [HN.out]; omega
      case rel => exact ⟨i + 1, by go_num, by omega, rfl, _, rfl⟩
    · go_wp2_with fail
      go_ret
      exact ⟨rfl, _, rfl⟩
end Go.Proofs.Ytekebjcknhjceaa
