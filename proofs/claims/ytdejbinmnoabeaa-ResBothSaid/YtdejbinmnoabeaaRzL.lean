/- Walk of the statements' played. Conditions: the list of calls came in. -/
import Derived.Test.YtdejbinmnoabeaaRzK
namespace Go.Mine
def stepR (s : RM) (o : ROp) : RM := if o.l.length ≤ 40 then (callR s o).2 else s
def playR (l : List ROp) : RM := (l.take 60).foldl stepR RM.new
theorem RM.Ok.step {s : RM} (h : s.Ok) (o : ROp) : (stepR s o).Ok := by
  unfold stepR
  split
  · exact h.call o
  · exact h
theorem RM.Ok.fold : ∀ (l : List ROp) {s : RM}, s.Ok → (l.foldl stepR s).Ok
  | [], _, h => h
  | o :: l, _, h => RM.Ok.fold l (h.step o)
theorem RM.Ok.play (l : List ROp) : (playR l).Ok := RM.Ok.fold _ RM.Ok.new
end Go.Mine
namespace Go.Proofs.Ytdejbinmnoabeaa
open Go.RowKit Go.Mine Go.Proofs.YtdejbinmnoabeaaW.PrintWords
set_option linter.unusedVariables false
set_option linter.unusedSimpArgs false
def encOp (o : ROp) : List Value := [.int .i64 o.kind, .int .i64 o.work, .int .i64 o.key, .int .u64 o.val, .slice o.la o.l.length o.lc]
/-- A slice of calls that came in. -/
def OpsAt (w : World) (B : Nat) (A : Option Addr) (l : List ROp) : Prop :=
  ∀ i x, l[i]? = some x → ∃ b off, A = some ⟨b, off, none⟩ ∧ b < B ∧ (∀ j v, (encOp x)[j]? = some v → w.cell? ⟨b, off + i * 5 + j, none⟩ = some v) ∧ ChAt w B x.la x.l ∧ x.l.length ≤ x.lc
theorem OpsAt.below {w w' : World} {B : Nat} {A : Option Addr} {l : List ROp} (h : OpsAt w B A l) (hb : Below B w w') : OpsAt w' B A l := by
  intro i x hx
  obtain ⟨b, off, e, hlt, hc, h1, h2⟩ := h i x hx
  exact ⟨b, off, e, hlt, fun j v hv => (hb.cell (p := ⟨b, off + i * 5 + j, none⟩) hlt).trans (hc j v hv), Q.RowAt.below h1 hb, h2⟩
/-- Resources whose blocks are all beyond B. -/
def St (B : Nat) (w : World) (b : Nat) (s : RM) : Prop := (∃ F, RAt F w b s ∧ ∀ i, F i → B ≤ i) ∧ B ≤ w.heap.size
theorem St.of {B : Nat} {F F' : Nat → Prop} {w w' : World} {b : Nat} {s : RM} (hB : B ≤ w.heap.size) (hF : ∀ i, F i → B ≤ i) (h : RAt F' w' b s) (hg : K.Grew F F' w) (hf : Fr F w w') : St B w' b s ∧ Below B w w' :=
  ⟨⟨⟨F', h, fun i hi => (hg i hi).elim (hF i) (fun q => Nat.le_trans hB q)⟩, Nat.le_trans hB hf.size⟩, hf.below hB (fun k hk q => by have := hF k q; omega)⟩
theorem St.below {B : Nat} {w w' : World} {b : Nat} {s : RM} (h : St B w b s) (hb : Below w.heap.size w w') : St B w' b s := by
  obtain ⟨⟨F, h1, h2⟩, h3⟩ := h
  exact ⟨⟨F, h1.below hb, h2⟩, Nat.le_trans h3 hb.size⟩
theorem RAt.ok {F : Nat → Prop} {w : World} {b : Nat} {s : RM} (h : RAt F w b s) : s.Ok := ⟨h.kok, h.qok⟩
theorem St.ok {B : Nat} {w : World} {b : Nat} {s : RM} (h : St B w b s) : s.Ok := by
  obtain ⟨⟨F, h1, h2⟩, h3⟩ := h
  exact h1.ok
theorem new_st (w : World) : Calls Try.prog 28 #[] w fun e w' => ∃ b, e = .returned (.pointer (some ⟨b, 0, none⟩)) ∧ St w.heap.size w' b RM.new ∧ Below w.heap.size w w' := by
  refine (new_any w).mono ?_
  rintro e w' ⟨rfl, rfl⟩
  exact ⟨_, rfl, ⟨⟨_, new_rat w, fun i hi => by rw [hi]; exact Nat.le_refl _⟩, by simp⟩, (Below.refl _ _).alloc (Nat.le_refl _) _⟩
theorem RowAt.block {α : Type} {f : α → List Value} {sz B : Nat} {w : World} {A : Option Addr} {l : List α} (h : Q.RowAt f sz w B A l) (hl : l ≠ []) {b off : Nat} (e : A = some ⟨b, off, none⟩) : b < B := by
  obtain ⟨x, hx⟩ : ∃ x, l[0]? = some x := ⟨_, List.getElem?_eq_getElem (List.length_pos_iff.2 hl)⟩
  obtain ⟨b', off', e', hlt, _⟩ := h 0 x hx
  rw [e] at e'
  cases e'
  exact hlt
theorem call_st {B : Nat} {w : World} {b : Nat} {s : RM} (h : St B w b s) (o : ROp) {B' : Nat} (hi : ChAt w B' o.la o.l) (hc : o.l.length ≤ o.lc) (hB : B' ≤ B) (hn : o.l.length ≤ 40) :
    Calls Try.prog 14 #[.pointer (some ⟨b, 0, none⟩), .agg #[.int .i64 o.kind, .int .i64 o.work, .int .i64 o.key, .int .u64 o.val, .slice o.la o.l.length o.lc]] w fun e w' => (∃ v, e = .returned v) ∧ St B w' b (callR s o).2 ∧ Below B w w' := by
  obtain ⟨⟨F, h1, h2⟩, h3⟩ := h
  refine (call_any h1 o (fun _ => ⟨Q.RowAt.up hi (by omega), fun hne b' off e hF => by have := RowAt.block hi hne e; have := h2 b' hF; omega, by omega, hc⟩)).mono ?_
  rintro e w' ⟨A, c, he, ⟨F', hk, hg, _⟩, _, hf⟩
  exact ⟨⟨_, he⟩, St.of h3 h2 hk hg hf⟩
set_option maxRecDepth 100000 in
set_option maxHeartbeats 2000000 in
theorem played_any (A : Option Addr) (l : List ROp) (c B : Nat) (w : World) (hB : B ≤ w.heap.size) (hl : OpsAt w B A l) :
    Calls Try.prog 20 #[.slice A l.length c] w fun e w' => ∃ b, e = .returned (.pointer (some ⟨b, 0, none⟩)) ∧ St w.heap.size w' b (playR l) ∧ Below w.heap.size w w' := by
  go_enter Try.func20, Try.ntmps20
  go_wp2_with fail
  refine (new_st w).mono ?_
  rintro e w1 ⟨b0, rfl, t1, f1⟩
  go_wp2_with fail
  go_loopg [4] 61 (fun m v wr => ∃ i : Nat, v = .int .i64 i ∧ i ≤ l.length ∧ i ≤ 60 ∧ m = 61 - i ∧ St w.heap.size wr b0 ((l.take i).foldl stepR RM.new) ∧ Below w.heap.size w wr)
  case atStart => exact ⟨0, rfl, Nat.zero_le _, Nat.zero_le _, rfl, t1, f1⟩
  case round =>
    obtain ⟨i, rfl, hi1, hi2, hm, ht, hf⟩ := hrel
    have HN := hid hm
    clear hm
    have hlr := hl.below (hf.mono hB)
    by_cases h1 : i < l.length
    · by_cases h2 : (i : Int) < 60
      · obtain ⟨x, hx⟩ : ∃ x, l[i]? = some x := ⟨_, List.getElem?_eq_getElem h1⟩
        obtain ⟨b, off, rfl, hb, hc, hch, hlc⟩ := hlr i x hx
        have k0 : wr.cell? ⟨b, off + i * 5, none⟩ = some (.int .i64 x.kind) := hc 0 _ rfl
        have k1 := hc 1 _ rfl
        have k2 := hc 2 _ rfl
        have k3 := hc 3 _ rfl
        have k4 : wr.cell? ⟨b, off + i * 5 + 4, none⟩ = some (.slice x.la x.l.length x.lc) := hc 4 _ rfl
        have hst : (l.take (i + 1)).foldl stepR RM.new = stepR ((l.take i).foldl stepR RM.new) x := by
          rw [List.take_succ_eq_append_getElem h1, List.foldl_append]
          have : l[i] = x := by rw [List.getElem?_eq_getElem h1] at hx; exact Option.some.inj hx
          simp [this]
        have HS := hid hst
        have HT := hid ht
        have HCH := hid hch
        generalize (l.take i).foldl stepR RM.new = cur at *
        clear hc hx hst hl hch hlr ht
        by_cases h40 : x.l.length ≤ 40
        · have h40' : (x.l.length : Int) ≤ 40 := by omega
          have HC := hid (call_st HT.out x HCH.out hlc hB h40)
          have HX := hid (show stepR cur x = (callR cur x).2 from by unfold stepR; rw [if_pos h40])
          go_wp2_with fail
          refine HC.out.mono ?_
          rintro e w3 ⟨⟨v, rfl⟩, t3, f3⟩
          go_wp2_with fail
          go_roundg (61 - (i + 1))
          case measure => rw [HN.out]; omega
          case rel => exact ⟨i + 1, by go_num, by omega, by omega, rfl, by rw [HS.out, HX.out]; exact t3, hf.trans f3⟩
        · have h40' : ¬ (x.l.length : Int) ≤ 40 := by omega
          have HX := hid (show stepR cur x = cur from by unfold stepR; rw [if_neg h40])
          go_wp2_with fail
          go_roundg (61 - (i + 1))
          case measure => rw [HN.out]; omega
          case rel => exact ⟨i + 1, by go_num, by omega, by omega, rfl, by rw [HS.out, HX.out]; exact HT.out, hf⟩
      · go_wp2_with fail
        go_ret
        have : i = 60 := by omega
        subst this
        exact ⟨_, rfl, ht, hf⟩
    · go_wp2_with fail
      go_ret
      have : i = l.length := by omega
      subst this
      refine ⟨_, rfl, ?_, hf⟩
      have e : l.take l.length = l.take 60 := by rw [List.take_of_length_le (Nat.le_refl _), List.take_of_length_le hi2]
      rw [e] at ht
      exact ht
end Go.Proofs.Ytdejbinmnoabeaa
