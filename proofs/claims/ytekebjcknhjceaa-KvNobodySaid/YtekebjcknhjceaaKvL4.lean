/- Walk of trothlaw13.KvApart: it answers true. Condition: the calls' slices read as their lists. -/
import Derived.Test.YtekebjcknhjceaaKvL3
namespace Go.Mine
set_option linter.unusedVariables false
set_option linter.unusedSimpArgs false
theorem touch_vals (s : KS) (n k : Int) (al : Bool) : (s.touch n k al).2.vs = s.vs ∧ (s.touch n k al).2.th = s.th := by
  unfold KS.touch
  split
  · exact ⟨rfl, rfl⟩
  · split
    · exact ⟨rfl, rfl⟩
    · split <;> exact ⟨rfl, rfl⟩
theorem get_vals (s : KS) (n k : Int) : (s.get n k).2.vs = s.vs ∧ (s.get n k).2.th = s.th := by
  unfold KS.get
  simp only
  split <;> exact touch_vals _ _ _ _
theorem change_vals (s : KS) (n : Int) (c : Ch) : (s.change n c).2.vs = s.vs ∧ (s.change n c).2.th = s.th := by
  unfold KS.change
  simp only
  split <;> exact touch_vals _ _ _ _
theorem prepare_vals (s : KS) (n : Int) : (s.prepare n).2.vs = s.vs ∧ (s.prepare n).2.th = s.th := by
  unfold KS.prepare
  split
  · exact ⟨rfl, rfl⟩
  · cases aget n s.ws with
    | none => exact ⟨rfl, rfl⟩
    | some v =>
      simp only
      split
      · exact ⟨rfl, rfl⟩
      · split <;> exact ⟨rfl, rfl⟩
/-- Calls that do not decide change no value. -/
theorem call_vals (s : KS) (o : KOp) (h0 : ¬ o.kind < 0) (h3 : ¬ 3 < o.kind) : (callK s o).2.vs = s.vs ∧ (callK s o).2.th = s.th := by
  unfold callK
  split
  · exact get_vals _ _ _
  · split
    · exact change_vals _ _ _
    · split
      · exact change_vals _ _ _
      · split
        · exact prepare_vals _ _
        · omega
theorem backout_vals (s : KS) (n : Int) : (s.backout n).2.vs = s.vs ∧ (s.backout n).2.th = s.th := by
  unfold KS.backout
  split <;> exact ⟨rfl, rfl⟩
theorem backout_busy (s : KS) {n : Int} (h : ¬ n < 1) : (s.backout n).2.busy n = false := by
  unfold KS.backout
  rw [if_neg h]
  show (aget n (adel n s.ws)).isSome = false
  have : aget n (adel n s.ws) = none := by
    rw [aget_none]
    intro e he
    have := (List.mem_filter.1 he).2
    simpa using this
  rw [this]
  rfl
end Go.Mine
namespace Go.Proofs.Ytekebjcknhjceaa
open Go.RowKit Go.Mine Go.Proofs.YtekebjcknhjceaaW.PrintWords
set_option linter.unusedVariables false
set_option linter.unusedSimpArgs false

/-- Two stores side by side: what belongs to the one is not the other's. -/
def Two (B : Nat) (w : World) (F G : Nat → Prop) (b0 b1 : Nat) (s t : KS) : Prop := KvAt F w b0 s ∧ KvAt G w b1 t ∧ (∀ i, F i → ¬ G i) ∧ (∀ i, F i → B ≤ i) ∧ (∀ i, G i → B ≤ i) ∧ B ≤ w.heap.size
theorem Two.below {B : Nat} {w w' : World} {F G : Nat → Prop} {b0 b1 : Nat} {s t : KS} (h : Two B w F G b0 b1 s t) (hb : Below w.heap.size w w') : Two B w' F G b0 b1 s t :=
  ⟨h.1.below hb, h.2.1.below hb, h.2.2.1, h.2.2.2.1, h.2.2.2.2.1, Nat.le_trans h.2.2.2.2.2 hb.size⟩
/-- The first one turns. -/
theorem Two.one {B : Nat} {w w' : World} {F F' G : Nat → Prop} {b0 b1 : Nat} {s s' t : KS} (h : Two B w F G b0 b1 s t) (hk : KvAt F' w' b0 s') (hg : Grew F F' w) (hf : Fr F w w') : Two B w' F' G b0 b1 s' t ∧ Below B w w' := by
  obtain ⟨h1, h2, h3, h4, h5, h6⟩ := h
  have hG := h2.fb
  refine ⟨⟨hk, h2.fr hf (fun i hi q => h3 i q hi), fun i hi q => ?_, fun i hi => ?_, h5, Nat.le_trans h6 hf.size⟩, hf.below h6 (fun k hk q => by have := h4 k q; omega)⟩
  · rcases hg i hi with r | r
    · exact h3 i r q
    · have := hG i q; omega
  · rcases hg i hi with r | r
    · exact h4 i r
    · exact Nat.le_trans h6 r
theorem Two.swap {B : Nat} {w : World} {F G : Nat → Prop} {b0 b1 : Nat} {s t : KS} (h : Two B w F G b0 b1 s t) : Two B w G F b1 b0 t s :=
  ⟨h.2.1, h.1, fun i hi q => h.2.2.1 i q hi, h.2.2.2.2.1, h.2.2.2.1, h.2.2.2.2.2⟩
/-- A second store is made beside the first one. -/
theorem Two.mk_ {B : Nat} {w w' : World} {b0 b1 : Nat} {s t : KS} (h : St B w b0 s) (ht : St w.heap.size w' b1 t) (hb : Below w.heap.size w w') : ∃ F G, Two B w' F G b0 b1 s t := by
  obtain ⟨⟨F, h1, h2⟩, h3⟩ := h
  obtain ⟨⟨G, g1, g2⟩, g3⟩ := ht
  refine ⟨F, G, h1.below hb, g1, fun i hi q => ?_, h2, fun i hi => Nat.le_trans h3 (g2 i hi), Nat.le_trans h3 hb.size⟩
  have := h1.fb i hi
  have := g2 i q
  omega

set_option maxRecDepth 100000 in
set_option maxHeartbeats 4000000 in
theorem apart_any (A A1 : Option Addr) (l more : List KOp) (c c1 : Nat) (work : Int) (w : World) (hl : OpsAt w w.heap.size A l) (hm : OpsAt w w.heap.size A1 more) :
    Calls Try.prog 7 #[.slice A l.length c, .slice A1 more.length c1, .int .i64 work] w fun e w' => e = .returned (.bool true) ∧ Below w.heap.size w w' := by
  go_enter Try.func7, Try.ntmps7
  go_wp2_with fail
  refine (played_any A l c _ w (Nat.le_refl _) hl).mono ?_
  rintro e w1 ⟨b0, rfl, t1, f1⟩
  go_wp2_with fail
  refine (played_any A l c w.heap.size w1 f1.size (hl.below f1)).mono ?_
  rintro e w2 ⟨b1, rfl, t2, f2⟩
  have g2 := f1.trans (f2.mono f1.size)
  obtain ⟨F0, G, h2⟩ := Two.mk_ t1 t2 f2
  generalize hps : playK l = s0 at *
  clear hps t1 t2 hl f1 f2
  go_wp2_with fail
  go_loopg [9] 31 (fun m v wr => ∃ (i : Nat) (F : Nat → Prop) (s : KS), v = .int .i64 i ∧ i ≤ more.length ∧ i ≤ 30 ∧ m = 31 - i ∧ Two w.heap.size wr F G b0 b1 s s0 ∧ s.vs = s0.vs ∧ s.th = s0.th ∧ Below w.heap.size w wr)
  case atStart => exact ⟨0, F0, s0, rfl, Nat.zero_le _, Nat.zero_le _, rfl, h2, rfl, rfl, g2⟩
  case round =>
    obtain ⟨i, F, s, rfl, hi1, hi2, hmm, ht, hv, hth, hf⟩ := hrel
    have HN := hid hmm
    have HV := hid hv
    have HTH := hid hth
    clear hmm hv hth
    by_cases h1 : i < more.length ∧ (i : Int) < 30
    · obtain ⟨h1, h2'⟩ := h1
      obtain ⟨x, hx⟩ : ∃ x, more[i]? = some x := ⟨_, List.getElem?_eq_getElem h1⟩
      obtain ⟨b, off, rfl, hb, hc, hch, hlc⟩ := (hm.below hf) i x hx
      have k0 : wr.cell? ⟨b, off + i * 5, none⟩ = some (.int .i64 x.kind) := hc 0 _ rfl
      have k1 := hc 1 _ rfl
      have k2 := hc 2 _ rfl
      have k3 := hc 3 _ rfl
      have k4 : wr.cell? ⟨b, off + i * 5 + 4, none⟩ = some (.slice x.la x.l.length x.lc) := hc 4 _ rfl
      have HCH := hid hch
      have hBr : w.heap.size ≤ wr.heap.size := hf.size
      have ba : Below wr.heap.size wr (wr.alloc (.cells #[.int .i64 x.kind, .int .i64 x.work, .int .i64 x.key, .int .u64 x.val, .slice x.la x.l.length x.lc] 51)) := (Below.refl _ _).alloc (Nat.le_refl _) _
      have hta := ht.below ba
      have hfa := hf.trans (ba.mono hf.size)
      have HTA := hid hta
      clear hc hx hch hta
      by_cases q0 : x.kind < 0
      · go_wp2_with fail
        go_roundg (31 - (i + 1))
        case measure => rw [HN.out]; omega
        case rel => exact ⟨i + 1, F, s, by go_num, by omega, by omega, rfl, HTA.out, HV.out, HTH.out, hfa⟩
      · by_cases q3 : 3 < x.kind
        · go_wp2_with fail
          go_roundg (31 - (i + 1))
          case measure => rw [HN.out]; omega
          case rel => exact ⟨i + 1, F, s, by go_num, by omega, by omega, rfl, HTA.out, HV.out, HTH.out, hfa⟩
        · have hv6 := call_vals s { x with work := work } q0 q3
          have ba2 : Below wr.heap.size wr (wr.alloc (.cells #[.int .i64 x.kind, .int .i64 work, .int .i64 x.key, .int .u64 x.val, .slice x.la x.l.length x.lc] 51)) := (Below.refl _ _).alloc (Nat.le_refl _) _
          have htb := ht.below ba2
          have hfb := hf.trans (ba2.mono hf.size)
          have HC := hid (call_any htb.1 { x with work := work } ((HCH.out.below (ba2.mono hBr)).up (Nat.le_trans hBr ba2.size)) (fun q => by simp at q; omega) hlc)
          have HTB := hid htb
          have HV6 := hid hv6
          clear HTA hfa ba ba2 htb hv6 ht
          go_wp2_with fail
          refine HC.out.mono ?_
          rintro e w3 ⟨v3, F3, rfl, hk3, hg3, hf3, _, _⟩
          obtain ⟨ht3, hb3⟩ := HTB.out.one hk3 hg3 hf3
          have hff := hfb.trans hb3
          have HT3 := hid ht3
          clear hk3 hg3 hf3 hb3 ht3 HTB hfb HC
          go_wp2_with fail
          go_roundg (31 - (i + 1))
          case measure => rw [HN.out]; omega
          case rel => exact ⟨i + 1, F3, _, by go_num, by omega, by omega, rfl, HT3.out, HV6.out.1.trans HV.out, HV6.out.2.trans HTH.out, hff⟩
    · have HS1 := hid (same_any ht.1 ht.2.1 HV.out HTH.out)
      go_wp2_with fail
      all_goals
        refine HS1.out.mono ?_
        rintro e w3 ⟨rfl, m3, hw3⟩
        subst hw3
        have ht3 := ht.below (bdN wr m3)
        have hf3 := hf.trans ((bdN wr m3).mono hf.size)
        have HB := hid (backout_any ht3.1 work)
        have HT3 := hid ht3
        clear ht3 HS1
        generalize wr.drewN m3 = w3 at *
        go_wp2_with fail
        refine HB.out.mono ?_
        rintro e w4 ⟨rfl, ⟨F4, hk4, hg4⟩, hf4⟩
        obtain ⟨ht4, hb4⟩ := HT3.out.one hk4 hg4 hf4
        have hff := hf3.trans hb4
        have hvb := backout_vals s work
        have hbz : ¬ work < 1 → (s.backout work).2.busy work = false := backout_busy s
        generalize (s.backout work).2 = s4 at *
        have HVB := hid hvb
        have HBZ := hid hbz
        clear hk4 hg4 hf4 hb4 HB HT3 hvb hbz
        go_wp2_with fail
        refine (alive_any _).mono ?_
        rintro e w5 ⟨rfl, f5⟩
        have ht5 := ht4.below f5
        have hf5 := hff.trans (f5.mono hff.size)
        have HS2 := hid (same_any ht5.1 ht5.2.1 (HVB.out.1.trans HV.out) (HVB.out.2.trans HTH.out))
        go_wp2_with fail
        refine HS2.out.mono ?_
        rintro e w6 ⟨rfl, m6, hw6⟩
        subst hw6
        have hf6 := hf5.trans ((bdN w5 m6).mono hf5.size)
        by_cases hw : work < 1
        · go_wp2_with fail
          go_ret
          exact ⟨rfl, hf6⟩
        · have HBB := hid (busy_any (ht5.below (bdN w5 m6)).1 work)
          have hbf := HBZ.out (by omega)
          generalize s4.busy work = bb at *
          subst hbf
          clear ht5 HS2 ht4
          go_wp2_with fail
          refine HBB.out.mono ?_
          rintro e w7 ⟨rfl, rfl⟩
          go_wp2_with fail
          go_ret
          exact ⟨rfl, hf6⟩
end Go.Proofs.Ytekebjcknhjceaa
