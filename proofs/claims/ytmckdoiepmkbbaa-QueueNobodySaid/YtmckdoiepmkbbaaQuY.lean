/- A queue and a list beside it; two queues side by side, and a list beside both. No walk. -/
import Derived.Test.YtmckdoiepmkbbaaQuX
namespace Go.Proofs.Ytmckdoiepmkbbaa
open Go.RowKit Go.Mine Go.Proofs.YtmckdoiepmkbbaaW.PrintWords
set_option linter.unusedVariables false
set_option linter.unusedSimpArgs false
def StL (B : Nat) (w : World) (b : Nat) (s : QS) (A : Option Addr) (l : List Ch) : Prop := (∃ F, QAt F w b s ∧ (∀ i, F i → B ≤ i) ∧ (l ≠ [] → Beside F A)) ∧ ChAt w w.heap.size A l ∧ B ≤ w.heap.size
def TwoQ (B : Nat) (w : World) (b1 : Nat) (s1 : QS) (b2 : Nat) (s2 : QS) (A : Option Addr) (l : List Ch) : Prop :=
  (∃ F G, QAt F w b1 s1 ∧ QAt G w b2 s2 ∧ (∀ i, F i → B ≤ i ∧ ¬ G i) ∧ (∀ i, G i → B ≤ i) ∧ (l ≠ [] → Beside F A ∧ Beside G A)) ∧ ChAt w w.heap.size A l ∧ B ≤ w.heap.size
section
variable {B : Nat} {w w' : World} {b b1 b2 : Nat} {s s1 s2 s' : QS} {A : Option Addr} {l : List Ch}
theorem nilAt (w : World) (B : Nat) : ChAt w B none [] := fun i x hx => by simp at hx
theorem StL.of (h : St B w b s) : StL B w b s none [] := by
  obtain ⟨⟨F, h1, h2⟩, h3⟩ := h
  exact ⟨⟨F, h1, h2, fun q => absurd rfl q⟩, nilAt _ _, h3⟩
theorem StL.st (h : StL B w b s A l) : St B w b s := by
  obtain ⟨⟨F, h1, h2, _⟩, _, h3⟩ := h
  exact ⟨⟨F, h1, h2⟩, h3⟩
theorem StL.at_ (h : StL B w b s A l) : ChAt w w.heap.size A l := h.2.1
theorem StL.below (h : StL B w b s A l) (hb : Below w.heap.size w w') : StL B w' b s A l := by
  obtain ⟨⟨F, h1, h2, h4⟩, h5, h3⟩ := h
  exact ⟨⟨F, h1.below hb, h2, h4⟩, (h5.below hb).up hb.size, Nat.le_trans h3 hb.size⟩
theorem grow_beside {F F' : Nat → Prop} {w w' : World} {A : Option Addr} {l : List Ch} (hA : l ≠ [] → Beside F A) (hl : ChAt w w.heap.size A l) (hg : Grew F F' w) : l ≠ [] → Beside F' A := fun q b off e hF => by
  rcases hg b hF with r | r
  · exact hA q b off e r
  · have := hl.block q e
    omega
theorem StL.op {f : Nat} {args : Array Value} {P : Ending → Prop} (h : StL B w b s A l) (hc : ∀ F, QAt F w b s → (l ≠ [] → Beside F A) → Calls Try.prog f args w fun e w' => P e ∧ (∃ F', QAt F' w' b s' ∧ Grew F F' w) ∧ Fr F w w') :
    Calls Try.prog f args w fun e w' => P e ∧ StL B w' b s' A l ∧ Below B w w' := by
  obtain ⟨⟨F, h1, h2, h4⟩, h5, h3⟩ := h
  refine (hc F h1 h4).mono ?_
  rintro e w' ⟨he, ⟨F', hk, hg⟩, hf⟩
  have := St.of h3 h2 hk hg hf
  exact ⟨he, ⟨⟨F', hk, fun i hi => (hg i hi).elim (h2 i) (fun q => Nat.le_trans h3 q), grow_beside (w' := w') h4 h5 hg⟩, (h5.fr hf h4).up hf.size, this.1.2⟩, this.2⟩
theorem commit_stl (h : StL B w b s A l) (hb : s.Bd) (n : Int) : Calls Try.prog 16 #[.pointer (some ⟨b, 0, none⟩), .int .i64 n] w fun e w' => e = .returned (.int .i64 (s.commit n).1) ∧ StL B w' b (s.commit n).2 A l ∧ Below B w w' := h.op fun F h1 _ => commit_any h1 hb n
theorem prepare_stl (h : St B w b s) (hb : s.Bd) (n : Int) : Calls Try.prog 19 #[.pointer (some ⟨b, 0, none⟩), .int .i64 n] w fun e w' => ∃ A c, e = .returned (.tuple #[.slice A (s.prepare n).1.1.length c, .int .i64 (s.prepare n).1.2]) ∧ StL B w' b (s.prepare n).2 A (s.prepare n).1.1 ∧ (s.prepare n).1.1.length ≤ c ∧ Below B w w' := by
  obtain ⟨⟨F, h1, h2⟩, h3⟩ := h
  refine (prepare_any h1 hb n).mono ?_
  rintro e w' ⟨v, rfl, ⟨F', hk, hg, ho⟩, hr, hf⟩
  obtain ⟨A, c, rfl, hc, hat⟩ := hr.at_
  have := St.of h3 h2 hk hg hf
  exact ⟨A, c, rfl, ⟨⟨F', hk, fun i hi => (hg i hi).elim (h2 i) (fun q => Nat.le_trans h3 q), fun q b off e => (ho b (by rw [e]; rfl)).2⟩, hat, this.1.2⟩, hc, this.2⟩
theorem TwoQ.of {w2 : World} (h1 : St B w b1 s1) (hb : Below w.heap.size w w2) (h2 : St w.heap.size w2 b2 s2) : TwoQ B w2 b1 s1 b2 s2 none [] := by
  obtain ⟨⟨F, h1, h3⟩, h4⟩ := h1
  obtain ⟨⟨G, h5, h6⟩, h7⟩ := h2
  exact ⟨⟨F, G, h1.below hb, h5, fun i hi => ⟨h3 i hi, fun q => by have := h6 i q; have := h1.fb i hi; omega⟩, fun i hi => Nat.le_trans h4 (h6 i hi), fun q => absurd rfl q⟩, nilAt _ _, Nat.le_trans h4 h7⟩
theorem TwoQ.swap (h : TwoQ B w b1 s1 b2 s2 A l) : TwoQ B w b2 s2 b1 s1 A l := by
  obtain ⟨⟨F, G, h1, h2, h3, h4, h5⟩, h6, h7⟩ := h
  exact ⟨⟨G, F, h2, h1, fun i hi => ⟨h4 i hi, fun q => (h3 i q).2 hi⟩, fun i hi => (h3 i hi).1, fun q => (h5 q).symm⟩, h6, h7⟩
theorem TwoQ.fst (h : TwoQ B w b1 s1 b2 s2 A l) : St B w b1 s1 := by
  obtain ⟨⟨F, G, h1, h2, h3, h4, h5⟩, h6, h7⟩ := h
  exact ⟨⟨F, h1, fun i hi => (h3 i hi).1⟩, h7⟩
theorem TwoQ.snd (h : TwoQ B w b1 s1 b2 s2 A l) : St B w b2 s2 := h.swap.fst
theorem TwoQ.at_ (h : TwoQ B w b1 s1 b2 s2 A l) : ChAt w w.heap.size A l := h.2.1
theorem TwoQ.below (h : TwoQ B w b1 s1 b2 s2 A l) (hb : Below w.heap.size w w') : TwoQ B w' b1 s1 b2 s2 A l := by
  obtain ⟨⟨F, G, h1, h2, h3, h4, h5⟩, h6, h7⟩ := h
  exact ⟨⟨F, G, h1.below hb, h2.below hb, h3, h4, h5⟩, (h6.below hb).up hb.size, Nat.le_trans h7 hb.size⟩
theorem TwoQ.op {f : Nat} {args : Array Value} {P : Ending → Prop} (h : TwoQ B w b1 s1 b2 s2 A l) (hc : ∀ F, QAt F w b1 s1 → (∀ i, F i → B ≤ i) → (l ≠ [] → Beside F A) → Calls Try.prog f args w fun e w' => P e ∧ (∃ F', QAt F' w' b1 s' ∧ Grew F F' w) ∧ Fr F w w') :
    Calls Try.prog f args w fun e w' => P e ∧ TwoQ B w' b1 s' b2 s2 A l ∧ Below B w w' := by
  obtain ⟨⟨F, G, h1, h2, h3, h4, h5⟩, h6, h7⟩ := h
  refine (hc F h1 (fun i hi => (h3 i hi).1) (fun q => (h5 q).1)).mono ?_
  rintro e w' ⟨he, ⟨F', hk, hg⟩, hf⟩
  have := St.of h7 (fun i hi => (h3 i hi).1) hk hg hf
  refine ⟨he, ⟨⟨F', G, hk, h2.fr hf (fun i hi q => (h3 i q).2 hi), fun i hi => ?_, h4, fun q => ⟨grow_beside (w' := w') (fun q => (h5 q).1) h6 hg q, (h5 q).2⟩⟩, (h6.fr hf (fun q => (h5 q).1)).up hf.size, this.1.2⟩, this.2⟩
  rcases hg i hi with r | r
  · exact h3 i r
  · exact ⟨Nat.le_trans h7 r, fun q => by have := h2.fb i q; omega⟩
theorem TwoQ.op2 {f : Nat} {args : Array Value} {P : Ending → Prop} (h : TwoQ B w b1 s1 b2 s2 A l) (hc : ∀ F, QAt F w b2 s2 → (∀ i, F i → B ≤ i) → (l ≠ [] → Beside F A) → Calls Try.prog f args w fun e w' => P e ∧ (∃ F', QAt F' w' b2 s' ∧ Grew F F' w) ∧ Fr F w w') :
    Calls Try.prog f args w fun e w' => P e ∧ TwoQ B w' b1 s1 b2 s' A l ∧ Below B w w' := by
  refine (h.swap.op hc).mono ?_
  rintro e w' ⟨he, ht, hf⟩
  exact ⟨he, ht.swap, hf⟩
theorem TwoQ.prepare (h : TwoQ B w b1 s1 b2 s2 none []) (hb : s1.Bd) (n : Int) : Calls Try.prog 19 #[.pointer (some ⟨b1, 0, none⟩), .int .i64 n] w fun e w' => ∃ A c, e = .returned (.tuple #[.slice A (s1.prepare n).1.1.length c, .int .i64 (s1.prepare n).1.2]) ∧ TwoQ B w' b1 (s1.prepare n).2 b2 s2 A (s1.prepare n).1.1 ∧ (s1.prepare n).1.1.length ≤ c ∧ Below B w w' := by
  obtain ⟨⟨F, G, h1, h2, h3, h4, h5⟩, h6, h7⟩ := h
  refine (prepare_any h1 hb n).mono ?_
  rintro e w' ⟨v, rfl, ⟨F', hk, hg, ho⟩, hr, hf⟩
  obtain ⟨A, c, rfl, hc, hat⟩ := hr.at_
  have := St.of h7 (fun i hi => (h3 i hi).1) hk hg hf
  refine ⟨A, c, rfl, ⟨⟨F', G, hk, h2.fr hf (fun i hi q => (h3 i q).2 hi), fun i hi => ?_, h4, fun q => ⟨fun b off e => (ho b (by rw [e]; rfl)).2, fun b off e r => ?_⟩⟩, hat, this.1.2⟩, hc, this.2⟩
  · rcases hg i hi with r | r
    · exact h3 i r
    · exact ⟨Nat.le_trans h7 r, fun q => by have := h2.fb i q; omega⟩
  · have h8 := (ho b (by rw [e]; rfl)).1
    have h9 := h2.fb b r
    omega
end
end Go.Proofs.Ytmckdoiepmkbbaa
