/- Texts of this seat, put together: QuN, QuP, QuS. -/
import Derived.Test.YtdejbinmnoabeaaGreatBm8
import Derived.StillTail
import Derived.StillTactics
import Derived.Scope
import Derived.WalkMore
import Derived.ScopeJumps
namespace Go.Proofs.YtdejbinmnoabeaaGreat.Q
open Go.RowKit Go.Mine Go.Shelf Go.Proofs.YtdejbinmnoabeaaGreatW.PrintWords
set_option linter.unusedVariables false
set_option linter.unusedSimpArgs false
section
variable {P : Program} {ops : Array Oper} {Q : Exit → Act → World → Prop} {md : Region.Mode} {l n : Nat}
theorem oper_round {o : Oper} {a : Act} {w : World} {K : Act → World → Prop} (hd : ∀ c, o.op ≠ .defer c) (h : o.wp P a w K Q) : o.wpIn (Fence.wide.inRound l) n P a w K Q := by
  unfold Oper.wp at h
  refine ⟨fun _ _ => trivial, ?_⟩
  rw [Oper.semAt_eq _ _ _ hd]
  generalize (execOp a.eval o).run P w = r at *
  cases r with
  | ok x w' =>
    cases x with
    | value v => exact h
    | skip => exact h
    | defer d => exact h
    | enter f args => exact ⟨fun q => (by cases q), CallsIn.inRound l (callsIn_wide.2 h)⟩
    | row row args =>
      refine ⟨fun q => (by cases q), fun c cs _ => ?_⟩
      obtain ⟨v, w'', r, s⟩ := h c cs
      exact ⟨v, w'', r, stepsIn_wide.2 s⟩
    | _ => exact h.elim
  | halt x w' =>
    cases x with
    | panic v => exact h
    | _ => exact h.elim
theorem op_round {i : Nat} {K : Act → World → Prop} {a : Act} {w : World} (hd : ∀ (j : Nat) (o : Oper) c, ops[j]? = some o → o.op ≠ .defer c) (hQ : ¬ LetsOut Q) (h : wpOp P ops Q i K a w) : wpOpIn (Fence.wide.inRound l) n P ops Q i K a w := by
  unfold wpOp at h
  unfold wpOpIn
  cases ho : ops[i]? with
  | none => rw [ho] at h; exact h
  | some o =>
    rw [ho] at h
    simp only at h ⊢
    split at h
    · rename_i hw
      rw [if_pos hw]
      rcases h with h | ⟨_, h⟩
      · exact oper_round (fun c => hd i o c ho) h
      · exact absurd h hQ
    · rename_i hw
      rw [if_neg hw]
      exact ⟨fun _ _ => trivial, h⟩
theorem any_round (hd : ∀ (j : Nat) (o : Oper) c, ops[j]? = some o → o.op ≠ .defer c) (hQ : ¬ LetsOut Q) : ∀ (g : Nat) (listed : Array Bool) (a : Act) (w : World), wpAny P md ops Q g listed a w → wpAnyIn (Fence.wide.inRound l) n P md ops Q g listed a w
  | 0, _, _, _, h => h
  | g + 1, listed, a, w, h => ⟨h.1, fun i hi => op_round hd hQ (wpOp_mono (fun a' w' h' => any_round hd hQ g _ a' w' h') (h.2 i hi))⟩
end
def noDefer (ls : List Oper) : Bool := ls.all (fun o => match o.op with | .defer _ => false | _ => true)
theorem noDefer_spec {ls : List Oper} (h : noDefer ls = true) (j : Nat) (o : Oper) (c : Call) (ho : ls.toArray[j]? = some o) : o.op ≠ .defer c := by
  intro e
  have hm : o ∈ ls := List.mem_of_getElem? (by simpa using ho)
  have := List.all_eq_true.1 h o hm
  rw [e] at this
  cases this
theorem round_still_tail {P : Program} {id m : Nat} {Q : Exit → Act → World → Prop} {a : Act} {w : World} {ls : List Oper} {l : Nat} (n : Nat) (hm : P.follows .mixedOrders = true) (hB : Region.lexTailB .any ls.toArray n = true)
    (hd : noDefer ls = true) (hQ : ¬ LetsOut Q)
    (h : wpStill P ls.toArray { w with drawn := w.drawn + 1 } (fun a' => wpList P ls.toArray Q (ls.drop n) a' { w with drawn := w.drawn + 1 }) (ls.take n) a) : (Code.region id ls.toArray true).wpIn (Fence.wide.inRound l) m P Q a w := by
  simp only [Region.lexTailB, Bool.and_eq_true, decide_eq_true_eq] at hB
  obtain ⟨⟨⟨⟨hsel, hn⟩, hs⟩, hc⟩, hlex⟩ := hB
  have hn' : n < ls.length := by simpa using hn
  have htl : (ls.take n).length = n := by simp; omega
  have hdl : (ls.drop n).length = ls.toArray.size - n := by simp
  have inv0 : HeadInv .any ls.toArray n (Array.replicate ls.toArray.size false) :=
    ⟨by simp, fun j oj _ hl => (by rw [getD_replicate_false] at hl; cases hl), fun t _ ht => getD_in (by simpa using ht) (getD_replicate_false _ _)⟩
  have H := wpAnyL_lex (md := .any) (g := ls.toArray.size - n) hsel hs hc hn (ls.take n) 0 _ a (fun j hj => by
    have hj' : j < n := by rw [htl] at hj; exact hj
    simp [hj']) (by simpa using htl) inv0 (by rw [htl]; exact hlex) h
  refine wpIn_region_any hm (any_round (noDefer_spec hd) hQ _ _ _ _ ?_)
  have := wpAny_of_head (Q' := Q) (g := ls.toArray.size - n) (fun listed a' hL => by
    have := wpAny_of_seq (md := .any) (Q' := Q) (ls.drop n) n listed a' { w with drawn := w.drawn + 1 } (fun j => by simp [List.getElem?_drop]) (by rw [hdl]; exact hL.1) hL.2
    rwa [hdl] at this) _ _ _ H
  rw [htl, show n + (ls.toArray.size - n) = ls.toArray.size by omega] at this
  exact this
end Go.Proofs.YtdejbinmnoabeaaGreat.Q
namespace Go.Mine
def QS.take (s : QS) (n : Int) : (Int × Int) × QS :=
  if s.fit n ≠ 0 then ((0, s.fit n), s)
  else match s.its.findIdx? (fun x => x.by_ != n) with
    | none => ((0, 140), s)
    | some i =>
      if (s.its.getD i ⟨0, 0, 0⟩).by_ ≠ 0 then ((0, 120), s)
      else (((s.its.getD i ⟨0, 0, 0⟩).val, 0), ⟨s.its.set i ⟨(s.its.getD i ⟨0, 0, 0⟩).num, (s.its.getD i ⟨0, 0, 0⟩).val, n⟩, noteW n ⟨4, (s.its.getD i ⟨0, 0, 0⟩).num, (s.its.getD i ⟨0, 0, 0⟩).val⟩ s.ws, s.gv⟩)
end Go.Mine
namespace Go.Proofs.YtdejbinmnoabeaaGreat.Q
variable {Zz : QZ}
open Go.RowKit Go.Mine Go.Shelf Go.Proofs.YtdejbinmnoabeaaGreatW.PrintWords
attribute [local go_sem] Oper.semAt_some
set_option linter.unusedVariables false
set_option linter.unusedSimpArgs false
def TakePost (Zz : QZ) (F : Nat → Prop) (w : World) (b : Nat) (R : (Int × Int) × QS) (e : Ending) (w' : World) : Prop :=
  e = .returned (.tuple #[.int .u64 R.1.1, .int .i64 R.1.2]) ∧ (∃ F', QAt Zz F' w' b R.2 ∧ Grew F F' w) ∧ Fr F w w'
theorem QR.sub {α : Type} {E : Enc α} {T : QT} {F F' : Nat → Prop} {w : World} {b : Nat} {L : List α} {I : List WI} {g : Int} {iv qv : Value} (h : QR Zz E T F w b L I g iv qv) (hF : ∀ i, F i → F' i) (hb : ∀ i, F' i → i < w.heap.size) : QR Zz E T F' w b L I g iv qv :=
  ⟨hb, hF _ h.bF, h.blk, h.it, h.wp, fun k hk => hF _ (h.iF k hk), fun k hk => hF _ (h.qF k hk), fun x hx => ⟨hF _ (h.wk x hx).1, (h.wk x hx).2.1, (h.wk x hx).2.2.1, fun k hk => hF _ ((h.wk x hx).2.2.2 k hk)⟩, h.apart⟩
theorem Fr.put {S : Nat → Prop} {w W : World} (h : Fr S w W) {l : Nat} (hl : w.heap.size ≤ l) (o : Obj) : Fr S w (W.putObj l o) :=
  ⟨h.os, h.tape, h.output, by simpa using h.size, fun k hk hn => (World.putObj_heap_other (by omega)).trans (h.block k hk hn)⟩
theorem QAt.put {F : Nat → Prop} {W : World} {b : Nat} {s : QS} (h : QAt Zz F W b s) {l : Nat} (hl : ¬ F l) (o : Obj) : QAt Zz F (W.putObj l o) b s :=
  h.fr (S := fun k => k = l) ⟨rfl, rfl, rfl, by simp, fun k hk hn => World.putObj_heap_other hn⟩ (fun i hi q => hl (q ▸ hi))
theorem Boxed.put {W : World} {B t : Nat} {v : Value} (h : Boxed W B t v) {l : Nat} (hl : B ≠ l) (o : Obj) : Boxed (W.putObj l o) B t v := (World.putObj_heap_other hl).trans h
theorem Boxed.below {W W' : World} {B t : Nat} {v : Value} (h : Boxed W B t v) (hb : Below W.heap.size W W') : Boxed W' B t v := (hb.block _ h.lt).trans h
set_option maxRecDepth 100000 in
set_option maxHeartbeats 8000000 in
theorem take_any {F : Nat → Prop} {w : World} {b : Nat} {s : QS} (h : QAt Zz F w b s) (hb : s.Bd) (n : Int) :
    Calls Tryz.prog 59 #[.pointer (some ⟨b, 34, none⟩), .int .i64 n] w (TakePost Zz F w b (s.take n)) := by
  have hitl := hb.its
  have H := hid h
  have HB := hid hb
  have hfa := (Fr.refl F w).alloc (.cells #[.pointer (some ⟨b, 34, none⟩)] 118) |>.alloc (.cells #[.int .i64 n] 3)
  have hq0 : QAt Zz F ((w.alloc (.cells #[.pointer (some ⟨b, 34, none⟩)] 118)).alloc (.cells #[.int .i64 n] 3)) b s := (h.below ((Below.refl _ _).alloc (Nat.le_refl _) _)).below ((Below.refl _ _).alloc (Nat.le_refl _) _)
  have HFIT := hid (fit_any hq0 (by have := hb.ws; omega) n)
  have HQ0 := hid hq0
  have HFA := hid hfa
  have kk0 : Boxed ((w.alloc (.cells #[.pointer (some ⟨b, 34, none⟩)] 118)).alloc (.cells #[.int .i64 n] 3)) w.heap.size 118 (.pointer (some ⟨b, 34, none⟩)) := (Boxed.new w 118 _).alloc _
  have kk1 : Boxed ((w.alloc (.cells #[.pointer (some ⟨b, 34, none⟩)] 118)).alloc (.cells #[.int .i64 n] 3)) (w.heap.size + 1) 3 (.int .i64 n) := by
    have := Boxed.new (w.alloc (.cells #[.pointer (some ⟨b, 34, none⟩)] 118)) 3 (.int .i64 n)
    rwa [World.size_alloc] at this
  have c0 := kk0.cell
  have c1 := kk1.cell
  have hsz : ((w.alloc (.cells #[.pointer (some ⟨b, 34, none⟩)] 118)).alloc (.cells #[.int .i64 n] 3)).heap.size = w.heap.size + 2 := by simp
  clear h hb hfa hq0
  refine (callsIn_wide (n := 5)).1 ?_
  refine callsIn_of_wp_marks Tryz.func59 rfl trivial ?_ rfl
  simp only [Tryz.ntmps59, List.size_toArray, List.length_cons, List.length_nil, Nat.reduceAdd, Nat.reduceSub, Array.replicate_succ, Array.replicate_zero, List.push_toArray, List.append_toArray, List.nil_append, List.cons_append]
  refine wpIn_wide.2 ?_
  go_wp2_with fail
  refine wp_scope_straight ?_
  go_wp2_with fail
  refine HFIT.out.mono ?_
  rintro e w1 ⟨rfl, rfl⟩
  by_cases hf : s.fit n = 0
  · rw [hf]
    have B0 : Boxed ((((w.alloc (.cells #[.pointer (some ⟨b, 34, none⟩)] 118)).alloc (.cells #[.int .i64 n] 3)).alloc (.cells #[.int .u64 0] 39)).alloc (.cells #[.int .i64 140] 45)) w.heap.size 118 (.pointer (some ⟨b, 34, none⟩)) := (kk0.alloc _).alloc _
    have B1 : Boxed ((((w.alloc (.cells #[.pointer (some ⟨b, 34, none⟩)] 118)).alloc (.cells #[.int .i64 n] 3)).alloc (.cells #[.int .u64 0] 39)).alloc (.cells #[.int .i64 140] 45)) (w.heap.size + 1) 3 (.int .i64 n) := (kk1.alloc _).alloc _
    have B2 : Boxed ((((w.alloc (.cells #[.pointer (some ⟨b, 34, none⟩)] 118)).alloc (.cells #[.int .i64 n] 3)).alloc (.cells #[.int .u64 0] 39)).alloc (.cells #[.int .i64 140] 45)) (w.heap.size + 1 + 1) 39 (.int .u64 0) := by
      have := Boxed.new ((w.alloc (.cells #[.pointer (some ⟨b, 34, none⟩)] 118)).alloc (.cells #[.int .i64 n] 3)) 39 (.int .u64 0)
      rw [hsz] at this
      exact this.alloc _
    have B3 : Boxed ((((w.alloc (.cells #[.pointer (some ⟨b, 34, none⟩)] 118)).alloc (.cells #[.int .i64 n] 3)).alloc (.cells #[.int .u64 0] 39)).alloc (.cells #[.int .i64 140] 45)) (w.heap.size + 3) 45 (.int .i64 140) := by
      have := Boxed.new (((w.alloc (.cells #[.pointer (some ⟨b, 34, none⟩)] 118)).alloc (.cells #[.int .i64 n] 3)).alloc (.cells #[.int .u64 0] 39)) 45 (.int .i64 140)
      rw [World.size_alloc, hsz] at this
      exact this
    have hq4 : QAt Zz F ((((w.alloc (.cells #[.pointer (some ⟨b, 34, none⟩)] 118)).alloc (.cells #[.int .i64 n] 3)).alloc (.cells #[.int .u64 0] 39)).alloc (.cells #[.int .i64 140] 45)) b s := (HQ0.out.below ((Below.refl _ _).alloc (Nat.le_refl _) _)).below ((Below.refl _ _).alloc (Nat.le_refl _) _)
    have hf4 : Fr F w ((((w.alloc (.cells #[.pointer (some ⟨b, 34, none⟩)] 118)).alloc (.cells #[.int .i64 n] 3)).alloc (.cells #[.int .u64 0] 39)).alloc (.cells #[.int .i64 140] 45)) := (HFA.out.alloc _).alloc _
    have hz4 : ((((w.alloc (.cells #[.pointer (some ⟨b, 34, none⟩)] 118)).alloc (.cells #[.int .i64 n] 3)).alloc (.cells #[.int .u64 0] 39)).alloc (.cells #[.int .i64 140] 45)).heap.size = w.heap.size + 4 := by simp
    have HQ4 := hid hq4
    have HF4 := hid hf4
    clear c0 c1 kk0 kk1 hq4 hf4 HQ0 HFA HFIT hsz
    go_wp2_with fail
    refine (wpIn_wide (n := 5)).1 (wpIn_label ?_)
    rw [show w.heap.size + 2 + 1 = w.heap.size + 3 from rfl, show w.heap.size + 2 = w.heap.size + 1 + 1 from rfl]
    generalize ((((w.alloc (.cells #[.pointer (some ⟨b, 34, none⟩)] 118)).alloc (.cells #[.int .i64 n] 3)).alloc (.cells #[.int .u64 0] 39)).alloc (.cells #[.int .i64 140] 45)) = w4 at *
    obtain ⟨z, hze⟩ : ∃ z, z = w.heap.size := ⟨_, rfl⟩
    have HZE := hid hze
    rw [← hze] at B0 B1 B2 B3 hz4 ⊢
    have c0 := B0.cell
    have c1 := B1.cell
    clear hze
    go_wp2_with fail
    refine (others_any b n w4).mono ?_
    rintro e w6 ⟨rfl, hw6⟩
    have HW6 := hid hw6
    clear hw6
    go_wp2_with fail
    have hw6 := HW6.out
    clear HW6
    have hb6 : Below w4.heap.size w4 w6 := by rw [hw6]; exact ((Below.refl _ _).alloc (Nat.le_refl _) _).alloc (by simp) _
    have C4 : Boxed w6 (z + 4) 118 (.pointer (some ⟨b, 34, none⟩)) := by
      rw [hw6]
      have := Boxed.new w4 118 (.pointer (some ⟨b, 34, none⟩))
      rw [hz4] at this
      exact this.alloc _
    have C5 : Boxed w6 (z + 4 + 1) 3 (.int .i64 n) := by
      rw [hw6]
      have := Boxed.new (w4.alloc (.cells #[.pointer (some ⟨b, 34, none⟩)] 118)) 3 (.int .i64 n)
      rw [World.size_alloc, hz4] at this
      exact this
    have hsz6 : w6.heap.size = z + 6 := by rw [hw6]; simp [hz4]
    have C0 := Boxed.below B0 hb6
    have C1 := Boxed.below B1 hb6
    have C2 := Boxed.below B2 hb6
    have C3 := Boxed.below B3 hb6
    have HQ6 := hid (HQ4.out.below hb6)
    have HF6 := hid (HF4.out.trans (Fr.of_below hb6 (Nat.le_refl _)) (fun _ q => q.elim))
    have HSZ6 := hid hsz6
    clear hw6 hb6 B0 B1 B2 B3 hz4 HQ4 HF4 c0 c1 hsz6
    have HC0 := hid C0
    have HC1 := hid C1
    have HC2 := hid C2
    have HC3 := hid C3
    have HC4 := hid C4
    have HC5 := hid C5
    clear C0 C1 C2 C3 C4 C5
    have HLT : Hid (∀ k, F k → k < z) := hid (fun k hk => by have := H.out.fb k hk; have := HZE.out; omega)
    obtain ⟨I, iv, qv, hQR, hws⟩ := HQ6.out
    obtain ⟨A, c, rfl, hAc, hat⟩ := hQR.it.at_
    have kb : w6.cell? ⟨b, 34, none⟩ = some (.slice A s.its.length c) := by rw [cell_of_row w6 b 34 _ _ _ hQR.blk]; exact qget0 _ _ _ _
    refine (wpIn_wide (n := 5)).1 ?_
    cases hfi : s.its.findIdx? (fun x => x.by_ != n) with
    | none =>
      have HE := hid (show s.take n = ((0, 140), s) from by unfold QS.take; rw [if_neg (by simp [hf]), hfi])
      have hall : ∀ y ∈ s.its, (y.by_ == n) = true := by
        rw [List.findIdx?_eq_none_iff] at hfi
        intro y hy
        simpa using hfi y hy
      refine range_none rfl (by omega) (gf := 111) (lb := #[.pointer (some ⟨z + 4, 0, none⟩), .pointer (some ⟨z + 4 + 1, 0, none⟩)]) rfl trivial (enters_of Tryz.func111 (by kernel_rfl) rfl) ?_ ?_
      · intro l W hbW
        exact seq_none n (z + 4) (z + 4 + 1) b l 4 (by omega) W A s.its c ((Boxed.below HC4.out hbW).cell) ((Boxed.below HC5.out hbW).cell) ((hbW.cell (World.block_lt_of_cell? _ _ kb)).trans kb) ((hat.below hbW).up hbW.size) (by omega) hall
      · intro W hbW hD
        have D2 := (Boxed.below HC2.out hbW).cell
        have D3 := (Boxed.below HC3.out hbW).cell
        have HQW := hid (HQ6.out.below hbW)
        have HFW := hid (HF6.out.trans (Fr.of_below hbW (Nat.le_refl _)) (fun _ q => q.elim))
        have HD := hid hD
        clear hD hbW kb hat hQR hall hfi
        go_wp2_with fail
        go_quiet (fail)
        go_wp2_with fail
        refine ⟨by simp, .inl ⟨_, _, rfl, run_takeDeferred (show (W.drewN _).heap[w6.heap.size]? = some (.deferred (some [])) from HD.out), ?_⟩⟩
        refine ⟨_, results_tmp2 rfl _ _ _, ?_⟩
        unfold TakePost
        rw [HE.out]
        exact ⟨rfl, ⟨F, (HQW.out.below (bdN W _)).put (fun q => by have := HLT.out _ q; have := HSZ6.out; omega) _, Grew.refl _ _⟩, Fr.put (HFW.out.drewN _) (by have := HSZ6.out; have := HZE.out; omega) _⟩
    | some i =>
      rw [List.findIdx?_eq_some_iff_getElem] at hfi
      obtain ⟨hil, hxi, hpre0⟩ := hfi
      obtain ⟨x, hx⟩ : ∃ x, s.its[i]? = some x := ⟨_, List.getElem?_eq_getElem hil⟩
      have hxe : s.its[i] = x := (List.getElem?_eq_some_iff.1 hx).2
      rw [hxe] at hxi
      have hxn : (x.by_ == n) = false := by simpa using hxi
      have hpre : ∀ j y, j < i → s.its[j]? = some y → (y.by_ == n) = true := fun j y hj hy => by
        have := hpre0 j hj
        rw [List.getElem?_eq_getElem (by omega)] at hy
        cases hy
        simpa using this
      have hgd : s.its.getD i ⟨0, 0, 0⟩ = x := by rw [List.getD_eq_getElem?_getD, hx]; rfl
      have hfi : s.its.findIdx? (fun x => x.by_ != n) = some i := by
        rw [List.findIdx?_eq_some_iff_getElem]
        exact ⟨hil, by rw [hxe]; exact hxi, hpre0⟩
      obtain ⟨g, rfl⟩ := hQR.it.form (by omega)
      have hseq : ∀ (l : Nat) (W : World) (R : World → Prop), Below w6.heap.size w6 W → (∀ W1, Below W.heap.size W W1 → YieldAt Fence.wide (5 - 1 - 1) Tryz.prog l #[.pointer (some ⟨g, i * 3, none⟩)] W1 fun e W' => e = .returned (.bool false) ∧ R W') →
          CallsIn Fence.wide (5 - 1) Tryz.prog 111 (#[.func (.yield l) #[] #[]] ++ #[.pointer (some ⟨z + 4, 0, none⟩), .pointer (some ⟨z + 4 + 1, 0, none⟩)]) W fun e W'' => (∃ v, e = .returned v) ∧ ∃ W', R W' ∧ Below W'.heap.size W' W'' := fun l W R hbW hY =>
        seq_first n (z + 4) (z + 4 + 1) b l 4 (by omega) W g s.its c ((Boxed.below HC4.out hbW).cell) ((Boxed.below HC5.out hbW).cell) ((hbW.cell (World.block_lt_of_cell? _ _ kb)).trans kb) ((hat.below hbW).up hbW.size) (by omega) i x hx hxn hpre R hY
      have HSEQ := hid hseq
      have HX := hid hx
      have HQR := hid hQR
      have HWS := hid hws
      clear hseq hat kb hpre hpre0 hQR hws
      by_cases hby : x.by_ = 0
      · have HE := hid (show s.take n = ((x.val, 0), ⟨s.its.set i ⟨x.num, x.val, n⟩, noteW n ⟨4, x.num, x.val⟩ s.ws, s.gv⟩) from by unfold QS.take; rw [if_neg (by simp [hf]), hfi]; simp only [hgd]; rw [if_neg (by simp [hby])])
        clear hfi hgd
        refine range_first rfl (by omega) (gf := 111) (lb := #[.pointer (some ⟨z + 4, 0, none⟩), .pointer (some ⟨z + 4 + 1, 0, none⟩)]) rfl trivial (enters_of Tryz.func111 (by kernel_rfl) rfl) (enc := #[.pointer (some ⟨g, i * 3, none⟩)]) rfl 0 HSEQ.out
          (fun W => (∃ F', QAt Zz F' W b ⟨s.its.set i ⟨x.num, x.val, n⟩, noteW n ⟨4, x.num, x.val⟩ s.ws, s.gv⟩ ∧ ∀ j, F' j → F j ∨ w6.heap.size + 2 ≤ j) ∧ Boxed W (z + 1 + 1) 39 (.int .u64 x.val) ∧ Boxed W (z + 3) 45 (.int .i64 0) ∧ Fr F w W ∧ w6.heap.size ≤ W.heap.size) ?ib ?ic
          ({ tmps := #[.pointer (some ⟨b, 34, none⟩), .int .i64 n, .pointer (some ⟨z, 0, none⟩), .pointer (some ⟨z + 1, 0, none⟩), .int .u64 0, .int .i64 0, .int .i64 0, .pointer (some ⟨z + 1 + 1, 0, none⟩), .pointer (some ⟨z + 3, 0, none⟩), .pointer (some ⟨g, i * 3, none⟩), .pointer (some ⟨b, 34, none⟩), .int .i64 n, .int .i64 0, .int .i64 0, .bool false, undef, .pointer (some ⟨b, 34, none⟩), .int .i64 n, .func (.func 111) #[] #[.pointer (some ⟨z + 4, 0, none⟩), .pointer (some ⟨z + 4 + 1, 0, none⟩)], .pointer (some ⟨g, i * 3, none⟩), undef, undef, undef, undef, undef, undef, undef, undef, undef, undef, undef, undef, undef, undef, undef, undef, undef, undef, undef, undef, undef, undef, undef, undef, undef, undef, undef], defers := [] }) ?assign ?body ?stop
        case ib =>
          rintro W o o' ho hno ⟨⟨F', h1, h1'⟩, h2, h3, h4, h5⟩
          have e1 := HSZ6.out
          exact ⟨⟨F', h1.put (fun q => (h1' _ q).elim (fun q => by have := HLT.out _ q; omega) (fun q => by omega)) _, h1'⟩, Boxed.put h2 (by omega) _, Boxed.put h3 (by omega) _, Fr.put h4 (by have := HZE.out; omega) _, by simpa using h5⟩
        case ic =>
          rintro W W' hb ⟨⟨F', h1, h1'⟩, h2, h3, h4, h5⟩
          exact ⟨⟨F', h1.below hb, h1'⟩, Boxed.below h2 hb, Boxed.below h3 hb, h4.trans (Fr.of_below hb (Nat.le_refl _)) (fun _ q => q.elim), Nat.le_trans h5 hb.size⟩
        case assign =>
          intro q W K hK
          gi_wp2
          exact hK
        case body =>
          intro l W hbW hsW
          have e1 := HSZ6.out
          have hQW := HQR.out.below hbW
          have hQD := hQW.below (bd1 W)
          obtain ⟨co, hcl, hcM, hcc, hcz⟩ := Kd.R_elem hQD.it x (i : Int) (by omega) (by omega)
          have hco : co = encIt x := by
            have : co = encIt (s.its.getD (i : Int).toNat x) := hcM
            rw [this]
            simp [List.getD_eq_getElem?_getD, HX.out]
          subst hco
          have k0 : W.cell? ⟨g, i * 3, none⟩ = some (.int .i64 x.num) := hcc 0 _ rfl
          have k1 : W.cell? ⟨g, i * 3 + 1, none⟩ = some (.int .u64 x.val) := hcc 1 _ rfl
          have k2 : W.cell? ⟨g, i * 3 + 2, none⟩ = some (.int .i64 x.by_) := hcc 2 _ rfl
          have f2 : W.frozen? ⟨g, i * 3 + 2, none⟩ = false := hcz 2
          rw [hby] at k2
          have hgz : g < z := HLT.out g (HQR.out.iF g rfl)
          have hgb : g ≠ b := fun q => HQR.out.iv_ne.1 (by rw [← q]; rfl)
          have D0 := Boxed.below HC0.out hbW
          have D1 := Boxed.below HC1.out hbW
          have D2 := Boxed.below HC2.out hbW
          have D3 := Boxed.below HC3.out hbW
          have hseg := Kd.R_seg hQD.it (i : Int) (by omega) (by omega) (j := 2) (seg := [.int .i64 n]) (x' := ⟨x.num, x.val, n⟩) hcl hcc (by simp [eIt, Enc.kd]) (okp := fun _ => False) rfl (fun _ q => q.elim)
          have hw : W.drew.setCells g (Int.toNat (i : Int) * eIt.kd.sz + 2) [.int .i64 n] = (W.drew.setCell ⟨g, i * 3 + 2, none⟩ (.int .i64 n)) := rfl
          rw [hw] at hseg
          have hfa : Fr (fun k => k = g) W.drew (W.drew.setCell ⟨g, i * 3 + 2, none⟩ (.int .i64 n)) := (Fr.of_grown hseg.2).mono (fun k hk => by cases hk; rfl)
          have hQA := hQD.turn (hfa.mono (fun k hk => .inr (.inl (by rw [hk]; rfl)))) (hfa.at_ hQD.blk (fun q => hgb q.symm)) (L' := s.its.set i ⟨x.num, x.val, n⟩) hseg.1 (hQD.wp.move (fun k hk => hfa.block k (hQD.wp.lt hk) (fun q => hQD.iv_ne.2.2 g rfl (by rw [hk, q])))) (List.Sublist.refl _) (fun j hj => .inl hj) (fun j hj => .inl hj)
          have hfb : Fr (fun k => k = z + 1 + 1 ∨ k = z + 3) (W.drew.setCell ⟨g, i * 3 + 2, none⟩ (.int .i64 n)) (((W.drew.setCell ⟨g, i * 3 + 2, none⟩ (.int .i64 n)).setCell ⟨z + 1 + 1, 0, none⟩ (.int .u64 x.val)).setCell ⟨z + 3, 0, none⟩ (.int .i64 0)) := (Fr.setCell (S := fun k => k = z + 1 + 1 ∨ k = z + 3) (p := ⟨z + 1 + 1, 0, none⟩) (Fr.refl _ _) (.inl (.inl rfl)) _).setCell (p := ⟨z + 3, 0, none⟩) (.inl (.inr rfl)) _
          have hmz : ∀ j, more F W.drew (W.drew.setCell ⟨g, i * 3 + 2, none⟩ (.int .i64 n)) j → F j := fun j q => q.elim id (fun q => by
            have : (W.drew.setCell ⟨g, i * 3 + 2, none⟩ (.int .i64 n)).heap.size = W.drew.heap.size := by simp [World.setCell]
            omega)
          have hQ9 := hQA.fr hfb (fun j hj q => by have := HLT.out j (hmz j hj); omega)
          have hs9 : (((W.drew.setCell ⟨g, i * 3 + 2, none⟩ (.int .i64 n)).setCell ⟨z + 1 + 1, 0, none⟩ (.int .u64 x.val)).setCell ⟨z + 3, 0, none⟩ (.int .i64 0)).heap.size = W.heap.size := by simp [World.setCell]
          have hk9 : ∀ k, w6.heap.size ≤ k → (((W.drew.setCell ⟨g, i * 3 + 2, none⟩ (.int .i64 n)).setCell ⟨z + 1 + 1, 0, none⟩ (.int .u64 x.val)).setCell ⟨z + 3, 0, none⟩ (.int .i64 0)).heap[k]? = W.heap[k]? := fun k hk => by
            rw [Below.heap_setCell _ _ _ _ (show k ≠ z + 3 by omega), Below.heap_setCell _ _ _ _ (show k ≠ z + 1 + 1 by omega), Below.heap_setCell _ _ _ _ (show k ≠ g by omega)]
            rfl
          have hfw9 : Fr F w (((W.drew.setCell ⟨g, i * 3 + 2, none⟩ (.int .i64 n)).setCell ⟨z + 1 + 1, 0, none⟩ (.int .u64 x.val)).setCell ⟨z + 3, 0, none⟩ (.int .i64 0)) := (((HF6.out.trans (Fr.of_below hbW (Nat.le_refl _)) (fun _ q => q.elim)).drew).trans hfa (fun j hj => .inl (by rw [hj]; exact HQR.out.iF g rfl))).trans hfb (fun j hj => .inr (by have := HZE.out; omega))
          have E0 : Boxed (((W.drew.setCell ⟨g, i * 3 + 2, none⟩ (.int .i64 n)).setCell ⟨z + 1 + 1, 0, none⟩ (.int .u64 x.val)).setCell ⟨z + 3, 0, none⟩ (.int .i64 0)) z 118 (.pointer (some ⟨b, 34, none⟩)) := by
            show (((W.drew.setCell ⟨g, i * 3 + 2, none⟩ (.int .i64 n)).setCell ⟨z + 1 + 1, 0, none⟩ (.int .u64 x.val)).setCell ⟨z + 3, 0, none⟩ (.int .i64 0)).heap[z]? = _
            rw [Below.heap_setCell _ _ _ _ (show z ≠ z + 3 by omega), Below.heap_setCell _ _ _ _ (show z ≠ z + 1 + 1 by omega), Below.heap_setCell _ _ _ _ (show z ≠ g by omega)]
            exact D0
          have E1 : Boxed (((W.drew.setCell ⟨g, i * 3 + 2, none⟩ (.int .i64 n)).setCell ⟨z + 1 + 1, 0, none⟩ (.int .u64 x.val)).setCell ⟨z + 3, 0, none⟩ (.int .i64 0)) (z + 1) 3 (.int .i64 n) := by
            show (((W.drew.setCell ⟨g, i * 3 + 2, none⟩ (.int .i64 n)).setCell ⟨z + 1 + 1, 0, none⟩ (.int .u64 x.val)).setCell ⟨z + 3, 0, none⟩ (.int .i64 0)).heap[z + 1]? = _
            rw [Below.heap_setCell _ _ _ _ (show z + 1 ≠ z + 3 by omega), Below.heap_setCell _ _ _ _ (show z + 1 ≠ z + 1 + 1 by omega), Below.heap_setCell _ _ _ _ (show z + 1 ≠ g by omega)]
            exact D1
          have E2 : Boxed (((W.drew.setCell ⟨g, i * 3 + 2, none⟩ (.int .i64 n)).setCell ⟨z + 1 + 1, 0, none⟩ (.int .u64 x.val)).setCell ⟨z + 3, 0, none⟩ (.int .i64 0)) (z + 1 + 1) 39 (.int .u64 x.val) := by
            show (((W.drew.setCell ⟨g, i * 3 + 2, none⟩ (.int .i64 n)).setCell ⟨z + 1 + 1, 0, none⟩ (.int .u64 x.val)).setCell ⟨z + 3, 0, none⟩ (.int .i64 0)).heap[z + 1 + 1]? = _
            rw [Below.heap_setCell _ _ _ _ (show z + 1 + 1 ≠ z + 3 by omega)]
            refine Boxed.set (v := .int .u64 0) _ ?_
            show (W.drew.setCell ⟨g, i * 3 + 2, none⟩ (.int .i64 n)).heap[z + 1 + 1]? = _
            rw [Below.heap_setCell _ _ _ _ (show z + 1 + 1 ≠ g by omega)]
            exact D2
          have E3 : Boxed (((W.drew.setCell ⟨g, i * 3 + 2, none⟩ (.int .i64 n)).setCell ⟨z + 1 + 1, 0, none⟩ (.int .u64 x.val)).setCell ⟨z + 3, 0, none⟩ (.int .i64 0)) (z + 3) 45 (.int .i64 0) := by
            refine Boxed.set (v := .int .i64 140) _ ?_
            show (((W.drew.setCell ⟨g, i * 3 + 2, none⟩ (.int .i64 n)).setCell ⟨z + 1 + 1, 0, none⟩ (.int .u64 x.val))).heap[z + 3]? = _
            rw [Below.heap_setCell _ _ _ _ (show z + 3 ≠ z + 1 + 1 by omega), Below.heap_setCell _ _ _ _ (show z + 3 ≠ g by omega)]
            exact D3
          obtain ⟨co9, hcl9, hcM9, hcc9, _⟩ := Kd.R_elem hQ9.it x (i : Int) (by omega) (by omega)
          have hco9 : co9 = encIt ⟨x.num, x.val, n⟩ := by
            have : co9 = encIt ((s.its.set i ⟨x.num, x.val, n⟩).getD (i : Int).toNat x) := hcM9
            rw [this]
            have hil' : i < s.its.length := hil
            simp [List.getD_eq_getElem?_getD, hil']
          subst hco9
          have m0 : (((W.drew.setCell ⟨g, i * 3 + 2, none⟩ (.int .i64 n)).setCell ⟨z + 1 + 1, 0, none⟩ (.int .u64 x.val)).setCell ⟨z + 3, 0, none⟩ (.int .i64 0)).cell? ⟨g, i * 3, none⟩ = some (.int .i64 x.num) := hcc9 0 _ rfl
          have m1 : (((W.drew.setCell ⟨g, i * 3 + 2, none⟩ (.int .i64 n)).setCell ⟨z + 1 + 1, 0, none⟩ (.int .u64 x.val)).setCell ⟨z + 3, 0, none⟩ (.int .i64 0)).cell? ⟨g, i * 3 + 1, none⟩ = some (.int .u64 x.val) := hcc9 1 _ rfl
          have c0 := D0.cell
          have c1 := D1.cell
          have c2 := D2.cell
          have c3 := D3.cell
          have g2 := D2.frozen
          have g3 := D3.frozen
          have HQ9 : Hid (QAt Zz F (((W.drew.setCell ⟨g, i * 3 + 2, none⟩ (.int .i64 n)).setCell ⟨z + 1 + 1, 0, none⟩ (.int .u64 x.val)).setCell ⟨z + 3, 0, none⟩ (.int .i64 0)) b ⟨s.its.set i ⟨x.num, x.val, n⟩, s.ws, s.gv⟩) := hid ⟨I, _, qv, hQ9.sub hmz (fun j hj => by rw [hs9]; exact hQW.fb j hj), HWS.out⟩
          have HS9 := hid hs9
          have HK9 := hid hk9
          have HFW9 := hid hfw9
          have HE0 := hid E0
          have HE1 := hid E1
          have HE2 := hid E2
          have HE3 := hid E3
          have HM0 := hid m0
          have HM1 := hid m1
          have HSW := hid hsW
          have HBW := hid hbW.size
          have hmx : Tryz.prog.follows .mixedOrders = true := by kernel_rfl
          clear hbW hsW D0 D1 D2 D3 hcc hcz hcM hQW hQD hseg hw hfa hQA hfb hmz hQ9 hs9 hk9 hfw9 E0 E1 E2 E3 hcc9 hcM9 m0 m1 hcl9 hgz hgb e1
          gi_wp2_with fail
          have HNT := hid (note_any (HQ9.out.below (bd1 _)) (by
            obtain ⟨u1, u2, u3, u4, u5, u6, u7⟩ := HB.out
            exact ⟨u1, by simpa using u2, u3, u4, u5, u6, u7⟩) n ⟨4, x.num, x.val⟩)
          refine wpIn_mono (Q := fun e a' w' => e = .normal ∧ a' = ({ tmps := #[.pointer (some ⟨b, 34, none⟩), .int .i64 n, .pointer (some ⟨z, 0, none⟩), .pointer (some ⟨z + 1, 0, none⟩), .int .u64 0, .int .i64 0, .int .i64 0, .pointer (some ⟨z + 1 + 1, 0, none⟩), .pointer (some ⟨z + 3, 0, none⟩), .pointer (some ⟨g, i * 3, none⟩), .pointer (some ⟨b, 34, none⟩), .int .i64 n, .int .i64 0, .int .i64 0, .bool false, undef, .pointer (some ⟨b, 34, none⟩), .int .i64 n, .func (.func 111) #[] #[.pointer (some ⟨z + 4, 0, none⟩), .pointer (some ⟨z + 4 + 1, 0, none⟩)], .pointer (some ⟨g, i * 3, none⟩), .pointer (some ⟨g, i * 3, none⟩), .pointer (some ⟨g, i * 3, none⟩), .pointer (some ⟨g, i * 3 + 2, none⟩), .int .i64 0, .bool false, .pointer (some ⟨g, i * 3, none⟩), .int .i64 n, .pointer (some ⟨g, i * 3, none⟩), .pointer (some ⟨g, i * 3, none⟩), .pointer (some ⟨g, i * 3 + 1, none⟩), .int .u64 x.val, .pointer (some ⟨g, i * 3, none⟩), .pointer (some ⟨g, i * 3 + 2, none⟩), undef, undef, undef, undef, undef, undef, undef, undef, undef, undef, undef, undef, undef, undef], defers := [] } : Act) ∧ w' = (((W.drew.setCell ⟨g, i * 3 + 2, none⟩ (.int .i64 n)).setCell ⟨z + 1 + 1, 0, none⟩ (.int .u64 x.val)).setCell ⟨z + 3, 0, none⟩ (.int .i64 0))) ?h1 ?h2
          case h1 =>
            gi_region_with_o (fail)
            all_goals exact ⟨rfl, rfl, rfl⟩
          case h2 =>
            rintro e a' w' ⟨rfl, rfl, rfl⟩
            generalize (((W.drew.setCell ⟨g, i * 3 + 2, none⟩ (.int .i64 n)).setCell ⟨z + 1 + 1, 0, none⟩ (.int .u64 x.val)).setCell ⟨z + 3, 0, none⟩ (.int .i64 0)) = w9 at *
            have c0 := HE0.out.cell
            have c1 := HE1.out.cell
            have m0 := HM0.out
            have m1 := HM1.out
            clear k0 k1 k2 f2 c2 c3 g2 g3
            gi_wp2_with fail
            refine wpIn_mono (Q := fun e a' w' => e = .normal ∧ (∀ k, w6.heap.size ≤ k → k < W.heap.size → w'.heap[k]? = W.heap[k]?) ∧ (∃ F', QAt Zz F' w' b ⟨s.its.set i ⟨x.num, x.val, n⟩, noteW n ⟨4, x.num, x.val⟩ s.ws, s.gv⟩ ∧ ∀ j, F' j → F j ∨ w6.heap.size + 2 ≤ j) ∧ Boxed w' (z + 1 + 1) 39 (.int .u64 x.val) ∧ Boxed w' (z + 3) 45 (.int .i64 0) ∧ Fr F w w' ∧ w6.heap.size ≤ w'.heap.size) ?h3 ?h4
            case h3 =>
              refine round_still_tail 11 hmx (by kernel_rfl) (by kernel_rfl) (by rintro ⟨a, w, h, _⟩; cases h) ?_
              simp only [List.take_succ_cons, List.take_zero, List.drop_succ_cons, List.drop_zero]
              repeat still_step
              try refine wpStill_nil ?_
              change wpList _ _ _ _ _ w9.drew
              go_wp2_with fail
              refine HNT.out.mono ?_
              rintro e w10 ⟨rfl, ⟨F10, h10, g10⟩, f10⟩
              go_wp2_with fail
              have e1 := HSZ6.out
              have e2 := HS9.out
              have e3 := HSW.out
              have e4 : w9.drew.heap.size = w9.heap.size := rfl
              exact ⟨fun k hk hk2 => (f10.block k (by omega) (fun q => by have := HLT.out k q; omega)).trans (HK9.out k hk), ⟨F10, h10, fun j hj => (g10 j hj).imp id (fun q => by omega)⟩, f10.at_ HE2.out (fun q => by have := HLT.out _ q; omega), f10.at_ HE3.out (fun q => by have := HLT.out _ q; omega), HFW9.out.drew.trans f10 (fun j hj => .inl hj), by have := f10.size; have := HBW.out; omega⟩
            case h4 =>
              rintro e a' w' ⟨rfl, h5, h6⟩
              gi_wp2_with fail
              first | exact h5 | exact ⟨h5, h6⟩
        case stop =>
          rintro W ⟨⟨F', h1, h1'⟩, h2, h3, h4, h5⟩ hD
          have D2 := h2.cell
          have D3 := h3.cell
          have HQW := hid h1
          have HFW := hid h4
          have HD := hid hD
          have HF1 := hid h1'
          clear h1 h2 h3 h4 h5 hD h1'
          refine wpIn_exit ?_
          simp only [Exit.inBlock, if_true]
          go_wp2_with fail
          go_quiet (fail)
          go_wp2_with fail
          refine ⟨by simp, .inl ⟨_, _, rfl, run_takeDeferred (show (W.drewN _).heap[w6.heap.size]? = some (.deferred (some [])) from HD.out), ?_⟩⟩
          refine ⟨_, results_tmp2 rfl _ _ _, ?_⟩
          unfold TakePost
          rw [HE.out]
          have e1 := HSZ6.out
          have e2 := HZE.out
          exact ⟨rfl, ⟨F', (HQW.out.below (bdN W _)).put (fun q => (HF1.out _ q).elim (fun q => by have := HLT.out _ q; omega) (fun q => by omega)) _, fun j hj => (HF1.out j hj).imp id (fun q => by omega)⟩, Fr.put (HFW.out.drewN _) (by omega) _⟩
      · have HE := hid (show s.take n = ((0, 120), s) from by unfold QS.take; rw [if_neg (by simp [hf]), hfi]; simp only [hgd]; rw [if_pos hby])
        clear hfi hgd
        refine range_first rfl (by omega) (gf := 111) (lb := #[.pointer (some ⟨z + 4, 0, none⟩), .pointer (some ⟨z + 4 + 1, 0, none⟩)]) rfl trivial (enters_of Tryz.func111 (by kernel_rfl) rfl) (enc := #[.pointer (some ⟨g, i * 3, none⟩)]) rfl 0 HSEQ.out
          (fun W => QAt Zz F W b s ∧ Boxed W (z + 1 + 1) 39 (.int .u64 0) ∧ Boxed W (z + 3) 45 (.int .i64 120) ∧ Fr F w W ∧ w6.heap.size ≤ W.heap.size) ?ib ?ic
          ({ tmps := #[.pointer (some ⟨b, 34, none⟩), .int .i64 n, .pointer (some ⟨z, 0, none⟩), .pointer (some ⟨z + 1, 0, none⟩), .int .u64 0, .int .i64 0, .int .i64 0, .pointer (some ⟨z + 1 + 1, 0, none⟩), .pointer (some ⟨z + 3, 0, none⟩), .pointer (some ⟨g, i * 3, none⟩), .pointer (some ⟨b, 34, none⟩), .int .i64 n, .int .i64 0, .int .i64 0, .bool false, undef, .pointer (some ⟨b, 34, none⟩), .int .i64 n, .func (.func 111) #[] #[.pointer (some ⟨z + 4, 0, none⟩), .pointer (some ⟨z + 4 + 1, 0, none⟩)], .pointer (some ⟨g, i * 3, none⟩), undef, undef, undef, undef, undef, undef, undef, undef, undef, undef, undef, undef, undef, undef, undef, undef, undef, undef, undef, undef, undef, undef, undef, undef, undef, undef, undef], defers := [] }) ?assign ?body ?stop
        case ib =>
          rintro W o o' ho hno ⟨h1, h2, h3, h4, h5⟩
          have e1 := HSZ6.out
          exact ⟨h1.put (fun q => by have := HLT.out _ q; omega) _, Boxed.put h2 (by omega) _, Boxed.put h3 (by omega) _, Fr.put h4 (by have := HZE.out; omega) _, by simpa using h5⟩
        case ic =>
          rintro W W' hb ⟨h1, h2, h3, h4, h5⟩
          exact ⟨h1.below hb, Boxed.below h2 hb, Boxed.below h3 hb, h4.trans (Fr.of_below hb (Nat.le_refl _)) (fun _ q => q.elim), Nat.le_trans h5 hb.size⟩
        case assign =>
          intro q W K hK
          gi_wp2
          exact hK
        case body =>
          intro l W hbW hsW
          have hQW := HQR.out.below hbW
          obtain ⟨co, hcl, hcM, hcc, hcz⟩ := Kd.R_elem hQW.it x (i : Int) (by omega) (by omega)
          have hco : co = encIt x := by
            have : co = encIt (s.its.getD (i : Int).toNat x) := hcM
            rw [this]
            simp [List.getD_eq_getElem?_getD, HX.out]
          subst hco
          have k2 : W.cell? ⟨g, i * 3 + 2, none⟩ = some (.int .i64 x.by_) := hcc 2 _ rfl
          have D3 := Boxed.below HC3.out hbW
          have c3 := D3.cell
          have f3 := D3.frozen
          have hz : (x.by_ == 0) = false := by simpa using hby
          have HD2 := hid (Boxed.below HC2.out hbW)
          have HD3 := hid D3
          have HQW := hid ((HQ6.out.below hbW))
          have HFW := hid (HF6.out.trans (Fr.of_below hbW (Nat.le_refl _)) (fun _ q => q.elim))
          have HSW := hid hsW
          have HBW := hid hbW.size
          clear hbW hsW D3 hcc hcz hcM hQW
          gi_wp2_with fail
          have e1 := HSZ6.out
          refine ⟨fun k hk hk2 => Below.heap_setCell _ _ _ _ (by show k ≠ z + 3; omega), HQW.out.fr (S := fun j => j = z + 3) (Fr.setCell (S := fun j => j = z + 3) (p := ⟨z + 3, 0, none⟩) (Fr.refl _ W) (.inl rfl) _) (fun j hj q => by have := HLT.out j hj; omega), (Below.heap_setCell _ _ _ _ (by show z + 1 + 1 ≠ z + 3; omega)).trans HD2.out, Boxed.set _ HD3.out, Fr.setCell (p := ⟨z + 3, 0, none⟩) HFW.out (.inr (by have := HZE.out; show w.heap.size ≤ z + 3; omega)) _, by simpa [World.setCell] using HBW.out⟩
        case stop =>
          rintro W ⟨h1, h2, h3, h4, h5⟩ hD
          have D2 := h2.cell
          have D3 := h3.cell
          have HQW := hid h1
          have HFW := hid h4
          have HD := hid hD
          clear h1 h2 h3 h4 h5 hD
          refine wpIn_exit ?_
          simp only [Exit.inBlock, if_true]
          go_wp2_with fail
          go_quiet (fail)
          go_wp2_with fail
          refine ⟨by simp, .inl ⟨_, _, rfl, run_takeDeferred (show (W.drewN _).heap[w6.heap.size]? = some (.deferred (some [])) from HD.out), ?_⟩⟩
          refine ⟨_, results_tmp2 rfl _ _ _, ?_⟩
          unfold TakePost
          rw [HE.out]
          exact ⟨rfl, ⟨F, (HQW.out.below (bdN W _)).put (fun q => by have := HLT.out _ q; have := HSZ6.out; omega) _, Grew.refl _ _⟩, Fr.put (HFW.out.drewN _) (by have := HSZ6.out; have := HZE.out; omega) _⟩
  · have HE := hid (show s.take n = ((0, s.fit n), s) from by unfold QS.take; rw [if_pos hf])
    have hz : (s.fit n == 0) = false := by simpa using hf
    go_wp2_with fail
    refine ⟨_, results_tmp2 rfl _ _ _, ?_⟩
    unfold TakePost
    rw [HE.out]
    exact ⟨rfl, ⟨F, HQ0.out, Grew.refl _ _⟩, HFA.out⟩
end Go.Proofs.YtdejbinmnoabeaaGreat.Q
namespace Go.Mine
def frontOk (its : List It) : List Ch → Nat → Bool
  | [], _ => true
  | c :: cs, f => if (c.kind == 3 && c.key == 0) = true then frontOk its cs f else if c.kind = 4 ∧ its[f]? = some ⟨c.key, c.val, 0⟩ then frontOk its cs (f + 1) else false
def QS.right (s : QS) (l : List Ch) : Bool := frontOk s.its l 0 && decide ((putsL l : Int) ≤ max s.room 0)
theorem frontOk_step {its : List It} {l : List Ch} {i f : Nat} {y : Ch} (hy : l[i]? = some y) : frontOk its (l.drop i) f = if (y.kind == 3 && y.key == 0) = true then frontOk its (l.drop (i + 1)) f else if y.kind = 4 ∧ its[f]? = some ⟨y.key, y.val, 0⟩ then frontOk its (l.drop (i + 1)) (f + 1) else false := by
  have h1 := (List.getElem?_eq_some_iff.1 hy).1
  have h2 := (List.getElem?_eq_some_iff.1 hy).2
  rw [List.drop_eq_getElem_cons h1, h2, frontOk]
end Go.Mine
namespace Go.Proofs.YtdejbinmnoabeaaGreat.Q
variable {Zz : QZ}
open Go.RowKit Go.Mine Go.Proofs.YtdejbinmnoabeaaGreatW.PrintWords
set_option linter.unusedVariables false
set_option linter.unusedSimpArgs false
set_option maxRecDepth 100000 in
set_option maxHeartbeats 4000000 in
theorem right_any {F : Nat → Prop} {w : World} {b : Nat} {s : QS} (h : QAt Zz F w b s) (hb : s.Bd) (A : Option Addr) (l : List Ch) (c B : Nat) (hl : ChAt w B A l) (hB : B ≤ w.heap.size) (hn : l.length ≤ 1000000) :
    Calls Tryz.prog 95 #[.pointer (some ⟨b, 34, none⟩), .slice A l.length c] w fun e w' => e = .returned (.bool (s.right l)) ∧ Below w.heap.size w w' := by
  have HQ := hid h
  have HB := hid hb
  have HP := hid (fun w' (f : Below w.heap.size w w') => puts_any A l c B w' (hl.below (f.mono hB)) (Nat.le_trans hB f.size) hn)
  have HRM := hid (fun w' (f : Below w.heap.size w w') => room_any (h.below f) hb)
  have hil := hb.its
  clear hb
  go_enter Tryz.func95, Tryz.ntmps95
  go_wp2_with fail
  go_loopg [5, 10] (l.length + 1) (fun m v5 v10 wr => ∃ i f : Nat, v5 = .int .i64 f ∧ v10 = .int .i64 i ∧ i ≤ l.length ∧ f ≤ i ∧ m = l.length + 1 - i ∧ frontOk s.its l 0 = frontOk s.its (l.drop i) f ∧ Below w.heap.size w wr)
  case atStart => exact ⟨0, 0, rfl, rfl, Nat.zero_le _, Nat.le_refl _, rfl, rfl, Below.refl _ _⟩
  case round =>
    obtain ⟨i, f, rfl, rfl, hi, hfi, hm, hr, hbl⟩ := hrel
    have HN := hid hm
    have HR := hid hr
    clear hm hr
    by_cases h1 : i < l.length
    · obtain ⟨y, hy⟩ : ∃ y, l[i]? = some y := ⟨_, List.getElem?_eq_getElem h1⟩
      obtain ⟨b', off, rfl, hbb, hcc⟩ := (hl.below (hbl.mono hB)) i y hy
      have k0 : wr.cell? ⟨b', off + i * 3, none⟩ = some (.int .i64 y.kind) := hcc 0 _ rfl
      have k1 := hcc 1 _ rfl
      have k2 := hcc 2 _ rfl
      have hst := HR.out.trans (frontOk_step (f := f) hy)
      have HST := hid hst
      obtain ⟨I, iv, qv, hR, hws⟩ := HQ.out.below hbl
      have hba : Below w.heap.size w (wr.alloc (.cells #[.int .i64 y.kind, .int .i64 y.key, .int .u64 y.val] 90)) := hbl.alloc hbl.size _
      have hba2 : Below wr.heap.size wr (wr.alloc (.cells #[.int .i64 y.kind, .int .i64 y.key, .int .u64 y.val] 90)) := (Below.refl _ _).alloc (Nat.le_refl _) _
      have hRa := hR.below hba2
      have hRa2 := hRa.below (bd1 _)
      have HBA := hid hba
      have hx1 : (wr.alloc (.cells #[.int .i64 y.kind, .int .i64 y.key, .int .u64 y.val] 90)).heap[wr.heap.size]? = some (.cells #[.int .i64 y.kind, .int .i64 y.key, .int .u64 y.val] 90 (0, 0)) := (MapKept.heap_alloc wr _).1
      have e0 := cell_of_row _ _ 0 _ _ _ hx1
      have e1 := cell_of_row _ _ 1 _ _ _ hx1
      have e2 := cell_of_row _ _ 2 _ _ _ hx1
      obtain ⟨A3, c3, hv3, hc3, hat3⟩ := hRa.it.at_
      have g0 : (wr.alloc (.cells #[.int .i64 y.kind, .int .i64 y.key, .int .u64 y.val] 90)).cell? ⟨b, 34, none⟩ = some (.slice A3 s.its.length c3) := by rw [cell_of_row _ b 34 _ _ _ hRa.blk, ← hv3]; exact qget0 _ _ _ _
      have hat3' : RowAt encIt 3 (wr.alloc (.cells #[.int .i64 y.kind, .int .i64 y.key, .int .u64 y.val] 90)) (wr.alloc (.cells #[.int .i64 y.kind, .int .i64 y.key, .int .u64 y.val] 90)).heap.size A3 s.its := hat3
      have HAT3 := hid hat3'
      clear hcc hst hR hws hba hba2 hRa hRa2 hx1 hat3 hat3' hv3 hl hy
      by_cases q3 : (y.kind == 3 && y.key == 0) = true
      · have q3' := q3
        rw [Bool.and_eq_true] at q3'
        obtain ⟨qa, qb⟩ := q3'
        have HQ3 := hid q3
        clear q3
        go_wp2_with fail
        go_roundg (l.length + 1 - (i + 1))
        case measure => rw [HN.out]; omega
        case rel => exact ⟨i + 1, f, rfl, by go_num, by omega, by omega, rfl, by rw [HST.out, if_pos HQ3.out], HBA.out⟩
      · by_cases q4 : y.kind = 4 ∧ s.its[f]? = some ⟨y.key, y.val, 0⟩
        · have HE := hid (HST.out.trans (by rw [if_neg q3, if_pos q4]))
          obtain ⟨qa, qb⟩ := q4
          obtain ⟨b3, off3, rfl, hb3, hc3'⟩ := HAT3.out f _ qb
          have hfl := (List.getElem?_eq_some_iff.1 qb).1
          have d0 : (wr.alloc (.cells #[.int .i64 y.kind, .int .i64 y.key, .int .u64 y.val] 90)).cell? ⟨b3, off3 + f * 3, none⟩ = some (.int .i64 y.key) := hc3' 0 _ rfl
          have d1 := hc3' 1 _ rfl
          have d2 := hc3' 2 _ rfl
          clear hc3' HST q3 qb
          obtain ⟨kd, ky, vl⟩ := y
          simp only at qa
          subst qa
          simp only at *
          go_wp2_with fail
          go_quiet (fail)
          go_wp2_with fail
          go_roundg (l.length + 1 - (i + 1))
          case measure => rw [HN.out]; omega
          case rel => exact ⟨i + 1, f + 1, by go_num, by go_num, by omega, by omega, rfl, HE.out, HBA.out.trans ((bdN _ _).mono HBA.out.size)⟩
        · have hfa : s.right l = false := by unfold QS.right; rw [HST.out, if_neg q3, if_neg q4]; rfl
          have HFA := hid hfa
          clear hfa HST
          obtain ⟨kd, ky, vl⟩ := y
          simp only at *
          cases q5 : (kd == 4)
          · cases q6 : (kd == 3)
            · clear q3 q4
              go_wp2_with fail
              go_quiet (fail)
              go_wp2_with fail
              go_ret
              exact ⟨by rw [HFA.out]; rfl, HBA.out.trans ((bdN _ _).mono HBA.out.size)⟩
            · have q7 : (ky == 0) = false := by
                cases hq : (ky == 0) with
                | false => rfl
                | true => exact absurd (by rw [q6, hq]; rfl) q3
              clear q3 q4
              go_wp2_with fail
              go_quiet (fail)
              go_wp2_with fail
              go_ret
              exact ⟨by rw [HFA.out]; rfl, HBA.out.trans ((bdN _ _).mono HBA.out.size)⟩
          · have q5' : kd = 4 := by simpa using q5
            subst q5'
            clear q5 q3
            by_cases hfl : f < s.its.length
            · obtain ⟨x, hx⟩ : ∃ x, s.its[f]? = some x := ⟨_, List.getElem?_eq_getElem hfl⟩
              obtain ⟨b3, off3, rfl, hb3, hc3'⟩ := HAT3.out f x hx
              have d0 : (wr.alloc (.cells #[.int .i64 4, .int .i64 ky, .int .u64 vl] 90)).cell? ⟨b3, off3 + f * 3, none⟩ = some (.int .i64 x.num) := hc3' 0 _ rfl
              have d1 := hc3' 1 _ rfl
              have d2 := hc3' 2 _ rfl
              have hno : ¬ ((x.num == ky) = true ∧ (x.val == vl) = true ∧ (x.by_ == 0) = true) := by
                rintro ⟨p1, p2, p3⟩
                refine q4 ⟨rfl, ?_⟩
                rw [hx]
                obtain ⟨xn, xv, xb⟩ := x
                simp at p1 p2 p3
                rw [p1, p2, p3]
              clear hc3' hx q4
              cases p1 : (x.num == ky) <;> cases p2 : (x.val == vl) <;> cases p3 : (x.by_ == 0)
              case true.true.true => exact absurd ⟨p1, p2, p3⟩ hno
              all_goals
                clear hno
                go_wp2_with fail
                go_quiet (fail)
                go_wp2_with fail
                go_ret
                exact ⟨by rw [HFA.out]; rfl, HBA.out.trans ((bdN _ _).mono HBA.out.size)⟩
            · clear q4
              go_wp2_with fail
              go_quiet (fail)
              go_wp2_with fail
              go_ret
              exact ⟨by rw [HFA.out]; rfl, HBA.out.trans ((bdN _ _).mono HBA.out.size)⟩
    · have hi' : i = l.length := by omega
      subst hi'
      have hq : frontOk s.its l 0 = true := by rw [HR.out, List.drop_length]; rfl
      have he : s.right l = decide ((putsL l : Int) ≤ max s.room 0) := by unfold QS.right; rw [hq]; rfl
      have HE := hid he
      have hle := putsL_le l
      clear hq he
      generalize s.room = rm at *
      generalize putsL l = P at *
      go_wp2_with fail
      refine (HP.out _ hbl).mono ?_
      rintro e w2 ⟨rfl, f2⟩
      go_wp2_with fail
      refine (HRM.out _ (hbl.trans (f2.mono hbl.size))).mono ?_
      rintro e w3 ⟨rfl, f3⟩
      go_wp2_with fail
      all_goals
        go_ret
        refine ⟨?_, (hbl.trans (f2.mono hbl.size)).trans (f3.mono (Nat.le_trans hbl.size f2.size))⟩
        rw [HE.out]
        exact congrArg (fun b => Ending.returned (Value.bool b)) (by rw [decide_eq_decide]; omega)
end Go.Proofs.YtdejbinmnoabeaaGreat.Q
