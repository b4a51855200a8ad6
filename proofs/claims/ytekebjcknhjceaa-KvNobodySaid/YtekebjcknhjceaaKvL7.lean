/- Walk of trothlaw13.KvLives: it answers true. Condition: the calls' slice reads as its list. -/
import Derived.Test.YtekebjcknhjceaaKvDd
import Derived.Test.YtekebjcknhjceaaKvL6
namespace Go.Mine
theorem call_list_len {s : KS} (hs : s.Ok) (o : KOp) : (callK s o).1.2.2.1.length ≤ 16 := by
  unfold callK
  split
  · simp
  · split
    · simp
    · split
      · simp
      · split
        · show (s.prepare o.work).1.1.length ≤ 16
          rcases prep_cases (n := o.work) hs with ⟨_, h⟩ | ⟨_, h⟩ | ⟨_, h⟩ | ⟨_, _, _, h, _⟩
          · rw [h]; simp
          · rw [h]; simp
          · rw [h]; simp
          · exact h.len
        · split
          · simp
          · split
            · simp
            · split <;> simp
end Go.Mine
namespace Go.Proofs.Ytekebjcknhjceaa
open Go.RowKit Go.Mine Go.Proofs.YtekebjcknhjceaaW.PrintWords
set_option linter.unusedVariables false
set_option linter.unusedSimpArgs false

/-- The document's store, new. -/
theorem DsR.new (w : World) : DsR (fun i => i = w.heap.size) (w.alloc (.cells #[.slice none 0 0, .slice none 0 0, .slice none 0 0] 49)) w.heap.size [] [] [] (.slice none 0 0) (.slice none 0 0) (.slice none 0 0) where
  fb i hi := by subst hi; simp
  b := rfl
  blk := (MapKept.heap_alloc w _).1
  pr := Kd.R_nil _ _ _ _ _
  wp := Kd.R_nil _ _ _ _ _
  lr := Kd.R_nil _ _ _ _ _
  pF k hk := by simp [Value.ownBlock] at hk
  qF k hk := by simp [Value.ownBlock] at hk
  tF k hk := by simp [Value.ownBlock] at hk
  wk x hx := absurd hx List.not_mem_nil
  apart := List.Pairwise.nil
theorem DsR.busy {I : List WI} {s : KS} (hws : s.ws = wsOf I) (n : Int) : s.busy n = (findB I n).isSome := by
  unfold KS.busy findB
  rw [hws, aget_ws]
  cases I.find? (fun x => decide (x.n = n)) <;> rfl
/-- A store and the document's one, side by side. -/
def Tw (w0 w : World) (F G : Nat → Prop) (b0 b1 : Nat) (s t : KS) (L : List (Int × Int)) (I : List WI) (pv qv tv : Value) : Prop :=
  KvAt F w b0 s ∧ DsR G w b1 L I t.lk pv qv tv ∧ t.ws = wsOf I ∧ (∀ i, F i → ¬ G i) ∧ (∀ i, F i → w0.heap.size ≤ i) ∧ (∀ i, G i → w0.heap.size ≤ i) ∧ Below w0.heap.size w0 w
section
variable {w0 w w' : World} {F F' G G' : Nat → Prop} {b0 b1 : Nat} {s s' t t' : KS} {L L' : List (Int × Int)} {I I' : List WI} {pv qv tv pv' qv' tv' : Value}
theorem Tw.below (h : Tw w0 w F G b0 b1 s t L I pv qv tv) (hb : Below w.heap.size w w') : Tw w0 w' F G b0 b1 s t L I pv qv tv :=
  ⟨h.1.below hb, h.2.1.below hb, h.2.2.1, h.2.2.2.1, h.2.2.2.2.1, h.2.2.2.2.2.1, h.2.2.2.2.2.2.trans (hb.mono h.2.2.2.2.2.2.size)⟩
/-- A block of neither is turned. -/
theorem Tw.fr {S : Nat → Prop} (h : Tw w0 w F G b0 b1 s t L I pv qv tv) (hf : Fr S w w') (hS : ∀ i, S i → ¬ F i ∧ ¬ G i ∧ w0.heap.size ≤ i) : Tw w0 w' F G b0 b1 s t L I pv qv tv :=
  ⟨h.1.fr hf (fun i hi q => (hS i q).1 hi), h.2.1.fr hf (fun i hi q => (hS i q).2.1 hi), h.2.2.1, h.2.2.2.1, h.2.2.2.2.1, h.2.2.2.2.2.1, h.2.2.2.2.2.2.trans (hf.below h.2.2.2.2.2.2.size (fun k hk q => by have := (hS k q).2.2; omega))⟩
theorem Tw.left (h : Tw w0 w F G b0 b1 s t L I pv qv tv) (hk : KvAt F' w' b0 s') (hg : Grew F F' w) (hf : Fr F w w') : Tw w0 w' F' G b0 b1 s' t L I pv qv tv := by
  obtain ⟨h1, h2, h3, h4, h5, h6, h7⟩ := h
  refine ⟨hk, h2.fr hf (fun i hi q => h4 i q hi), h3, fun i hi q => ?_, fun i hi => ?_, h6, h7.trans (hf.below h7.size (fun k hk q => by have := h5 k q; omega))⟩
  · rcases hg i hi with r | r
    · exact h4 i r q
    · have := h2.fb i q; omega
  · rcases hg i hi with r | r
    · exact h5 i r
    · exact Nat.le_trans h7.size r
theorem Tw.right (h : Tw w0 w F G b0 b1 s t L I pv qv tv) (hk : DsR G' w' b1 L' I' t'.lk pv' qv' tv') (hi : t'.ws = wsOf I') (hg : Grew G G' w) (hf : Fr G w w') : Tw w0 w' F G' b0 b1 s t' L' I' pv' qv' tv' := by
  obtain ⟨h1, h2, h3, h4, h5, h6, h7⟩ := h
  refine ⟨h1.fr hf (fun i hi q => h4 i hi q), hk, hi, fun i hi q => ?_, h5, fun i hi => ?_, h7.trans (hf.below h7.size (fun k hk q => by have := h6 k q; omega))⟩
  · rcases hg i q with r | r
    · exact h4 i hi r
    · have := h1.fb i hi; omega
  · rcases hg i hi with r | r
    · exact h6 i r
    · exact Nat.le_trans h7.size r
end
/-- What stands in the comparison of what the two told. -/
def LvS (w0 w : World) (F G : Nat → Prop) (b0 b1 : Nat) (s : KS) (L : List (Int × Int)) (I : List WI) (pv qv tv : Value) (A1 A2 : Option Addr) (c1 c2 : Nat) (l : List Ch) : Prop :=
  Tw w0 w F G b0 b1 s s L I pv qv tv ∧ ChRow w (.slice A1 l.length c1) l ∧ ChRow w (.slice A2 l.length c2) l
theorem ChRow.below {w w' : World} {v : Value} {l : List Ch} (h : ChRow w v l) (hb : Below w.heap.size w w') : ChRow w' v l := h.move (fun k hk => hb.block k (h.lt k hk))
theorem lvS_step {p : Addr} {u : Value} {w0 w w' : World} {F G : Nat → Prop} {b0 b1 : Nat} {s : KS} {L : List (Int × Int)} {I : List WI} {pv qv tv : Value} {A1 A2 : Option Addr} {c1 c2 : Nat} {l : List Ch} (hb : Below w.heap.size w w') (h : w.cell? p = some u ∧ LvS w0 w F G b0 b1 s L I pv qv tv A1 A2 c1 c2 l) : w'.cell? p = some u ∧ LvS w0 w' F G b0 b1 s L I pv qv tv A1 A2 c1 c2 l :=
  ⟨(hb.cell (World.block_lt_of_cell? _ _ h.1)).trans h.1, h.2.1.below hb, h.2.2.1.below hb, h.2.2.2.below hb⟩

set_option maxRecDepth 100000 in
set_option maxHeartbeats 8000000 in
theorem lives_any (A : Option Addr) (l : List KOp) (c : Nat) (w : World) (hl : OpsAt w w.heap.size A l) :
    Calls Try.prog 5 #[.slice A l.length c] w fun e w' => e = .returned (.bool true) ∧ Below w.heap.size w w' := by
  go_enter Try.func5, Try.ntmps5
  go_wp2_with fail
  refine (new_any w).mono ?_
  rintro e w1 ⟨rfl, hw1⟩
  have hk1 : KvAt (fun i => i = w.heap.size) w1 w.heap.size KS.new := hw1 ▸ new_kv w
  have hs1 : w1.heap.size = w.heap.size + 1 := by rw [hw1]; simp
  have hb1 : Below w.heap.size w w1 := by rw [hw1]; exact (Below.refl _ _).alloc (Nat.le_refl _) _
  have hd1 := DsR.new w1
  have hb2 : Below w1.heap.size w1 (w1.alloc (.cells #[.slice none 0 0, .slice none 0 0, .slice none 0 0] 49)) := (Below.refl _ _).alloc (Nat.le_refl _) _
  have ht0 : Tw w (w1.alloc (.cells #[.slice none 0 0, .slice none 0 0, .slice none 0 0] 49)) (fun i => i = w.heap.size) (fun i => i = w1.heap.size) w.heap.size w1.heap.size KS.new KS.new [] [] (.slice none 0 0) (.slice none 0 0) (.slice none 0 0) :=
    ⟨hk1.below hb2, hd1, rfl, fun i hi q => by omega, fun i hi => by omega, fun i hi => by omega, hb1.trans (hb2.mono hb1.size)⟩
  have HT0 := hid ht0
  clear hk1 hb1 hd1 hb2 ht0 hw1 hs1
  go_wp2_with fail
  generalize (fun i => i = w.heap.size) = F0 at *
  generalize (fun i => i = w1.heap.size) = G0 at *
  generalize hW2 : w1.alloc (.cells #[.slice none 0 0, .slice none 0 0, .slice none 0 0] 49) = wx at *
  obtain ⟨b0, hb0⟩ : ∃ b0, b0 = w.heap.size := ⟨_, rfl⟩
  obtain ⟨b1, hb1⟩ : ∃ b1, b1 = w1.heap.size := ⟨_, rfl⟩
  rw [← hb1] at HT0 ⊢
  have HT1 : Hid (Tw w wx F0 G0 b0 b1 KS.new KS.new [] [] (.slice none 0 0) (.slice none 0 0) (.slice none 0 0)) := hid (by rw [hb0]; exact HT0.out)
  rw [← hb0]
  clear HT0 hW2 hb1 hb0
  go_loopg [5] 61 (fun m v wr => ∃ (i : Nat) (F G : Nat → Prop) (s : KS) (L : List (Int × Int)) (I : List WI) (pv qv tv : Value), v = .int .i64 i ∧ i ≤ l.length ∧ i ≤ 60 ∧ m = 61 - i ∧ I.length ≤ i ∧ Agree L s ∧ Tw w wr F G b0 b1 s s L I pv qv tv)
  case atStart => exact ⟨0, F0, G0, KS.new, [], [], _, _, _, rfl, Nat.zero_le _, Nat.zero_le _, rfl, Nat.zero_le _, Agree.new, HT1.out⟩
  case round =>
    obtain ⟨i, F, G, s, L, I, pv, qv, tv, rfl, hi1, hi2, hm, hIl, hag, ht⟩ := hrel
    have HN := hid hm
    have HT := hid ht
    have HAG := hid hag
    clear hm ht hag HT1
    by_cases h1 : i < l.length
    · by_cases h2 : (i : Int) < 60
      · obtain ⟨x, hx⟩ : ∃ x, l[i]? = some x := ⟨_, List.getElem?_eq_getElem h1⟩
        obtain ⟨b, off, rfl, hb, hc, hch, hlc⟩ := (hl.below HT.out.2.2.2.2.2.2) i x hx
        have k0 : wr.cell? ⟨b, off + i * 5, none⟩ = some (.int .i64 x.kind) := hc 0 _ rfl
        have k1 := hc 1 _ rfl
        have k2 := hc 2 _ rfl
        have k3 := hc 3 _ rfl
        have k4 : wr.cell? ⟨b, off + i * 5 + 4, none⟩ = some (.slice x.la x.l.length x.lc) := hc 4 _ rfl
        have HCH := hid hch
        clear hc hx hch
        by_cases h30 : x.l.length ≤ 30
        · have h30' : (x.l.length : Int) ≤ 30 := by omega
          have hsz := HT.out.2.2.2.2.2.2.size
          have HC := hid (call_any HT.out.1 x (HCH.out.up hsz) (fun _ => by omega) hlc)
          have hbe : x.l ≠ [] → Beside G wr x.la := fun hne b' off' e => by
            obtain ⟨y, hy⟩ : ∃ y, x.l[0]? = some y := ⟨_, List.getElem?_eq_getElem (List.length_pos_iff.2 hne)⟩
            obtain ⟨b2, off2, e2, hlt, _⟩ := HCH.out 0 y hy
            rw [e] at e2
            cases e2
            exact ⟨fun q => by have := HT.out.2.2.2.2.2.1 _ q; omega, Nat.lt_of_lt_of_le hlt hsz⟩
          have hok := HT.out.1.1
          have hcl := call_len s x
          have hwl : s.ws.length = I.length := by rw [HT.out.2.2.1]; simp [wsOf]
          have hag' := HAG.out.call hok x
          have hll := call_list_len hok x
          have HOK := hid hok
          have HAG2 := hid hag'
          clear hok hag'
          go_wp2_with fail
          refine HC.out.mono ?_
          unfold CallPost
          rintro e w2 ⟨v2, F2, rfl, hk2, hg2, hf2, hr2, ho2⟩
          have ht2 := HT.out.left hk2 hg2 hf2
          have hb2 : Below w.heap.size wr w2 := hf2.below hsz (fun k hk q => by have := HT.out.2.2.2.2.1 k q; omega)
          have hGlt : ∀ k, G k → k < wr.heap.size := HT.out.2.1.fb
          have hm2 := model_any ht2.2.1 ht2.2.2.1 (by omega) HAG.out HOK.out x ((HCH.out.below hb2).up ht2.2.2.2.2.2.2.size) (fun hne b' off' e => ⟨(hbe hne b' off' e).1, Nat.lt_of_lt_of_le (hbe hne b' off' e).2 hf2.size⟩) (fun _ => by omega) hlc
          unfold DCall at hm2
          have j0 := (hb2.cell hb).trans k0
          have j1 := (hb2.cell hb).trans k1
          have j2 := (hb2.cell hb).trans k2
          have j3 := (hb2.cell hb).trans k3
          have j4 := (hb2.cell hb).trans k4
          generalize callK s x = R at *
          obtain ⟨⟨ra, rb, rl, re⟩, s'⟩ := R
          simp only at hk2 hr2 hm2 hcl hll ht2 HAG2 ⊢
          have HT2 := hid ht2
          have HM2 := hid hm2
          have HR2 := hid hr2
          have HO2 := hid ho2
          have HF2 := hid hf2
          clear k0 k1 k2 k3 k4 ht2 hm2 hr2 ho2 hk2 hg2 hf2 HC HT HAG
          go_wp2_with fail
          refine HM2.out.mono ?_
          rintro e w3 ⟨v3, G3, I3, pv3, qv3, tv3, rfl, hd3, hi3, hg3, hf3, hr3, ho3⟩
          have ht3 := HT2.out.right hd3 hi3 hg3 hf3
          have hb3 : Below w.heap.size w2 w3 := hf3.below HT2.out.2.2.2.2.2.2.size (fun k hk q => by have := HT2.out.2.2.2.2.2.1 k q; omega)
          have hv2 := HR2.out.move (fun k hk => hf3.block k (HR2.out.lt k hk) (fun q => by have := (HO2.out k hk).1; have := hGlt k q; omega))
          have ho : ∀ k, v2.ownBlock = some k → ¬ F2 k ∧ ¬ G3 k ∧ w.heap.size ≤ k := fun k hk => ⟨(HO2.out k hk).2, fun q => by
            rcases hg3 k q with r | r
            · have := (HO2.out k hk).1; have := hGlt k r; omega
            · have := HR2.out.lt k hk; omega, Nat.le_trans hsz (HO2.out k hk).1⟩
          obtain ⟨A1, c1, hv, hc1, _⟩ := hv2.at_
          subst hv
          obtain ⟨A2, c2, hv, hc2, _⟩ := hr3.at_
          subst hv
          have hIl3 : I3.length ≤ i + 1 := by
            have : s'.ws.length = I3.length := by rw [hi3]; simp [wsOf]
            omega
          have hS : w3.cell? ⟨b, off + i * 5 + 1, none⟩ = some (.int .i64 x.work) ∧ LvS w w3 F2 G3 b0 b1 s' (callL L s x) I3 pv3 qv3 tv3 A1 A2 c1 c2 rl := ⟨(hb3.cell hb).trans j1, ht3, hv2, hr3⟩
          have HO := hid ho
          generalize callL L s x = L' at *
          have da : (ra != ra) = false := by simp
          have db : (rb != rb) = false := by simp
          have de : (re != re) = false := by simp
          have hbu := DsR.busy hi3 x.work
          have K1 : Hid (∀ w', LvS w w' F2 G3 b0 b1 s' L' I3 pv3 qv3 tv3 A1 A2 c1 c2 rl → Calls Try.prog 21 #[.slice A1 rl.length c1, .slice A2 rl.length c2] w' fun e w'' => e = .returned (.bool true) ∧ ∃ q, w'' = w'.drewN q) := hid (fun w' h => by
            obtain ⟨A1', c1', e1, _, h1⟩ := h.2.1.at_
            obtain ⟨A2', c2', e2, _, h2⟩ := h.2.2.at_
            cases e1
            cases e2
            exact samech_any _ _ _ _ _ _ _ h1 h2 (by omega))
          have K2 : Hid (∀ w', LvS w w' F2 G3 b0 b1 s' L' I3 pv3 qv3 tv3 A1 A2 c1 c2 rl → Calls Try.prog 22 #[.pointer (some ⟨b0, 0, none⟩), .int .i64 x.work] w' fun e w'' => e = .returned (.bool (findB I3 x.work).isSome) ∧ w' = w'') := hid (fun w' h => by rw [← hbu]; exact busy_any h.1.1 x.work)
          have K3 : Hid (∀ w', LvS w w' F2 G3 b0 b1 s' L' I3 pv3 qv3 tv3 A1 A2 c1 c2 rl → Calls Try.prog 23 #[.pointer (some ⟨b1, 0, none⟩), .int .i64 x.work] w' fun e w'' => e = .returned (.pointer ((findB I3 x.work).map (fun b => ⟨b, 0, none⟩))) ∧ w' = w'') := hid (fun w' h => dfind_any h.1.2.1 (by omega) x.work)
          clear hbu j0 j2 j3 j4 j1 ht3 hv2 hr3 hd3 hi3 hg3 hf3 HT2 HM2 HR2 HO2 HF2 hbe ho3 hGlt ho
          cases hfb : findB I3 x.work with
          | none =>
            rw [hfb] at K2 K3
            simp only [Option.isSome_none, Option.map_none] at K2 K3
            go_wp2_with fail
            go_region_held3 (fun w' => w'.cell? ⟨b, off + i * 5 + 1, none⟩ = some (.int .i64 x.work) ∧ LvS w w' F2 G3 b0 b1 s' L' I3 pv3 qv3 tv3 A1 A2 c1 c2 rl) (first | exact lvS_step (bd1 _) (by assumption) | exact lvS_step (bdn _ _) (by assumption) | exact lvS_step (by assumption) (by assumption) | assumption) (first
              | (go_at_call 21; refine (K1.out _ ((by assumption : _ ∧ LvS w _ F2 G3 b0 b1 s' L' I3 pv3 qv3 tv3 A1 A2 c1 c2 rl).2)).mono ?_; rintro e w4 ⟨rfl, n4, rfl⟩)
              | (go_at_call 22; refine (K2.out _ ((by assumption : _ ∧ LvS w _ F2 G3 b0 b1 s' L' I3 pv3 qv3 tv3 A1 A2 c1 c2 rl).2)).mono ?_; rintro e w5 ⟨rfl, rfl⟩)
              | (go_at_call 23; refine (K3.out _ ((by assumption : _ ∧ LvS w _ F2 G3 b0 b1 s' L' I3 pv3 qv3 tv3 A1 A2 c1 c2 rl).2)).mono ?_; rintro e w6 ⟨rfl, rfl⟩))
            all_goals
              go_wp2_with fail
              clear K1 K2 K3 HOK HCH hb2 hb3 hsz
              go_loopg [14] (rl.length + 1) (fun m v wq => ∃ (j : Nat) (l' : List Ch), v = .int .i64 j ∧ j ≤ rl.length ∧ m = rl.length + 1 - j ∧ l'.length = rl.length ∧ ChRow wq (.slice A1 rl.length c1) l' ∧ Tw w wq F2 G3 b0 b1 s' s' L' I3 pv3 qv3 tv3)
              case atStart => exact ⟨0, rl, rfl, Nat.zero_le _, rfl, rfl, (by assumption : _ ∧ LvS w _ F2 G3 b0 b1 s' L' I3 pv3 qv3 tv3 A1 A2 c1 c2 rl).2.2.1, (by assumption : _ ∧ LvS w _ F2 G3 b0 b1 s' L' I3 pv3 qv3 tv3 A1 A2 c1 c2 rl).2.1⟩
              case round =>
                obtain ⟨j, l', rfl, hj, hm2, hll2, hr, htw⟩ := hrel
                have HM := hid hm2
                have HTW := hid htw
                clear hm2 htw
                by_cases hjl : j < rl.length
                · have hrl : kch.R 60 wr 0 (fun _ => True) (.slice A1 rl.length c1) l' := hr
                  rw [← hll2] at hrl
                  obtain ⟨g, cp, hv, _, hgl, cells, hgc⟩ := Kd.R_form hrl (by omega)
                  have hAg : A1 = some ⟨g, 0, none⟩ := by injection hv
                  subst hAg
                  rw [hll2] at hrl
                  obtain ⟨co, hcl4, hcM, hcc, hcz⟩ := Kd.R_elem hrl ⟨0, 0, 0⟩ (j : Int) (by omega) (by omega)
                  have hcl3 : co.length = 3 := hcl4
                  generalize hy : l'.getD (Int.toNat j) ⟨0, 0, 0⟩ = y at hcM
                  have hco : co = encCh y := hcM
                  have hv2 : wr.cell? ⟨g, j * 3 + 2, none⟩ = some (.int .u64 y.val) := hcc 2 _ (by rw [hco]; rfl)
                  have hj1 : (j : Int) < rl.length := by omega
                  have hj0 : (0 : Int) ≤ j := by omega
                  have hzz' : wr.frozen? ⟨g, j * 3 + 2, none⟩ = false := hcz 2
                  have HRL := hid hrl
                  have HCC := hid hcc
                  have HCO := hid hco
                  clear hrl hcc hco hr hgc hcM hy hv hcl4 hcz cells
                  go_wp2_with fail
                  go_roundg (rl.length + 1 - (j + 1))
                  case measure => rw [HM.out]; omega
                  case rel =>
                    have hseg := Kd.R_seg HRL.out (j : Int) (by omega) (by omega) (j := 2) (seg := [.int .u64 77]) (x' := ⟨y.kind, y.key, 77⟩) hcl3 HCC.out (by simp [kch]) (okp := fun _ => False) (by rw [HCO.out]; rfl) (fun _ q => q.elim)
                    have hw : wr.setCells g (Int.toNat (j : Int) * kch.sz + 2) [.int .u64 77] = wr.setCell ⟨g, j * 3 + 2, none⟩ (.int .u64 77) := rfl
                    rw [hw] at hseg
                    have fs : Fr (fun k => k = g) wr (wr.setCell ⟨g, j * 3 + 2, none⟩ (.int .u64 77)) := (Fr.of_grown hseg.2).mono (fun j hj => by cases hj; rfl)
                    exact ⟨j + 1, _, by go_num, by omega, rfl, by rw [List.length_set]; exact hll2, hseg.1, HTW.out.fr fs (fun k hk => by subst hk; exact HO.out k rfl)⟩
                · go_wp2_with fail
                  go_loopg [15] 19 (fun m v wq => ∃ k : Int, v = .int .i64 k ∧ -1 ≤ k ∧ k ≤ 17 ∧ m = (18 - k).toNat ∧ Tw w wq F2 G3 b0 b1 s' s' L' I3 pv3 qv3 tv3)
                  case atStart => exact ⟨-1, rfl, by omega, by omega, rfl, HTW.out⟩
                  case round =>
                    clear HTW hr
                    obtain ⟨k, rfl, hk0, hk1, hm3, htw3⟩ := hrel
                    have HK := hid hm3
                    have HT3 := hid htw3
                    clear hm3 htw3
                    by_cases hk : k ≤ 16
                    · have c4 := value_any HT3.out.1 k
                      rw [HAG2.out.value k] at c4
                      have c5 : ∀ q : Nat, _ := fun q => dvalue_any (HT3.out.below (bdN wr q)).2.1 (show L'.length ≤ 1000000 by have := HAG2.out.len; omega) k
                      have C4 := hid c4
                      have C5 := hid c5
                      clear c4 c5
                      generalize dval L' k = dv at *
                      obtain ⟨dv1, dv2⟩ := dv
                      simp only at C4 C5
                      have d1 : (dv1 != dv1) = false := by simp
                      have d2 : (dv2 != dv2) = false := by simp
                      go_wp2_with fail
                      refine C4.out.mono ?_
                      rintro e w7 ⟨rfl, m7, hw7⟩
                      subst hw7
                      go_wp2_with fail
                      refine (C5.out m7).mono ?_
                      rintro e w8 ⟨rfl, rfl⟩
                      go_wp2_with fail
                      go_roundg (18 - (k + 1)).toNat
                      case measure => rw [HK.out]; omega
                      case rel => exact ⟨k + 1, by go_num, by omega, by omega, rfl, HT3.out.below (bdN _ m7)⟩
                    · go_wp2_with fail
                      go_roundg (61 - (i + 1))
                      case measure => rw [HN.out]; omega
                      case rel => exact ⟨i + 1, F2, G3, s', L', I3, pv3, qv3, tv3, by go_num, by omega, by omega, rfl, hIl3, HAG2.out, HT3.out⟩
          | some bw =>
            rw [hfb] at K2 K3
            simp only [Option.isSome_some, Option.map_some] at K2 K3
            go_wp2_with fail
            go_region_held3 (fun w' => w'.cell? ⟨b, off + i * 5 + 1, none⟩ = some (.int .i64 x.work) ∧ LvS w w' F2 G3 b0 b1 s' L' I3 pv3 qv3 tv3 A1 A2 c1 c2 rl) (first | exact lvS_step (bd1 _) (by assumption) | exact lvS_step (bdn _ _) (by assumption) | exact lvS_step (by assumption) (by assumption) | assumption) (first
              | (go_at_call 21; refine (K1.out _ ((by assumption : _ ∧ LvS w _ F2 G3 b0 b1 s' L' I3 pv3 qv3 tv3 A1 A2 c1 c2 rl).2)).mono ?_; rintro e w4 ⟨rfl, n4, rfl⟩)
              | (go_at_call 22; refine (K2.out _ ((by assumption : _ ∧ LvS w _ F2 G3 b0 b1 s' L' I3 pv3 qv3 tv3 A1 A2 c1 c2 rl).2)).mono ?_; rintro e w5 ⟨rfl, rfl⟩)
              | (go_at_call 23; refine (K3.out _ ((by assumption : _ ∧ LvS w _ F2 G3 b0 b1 s' L' I3 pv3 qv3 tv3 A1 A2 c1 c2 rl).2)).mono ?_; rintro e w6 ⟨rfl, rfl⟩))
            all_goals
              go_wp2_with fail
              clear K1 K2 K3 HOK HCH hb2 hb3 hsz
              go_loopg [14] (rl.length + 1) (fun m v wq => ∃ (j : Nat) (l' : List Ch), v = .int .i64 j ∧ j ≤ rl.length ∧ m = rl.length + 1 - j ∧ l'.length = rl.length ∧ ChRow wq (.slice A1 rl.length c1) l' ∧ Tw w wq F2 G3 b0 b1 s' s' L' I3 pv3 qv3 tv3)
              case atStart => exact ⟨0, rl, rfl, Nat.zero_le _, rfl, rfl, (by assumption : _ ∧ LvS w _ F2 G3 b0 b1 s' L' I3 pv3 qv3 tv3 A1 A2 c1 c2 rl).2.2.1, (by assumption : _ ∧ LvS w _ F2 G3 b0 b1 s' L' I3 pv3 qv3 tv3 A1 A2 c1 c2 rl).2.1⟩
              case round =>
                obtain ⟨j, l', rfl, hj, hm2, hll2, hr, htw⟩ := hrel
                have HM := hid hm2
                have HTW := hid htw
                clear hm2 htw
                by_cases hjl : j < rl.length
                · have hrl : kch.R 60 wr 0 (fun _ => True) (.slice A1 rl.length c1) l' := hr
                  rw [← hll2] at hrl
                  obtain ⟨g, cp, hv, _, hgl, cells, hgc⟩ := Kd.R_form hrl (by omega)
                  have hAg : A1 = some ⟨g, 0, none⟩ := by injection hv
                  subst hAg
                  rw [hll2] at hrl
                  obtain ⟨co, hcl4, hcM, hcc, hcz⟩ := Kd.R_elem hrl ⟨0, 0, 0⟩ (j : Int) (by omega) (by omega)
                  have hcl3 : co.length = 3 := hcl4
                  generalize hy : l'.getD (Int.toNat j) ⟨0, 0, 0⟩ = y at hcM
                  have hco : co = encCh y := hcM
                  have hv2 : wr.cell? ⟨g, j * 3 + 2, none⟩ = some (.int .u64 y.val) := hcc 2 _ (by rw [hco]; rfl)
                  have hj1 : (j : Int) < rl.length := by omega
                  have hj0 : (0 : Int) ≤ j := by omega
                  have hzz' : wr.frozen? ⟨g, j * 3 + 2, none⟩ = false := hcz 2
                  have HRL := hid hrl
                  have HCC := hid hcc
                  have HCO := hid hco
                  clear hrl hcc hco hr hgc hcM hy hv hcl4 hcz cells
                  go_wp2_with fail
                  go_roundg (rl.length + 1 - (j + 1))
                  case measure => rw [HM.out]; omega
                  case rel =>
                    have hseg := Kd.R_seg HRL.out (j : Int) (by omega) (by omega) (j := 2) (seg := [.int .u64 77]) (x' := ⟨y.kind, y.key, 77⟩) hcl3 HCC.out (by simp [kch]) (okp := fun _ => False) (by rw [HCO.out]; rfl) (fun _ q => q.elim)
                    have hw : wr.setCells g (Int.toNat (j : Int) * kch.sz + 2) [.int .u64 77] = wr.setCell ⟨g, j * 3 + 2, none⟩ (.int .u64 77) := rfl
                    rw [hw] at hseg
                    have fs : Fr (fun k => k = g) wr (wr.setCell ⟨g, j * 3 + 2, none⟩ (.int .u64 77)) := (Fr.of_grown hseg.2).mono (fun j hj => by cases hj; rfl)
                    exact ⟨j + 1, _, by go_num, by omega, rfl, by rw [List.length_set]; exact hll2, hseg.1, HTW.out.fr fs (fun k hk => by subst hk; exact HO.out k rfl)⟩
                · go_wp2_with fail
                  go_loopg [15] 19 (fun m v wq => ∃ k : Int, v = .int .i64 k ∧ -1 ≤ k ∧ k ≤ 17 ∧ m = (18 - k).toNat ∧ Tw w wq F2 G3 b0 b1 s' s' L' I3 pv3 qv3 tv3)
                  case atStart => exact ⟨-1, rfl, by omega, by omega, rfl, HTW.out⟩
                  case round =>
                    clear HTW hr
                    obtain ⟨k, rfl, hk0, hk1, hm3, htw3⟩ := hrel
                    have HK := hid hm3
                    have HT3 := hid htw3
                    clear hm3 htw3
                    by_cases hk : k ≤ 16
                    · have c4 := value_any HT3.out.1 k
                      rw [HAG2.out.value k] at c4
                      have c5 : ∀ q : Nat, _ := fun q => dvalue_any (HT3.out.below (bdN wr q)).2.1 (show L'.length ≤ 1000000 by have := HAG2.out.len; omega) k
                      have C4 := hid c4
                      have C5 := hid c5
                      clear c4 c5
                      generalize dval L' k = dv at *
                      obtain ⟨dv1, dv2⟩ := dv
                      simp only at C4 C5
                      have d1 : (dv1 != dv1) = false := by simp
                      have d2 : (dv2 != dv2) = false := by simp
                      go_wp2_with fail
                      refine C4.out.mono ?_
                      rintro e w7 ⟨rfl, m7, hw7⟩
                      subst hw7
                      go_wp2_with fail
                      refine (C5.out m7).mono ?_
                      rintro e w8 ⟨rfl, rfl⟩
                      go_wp2_with fail
                      go_roundg (18 - (k + 1)).toNat
                      case measure => rw [HK.out]; omega
                      case rel => exact ⟨k + 1, by go_num, by omega, by omega, rfl, HT3.out.below (bdN _ m7)⟩
                    · go_wp2_with fail
                      go_roundg (61 - (i + 1))
                      case measure => rw [HN.out]; omega
                      case rel => exact ⟨i + 1, F2, G3, s', L', I3, pv3, qv3, tv3, by go_num, by omega, by omega, rfl, hIl3, HAG2.out, HT3.out⟩
        · have h30' : 30 < (x.l.length : Int) := by omega
          go_wp2_with fail
          refine (alive_any _).mono ?_
          rintro e w2 ⟨rfl, f2⟩
          go_wp2_with fail
          go_ret
          exact ⟨rfl, HT.out.2.2.2.2.2.2.trans (f2.mono HT.out.2.2.2.2.2.2.size)⟩
      · go_wp2_with fail
        refine (alive_any _).mono ?_
        rintro e w2 ⟨rfl, f2⟩
        go_wp2_with fail
        go_ret
        exact ⟨rfl, HT.out.2.2.2.2.2.2.trans (f2.mono HT.out.2.2.2.2.2.2.size)⟩
    · go_wp2_with fail
      refine (alive_any _).mono ?_
      rintro e w2 ⟨rfl, f2⟩
      go_wp2_with fail
      go_ret
      exact ⟨rfl, HT.out.2.2.2.2.2.2.trans (f2.mono HT.out.2.2.2.2.2.2.size)⟩
end Go.Proofs.Ytekebjcknhjceaa
