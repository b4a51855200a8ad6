/- Walk of trothlaw14.QueueLives: it answers true. Condition: the calls' slice reads as its list. -/
import Derived.Test.YtmckdoiepmkbbaaQdI
import Derived.Test.YtmckdoiepmkbbaaQuB1
import Derived.Test.YtmckdoiepmkbbaaQuZ
namespace Go.Mine
theorem callQ_list_len {s : QS} (hs : s.Ok) (o : QOp) : (callQ s o).1.2.1.length ≤ 32 := by
  unfold callQ
  split
  · simp
  · split
    · simp
    · split
      · show (s.prepare o.work).1.1.length ≤ 32
        unfold QS.prepare
        have := (hs.list_len o.work).1
        unfold listOfW at this
        split
        · simp
        · cases h : aget o.work s.ws with
          | none => simp
          | some v => rw [h] at this; exact this
      · split
        · simp
        · split
          · simp
          · split
            · simp
            · split <;> simp
end Go.Mine
namespace Go.Proofs.Ytmckdoiepmkbbaa
open Go.RowKit Go.Mine Go.Proofs.YtmckdoiepmkbbaaW.PrintWords
set_option linter.unusedVariables false
set_option linter.unusedSimpArgs false
theorem DQR.new (w : World) : QR eD T1 (fun i => i = w.heap.size) (w.alloc (.cells #[.slice none 0 0, .slice none 0 0, .int .i64 0] 55)) w.heap.size [] [] 0 (.slice none 0 0) (.slice none 0 0) where
  fb i hi := by subst hi; simp
  bF := rfl
  blk := (MapKept.heap_alloc w _).1
  it := FR.nil _ _ _
  wp := FR.nil _ _ _
  iF k hk := by simp [Value.ownBlock] at hk
  qF k hk := by simp [Value.ownBlock] at hk
  wk x hx := absurd hx List.not_mem_nil
  apart := List.Pairwise.nil
/-- A queue and the document's one, side by side. -/
def Tw (w0 w : World) (F G : Nat → Prop) (b0 b1 : Nat) (s t : QS) : Prop :=
  QAt F w b0 s ∧ DAt G w b1 t ∧ (∀ i, F i → ¬ G i) ∧ (∀ i, F i → w0.heap.size ≤ i) ∧ (∀ i, G i → w0.heap.size ≤ i) ∧ Below w0.heap.size w0 w
section
variable {w0 w w' : World} {F F' G G' : Nat → Prop} {b0 b1 : Nat} {s s' t t' : QS}
theorem Tw.below (h : Tw w0 w F G b0 b1 s t) (hb : Below w.heap.size w w') : Tw w0 w' F G b0 b1 s t :=
  ⟨h.1.below hb, h.2.1.below hb, h.2.2.1, h.2.2.2.1, h.2.2.2.2.1, h.2.2.2.2.2.trans (hb.mono h.2.2.2.2.2.size)⟩
theorem Tw.fr {S : Nat → Prop} (h : Tw w0 w F G b0 b1 s t) (hf : Fr S w w') (hS : ∀ i, S i → ¬ F i ∧ ¬ G i ∧ w0.heap.size ≤ i) : Tw w0 w' F G b0 b1 s t :=
  ⟨h.1.fr hf (fun i hi q => (hS i q).1 hi), h.2.1.fr hf (fun i hi q => (hS i q).2.1 hi), h.2.2.1, h.2.2.2.1, h.2.2.2.2.1, h.2.2.2.2.2.trans (hf.below h.2.2.2.2.2.size (fun k hk q => by have := (hS k q).2.2; omega))⟩
theorem Tw.left (h : Tw w0 w F G b0 b1 s t) (hk : QAt F' w' b0 s') (hg : Grew F F' w) (hf : Fr F w w') : Tw w0 w' F' G b0 b1 s' t := by
  obtain ⟨h1, h2, h4, h5, h6, h7⟩ := h
  refine ⟨hk, h2.fr hf (fun i hi q => h4 i q hi), fun i hi q => ?_, fun i hi => ?_, h6, h7.trans (hf.below h7.size (fun k hk q => by have := h5 k q; omega))⟩
  · rcases hg i hi with r | r
    · exact h4 i r q
    · have := h2.fb i q; omega
  · rcases hg i hi with r | r
    · exact h5 i r
    · exact Nat.le_trans h7.size r
theorem Tw.right (h : Tw w0 w F G b0 b1 s t) (hk : DAt G' w' b1 t') (hg : Grew G G' w) (hf : Fr G w w') : Tw w0 w' F G' b0 b1 s t' := by
  obtain ⟨h1, h2, h4, h5, h6, h7⟩ := h
  refine ⟨h1.fr hf (fun i hi q => h4 i hi q), hk, fun i hi q => ?_, h5, fun i hi => ?_, h7.trans (hf.below h7.size (fun k hk q => by have := h6 k q; omega))⟩
  · rcases hg i q with r | r
    · exact h4 i hi r
    · have := h1.fb i hi; omega
  · rcases hg i hi with r | r
    · exact h6 i r
    · exact Nat.le_trans h7.size r
end
/-- What stands in the comparison of what the two told. -/
def LvS (w0 w : World) (F G : Nat → Prop) (b0 b1 : Nat) (s : QS) (A1 A2 : Option Addr) (c1 c2 : Nat) (l : List Ch) : Prop :=
  Tw w0 w F G b0 b1 s s ∧ ChRow w (.slice A1 l.length c1) l ∧ ChRow w (.slice A2 l.length c2) l
theorem ChRow.below {w w' : World} {v : Value} {l : List Ch} (h : ChRow w v l) (hb : Below w.heap.size w w') : ChRow w' v l := h.move (fun k hk => hb.block k (h.lt hk))
theorem lvS_step {p p2 : Addr} {u u2 : Value} {w0 w w' : World} {F G : Nat → Prop} {b0 b1 : Nat} {s : QS} {A1 A2 : Option Addr} {c1 c2 : Nat} {l : List Ch} (hb : Below w.heap.size w w') (h : w.cell? p = some u ∧ w.cell? p2 = some u2 ∧ LvS w0 w F G b0 b1 s A1 A2 c1 c2 l) : w'.cell? p = some u ∧ w'.cell? p2 = some u2 ∧ LvS w0 w' F G b0 b1 s A1 A2 c1 c2 l :=
  ⟨(hb.cell (World.block_lt_of_cell? _ _ h.1)).trans h.1, (hb.cell (World.block_lt_of_cell? _ _ h.2.1)).trans h.2.1, h.2.2.1.below hb, h.2.2.2.1.below hb, h.2.2.2.2.below hb⟩
/-- Both queues' values. -/
theorem values_n {F : Nat → Prop} {w : World} {b : Nat} {s : QS} (h : QAt F w b s) {L : List Int} {N : Nat} (hL : s.its.map (·.val) = L) (hN : L.length = N) (hn : N ≤ 100000) : Calls Try.prog 15 #[.pointer (some ⟨b, 0, none⟩)] w fun e w' => ∃ A c, e = .returned (.slice A N c) ∧ UAt w' w'.heap.size A L ∧ Below w.heap.size w w' := by
  have hl : s.its.length = N := by rw [← hN, ← hL, List.length_map]
  refine (values_any h (by omega)).mono ?_
  rintro e w' ⟨v, rfl, hr, ho, hb⟩
  rw [hL] at hr
  obtain ⟨A, c, rfl, hc, hat⟩ := hr.at_
  subst hN
  exact ⟨A, c, rfl, hat, hb⟩
theorem dvalues_n {F : Nat → Prop} {w : World} {b : Nat} {s : QS} (h : DAt F w b s) {L : List Int} {N : Nat} (hL : s.its.map (·.val) = L) (hN : L.length = N) (hn : N ≤ 100000) : Calls Try.prog 25 #[.pointer (some ⟨b, 0, none⟩)] w fun e w' => ∃ A c, e = .returned (.slice A N c) ∧ UAt w' w'.heap.size A L ∧ Below w.heap.size w w' := by
  have hl : s.its.length = N := by rw [← hN, ← hL, List.length_map]
  refine (dvalues_any h (by omega)).mono ?_
  rintro e w' ⟨v, rfl, hr, ho, hb⟩
  rw [hL] at hr
  obtain ⟨A, c, rfl, hc, hat⟩ := hr.at_
  subst hN
  exact ⟨A, c, rfl, hat, hb⟩
theorem dfind_n {F : Nat → Prop} {w : World} {b : Nat} {s : QS} (h : DAt F w b s) (hn : s.ws.length ≤ 1000000) (n : Int) : Calls Try.prog 27 #[.pointer (some ⟨b, 0, none⟩), .int .i64 n] w fun e w' => (∃ p : Option Addr, e = .returned (.pointer p) ∧ p.isSome = s.busy n) ∧ w = w' := by
  obtain ⟨I, iv, qv, hR, hws⟩ := h
  have hIl : I.length ≤ 1000000 := by rw [hws] at hn; simpa [wsOf] using hn
  refine (dfind_any hR hIl n).mono ?_
  rintro e w' ⟨rfl, rfl⟩
  refine ⟨⟨_, rfl, ?_⟩, rfl⟩
  unfold QS.busy findB
  rw [hws, aget_ws]
  cases I.find? (fun x => decide (x.n = n)) <;> rfl
theorem dgiven {F : Nat → Prop} {w : World} {b : Nat} {s : QS} (h : DAt F w b s) : w.cell? ⟨b, 2, none⟩ = some (.int .i64 s.gv) := by
  obtain ⟨I, iv, qv, hR, hws⟩ := h
  rw [cell_of_row w b 2 _ _ _ hR.blk]; rfl
theorem beside_of {G : Nat → Prop} {B : Nat} (hG : ∀ i, G i → B ≤ i) {α : Type} {f : α → List Value} {sz : Nat} {w : World} {A : Option Addr} {l : List α} (hr : RowAt f sz w B A l) (hl : l ≠ []) : Beside G A := fun b off e hF => by
  have := hr.block hl e
  have := hG b hF
  omega
set_option maxRecDepth 100000 in
set_option maxHeartbeats 8000000 in
theorem lives_any (A : Option Addr) (l : List QOp) (c : Nat) (w : World) (hl : OpsAt w w.heap.size A l) :
    Calls Try.prog 6 #[.slice A l.length c] w fun e w' => e = .returned (.bool true) ∧ Below w.heap.size w w' := by
  go_enter Try.func6, Try.ntmps6
  go_wp2_with fail
  refine (new_any w).mono ?_
  rintro e w1 ⟨rfl, hw1⟩
  have hk1 : QAt (fun i => i = w.heap.size) w1 w.heap.size QS.new := hw1 ▸ ⟨[], _, _, QR.new w, rfl⟩
  have hs1 : w1.heap.size = w.heap.size + 1 := by rw [hw1]; simp
  have hb1 : Below w.heap.size w w1 := by rw [hw1]; exact (Below.refl _ _).alloc (Nat.le_refl _) _
  have hd1 : DAt (fun i => i = w1.heap.size) (w1.alloc (.cells #[.slice none 0 0, .slice none 0 0, .int .i64 0] 55)) w1.heap.size QS.new := ⟨[], _, _, DQR.new w1, rfl⟩
  have hb2 : Below w1.heap.size w1 (w1.alloc (.cells #[.slice none 0 0, .slice none 0 0, .int .i64 0] 55)) := (Below.refl _ _).alloc (Nat.le_refl _) _
  have ht0 : Tw w (w1.alloc (.cells #[.slice none 0 0, .slice none 0 0, .int .i64 0] 55)) (fun i => i = w.heap.size) (fun i => i = w1.heap.size) w.heap.size w1.heap.size QS.new QS.new :=
    ⟨hk1.below hb2, hd1, fun i hi q => by omega, fun i hi => by omega, fun i hi => by omega, hb1.trans (hb2.mono hb1.size)⟩
  have HT0 := hid ht0
  clear hk1 hb1 hd1 hb2 ht0 hw1 hs1
  go_wp2_with fail
  generalize (fun i => i = w.heap.size) = F0 at *
  generalize (fun i => i = w1.heap.size) = G0 at *
  generalize hW2 : w1.alloc (.cells #[.slice none 0 0, .slice none 0 0, .int .i64 0] 55) = wx at *
  obtain ⟨b0, hb0⟩ : ∃ b0, b0 = w.heap.size := ⟨_, rfl⟩
  obtain ⟨b1, hb1⟩ : ∃ b1, b1 = w1.heap.size := ⟨_, rfl⟩
  rw [← hb1] at HT0 ⊢
  have HT1 : Hid (Tw w wx F0 G0 b0 b1 QS.new QS.new) := hid (by rw [hb0]; exact HT0.out)
  rw [← hb0]
  clear HT0 hW2 hb1 hb0
  go_loopg [5] 61 (fun m v wr => ∃ (i : Nat) (F G : Nat → Prop) (s : QS), v = .int .i64 i ∧ i ≤ l.length ∧ i ≤ 60 ∧ m = 61 - i ∧ s.Ok ∧ Tw w wr F G b0 b1 s s)
  case atStart => exact ⟨0, F0, G0, QS.new, rfl, Nat.zero_le _, Nat.zero_le _, rfl, QS.Ok.new, HT1.out⟩
  case round =>
    obtain ⟨i, F, G, s, rfl, hi1, hi2, hm, hok, ht⟩ := hrel
    have HN := hid hm
    have HT := hid ht
    have HOK := hid hok
    clear hm ht hok HT1
    by_cases h1 : i < l.length
    · by_cases h2 : (i : Int) < 60
      · obtain ⟨x, hx⟩ : ∃ x, l[i]? = some x := ⟨_, List.getElem?_eq_getElem h1⟩
        obtain ⟨b, off, rfl, hb, hc, hch⟩ := (hl.below HT.out.2.2.2.2.2) i x hx
        have k0 : wr.cell? ⟨b, off + i * 6, none⟩ = some (.int .i64 x.kind) := hc 0 _ rfl
        have k1 := hc 1 _ rfl
        have k2 := hc 2 _ rfl
        have k3 := hc 3 _ rfl
        have k4 : wr.cell? ⟨b, off + i * 6 + 4, none⟩ = some (.slice x.la x.l.length x.lc) := hc 4 _ rfl
        have k5 : wr.cell? ⟨b, off + i * 6 + 5, none⟩ = some (.slice x.va x.v.length x.vc) := hc 5 _ rfl
        have HCH := hid hch
        have HK := hid (fun w2 (f : Below w.heap.size wr w2) => (⟨(f.cell hb).trans k0, (f.cell hb).trans k1, (f.cell hb).trans k2, (f.cell hb).trans k3, (f.cell hb).trans k4, (f.cell hb).trans k5⟩ : w2.cell? ⟨b, off + i * 6, none⟩ = some (.int .i64 x.kind) ∧ w2.cell? ⟨b, off + i * 6 + 1, none⟩ = some (.int .i64 x.work) ∧ w2.cell? ⟨b, off + i * 6 + 2, none⟩ = some (.int .i64 x.next) ∧ w2.cell? ⟨b, off + i * 6 + 3, none⟩ = some (.int .u64 x.val) ∧ w2.cell? ⟨b, off + i * 6 + 4, none⟩ = some (.slice x.la x.l.length x.lc) ∧ w2.cell? ⟨b, off + i * 6 + 5, none⟩ = some (.slice x.va x.v.length x.vc)))
        have HLG := hid (long_any x wr)
        clear hc hx hch
        cases h30 : longQ x
        · obtain ⟨q1, q2⟩ := longQ_false h30
          rw [h30] at HLG
          clear h30
          go_wp2_with fail
          refine HLG.out.mono ?_
          rintro e w1' ⟨rfl, f1⟩
          clear HLG
          have HT1 := hid (HT.out.below f1)
          have hsz1 := HT1.out.2.2.2.2.2.size
          have f1' : Below w.heap.size wr w1' := f1.mono HT.out.2.2.2.2.2.size
          have HCH1 := hid (HCH.out.below f1')
          have HK1 := hid (fun w2 (f : Below w.heap.size w1' w2) => HK.out w2 (f1'.trans f))
          clear k0 k1 k2 k3 k4 k5
          obtain ⟨k0, k1, k2, k3, k4, k5⟩ := HK.out w1' f1'
          have HC := hid (call_any HT1.out.1 HOK.out x (fun _ => ⟨HCH1.out.1.up hsz1, beside_of HT1.out.2.2.2.1 HCH1.out.1, by omega⟩) (fun _ => ⟨HCH1.out.2.2.1.up hsz1, beside_of HT1.out.2.2.2.1 HCH1.out.2.2.1, HCH1.out.2.2.2, by omega⟩))
          have HBE := hid (⟨beside_of HT1.out.2.2.2.2.1 HCH1.out.1, beside_of HT1.out.2.2.2.2.1 HCH1.out.2.2.1⟩ : (x.l ≠ [] → Beside G x.la) ∧ (x.v ≠ [] → Beside G x.va))
          have hok' := HOK.out.call x
          have hll := callQ_list_len HOK.out x
          have HOK2 := hid hok'
          clear hok' HT HCH HK f1
          go_wp2_with fail
          refine HC.out.mono ?_
          unfold CallPost
          rintro e w2 ⟨v2, F2, rfl, hk2, hg2, hf2, hr2, ho2⟩
          have ht2 := HT1.out.left hk2 hg2 hf2
          have hb2 : Below w.heap.size w1' w2 := hf2.below hsz1 (fun k hk q => by have := HT1.out.2.2.2.1 k q; omega)
          have hGlt : ∀ k, G k → k < w1'.heap.size := HT1.out.2.1.fb
          have hch2 := HCH1.out.below hb2
          have hsz2 := ht2.2.2.2.2.2.size
          have hm2 := model_any ht2.2.1 HOK.out x (fun _ => ⟨hch2.1.up hsz2, HBE.out.1, by omega⟩) (fun _ => ⟨hch2.2.2.1.up hsz2, HBE.out.2, by omega⟩)
          unfold DCallPost at hm2
          have hcs : ((callQ s x).1.1, (callQ s x).1.2.1, (callQ s x).1.2.2, (callQ s x).2) = ((callQ s x).1.1, (callQ s x).1.2.1, (callQ s x).1.2.2, (callQ s x).2) := rfl
          clear hcs
          generalize callQ s x = R at *
          obtain ⟨⟨ra, rl, re⟩, s'⟩ := R
          simp only at hk2 hr2 hm2 hll ht2 HOK2 ⊢
          have HT2 := hid ht2
          have HM2 := hid hm2
          have HR2 := hid hr2
          have HO2 := hid ho2
          have HF2 := hid hf2
          have HK2 := hid (fun w3 (f : Below w.heap.size w2 w3) => HK1.out w3 (hb2.trans f))
          clear k0 k1 k2 k3 k4 k5
          obtain ⟨k0, k1, k2, k3, k4, k5⟩ := HK1.out w2 hb2
          clear ht2 hm2 hr2 ho2 hk2 hg2 hf2 HC HT1 hch2 HCH1 HK1 HBE
          go_wp2_with fail
          refine HM2.out.mono ?_
          rintro e w3 ⟨v3, G3, rfl, hd3, hg3, hf3, hr3, ho3⟩
          have ht3 := HT2.out.right hd3 hg3 hf3
          have hb3 : Below w.heap.size w2 w3 := hf3.below hsz2 (fun k hk q => by have := HT2.out.2.2.2.2.1 k q; omega)
          have hv2 := HR2.out.move (fun k hk => hf3.block k (HR2.out.lt hk) (fun q => by have := (HO2.out k hk).1; have := hGlt k q; omega))
          have ho : ∀ k, v2.ownBlock = some k → ¬ F2 k ∧ ¬ G3 k ∧ w.heap.size ≤ k := fun k hk => ⟨(HO2.out k hk).2, fun q => by
            rcases hg3 k q with r | r
            · have := (HO2.out k hk).1; have := hGlt k r; omega
            · have := HR2.out.lt hk; omega, Nat.le_trans hsz1 (HO2.out k hk).1⟩
          obtain ⟨A1, c1, hv, hc1, _⟩ := hv2.at_
          subst hv
          obtain ⟨A2, c2, hv, hc2, _⟩ := hr3.at_
          subst hv
          clear k0 k1 k2 k3 k4 k5
          obtain ⟨k0, k1, k2, k3, k4, k5⟩ := HK2.out w3 hb3
          have hS : w3.cell? ⟨b, off + i * 6 + 1, none⟩ = some (.int .i64 x.work) ∧ w3.cell? ⟨b1, 2, none⟩ = some (.int .i64 s'.gv) ∧ LvS w w3 F2 G3 b0 b1 s' A1 A2 c1 c2 rl := ⟨k1, dgiven ht3.2.1, ht3, hv2, hr3⟩
          have HO := hid ho
          have da : (ra != ra) = false := by simp
          have de : (re != re) = false := by simp
          have hg0 := HOK2.out.g0
          have hg1 := HOK2.out.g1
          have hw1 : IntKind.i64.wrap (s'.gv + 1) = s'.gv + 1 := wr64 (by omega) (by omega)
          have dg : (s'.gv + 1 != s'.gv + 1) = false := by simp
          have hwl := HOK2.out.ws_le
          obtain ⟨L, hL⟩ : ∃ L, s'.its.map (·.val) = L := ⟨_, rfl⟩
          obtain ⟨N, hN⟩ : ∃ N, L.length = N := ⟨_, rfl⟩
          have hN0 : N ≤ 16 := by have := HOK2.out.sz; rw [← hN, ← hL, List.length_map]; omega
          have K1 : Hid (∀ w', LvS w w' F2 G3 b0 b1 s' A1 A2 c1 c2 rl → Calls Try.prog 24 #[.slice A1 rl.length c1, .slice A2 rl.length c2] w' fun e w'' => e = .returned (.bool true) ∧ ∃ q, w'' = w'.drewN q) := hid (fun w' h => by
            obtain ⟨A1', c1', e1, _, h1⟩ := h.2.1.at_
            obtain ⟨A2', c2', e2, _, h2⟩ := h.2.2.at_
            cases e1
            cases e2
            exact samech_any _ _ _ _ _ _ _ h1 h2 (by omega))
          have K2 : Hid (∀ w', LvS w w' F2 G3 b0 b1 s' A1 A2 c1 c2 rl → Calls Try.prog 15 #[.pointer (some ⟨b0, 0, none⟩)] w' fun e w'' => ∃ A c, e = .returned (.slice A N c) ∧ UAt w'' w''.heap.size A L ∧ Below w'.heap.size w' w'') := hid (fun w' h => values_n h.1.1 hL hN (by omega))
          have K3 : Hid (∀ w', LvS w w' F2 G3 b0 b1 s' A1 A2 c1 c2 rl → Calls Try.prog 25 #[.pointer (some ⟨b1, 0, none⟩)] w' fun e w'' => ∃ A c, e = .returned (.slice A N c) ∧ UAt w'' w''.heap.size A L ∧ Below w'.heap.size w' w'') := hid (fun w' h => dvalues_n h.1.2.1 hL hN (by omega))
          have K4 : Hid (∀ w' A c A' c', UAt w' w'.heap.size A L → UAt w' w'.heap.size A' L → Calls Try.prog 14 #[.slice A N c, .slice A' N c'] w' fun e w'' => e = .returned (.bool true) ∧ ∃ q, w'' = w'.drewN q) := hid (fun w' A c A' c' h h' => same_n hN h h' (by omega))
          have K5 : Hid (∀ w', LvS w w' F2 G3 b0 b1 s' A1 A2 c1 c2 rl → Calls Try.prog 17 #[.pointer (some ⟨b0, 0, none⟩)] w' fun e w'' => e = .returned (.int .i64 (s'.gv + 1)) ∧ w' = w'') := hid (fun w' h => next_any h.1.1 (by omega) (by omega))
          generalize hbz : s'.busy x.work = bz
          have K6 : Hid (∀ w', LvS w w' F2 G3 b0 b1 s' A1 A2 c1 c2 rl → Calls Try.prog 26 #[.pointer (some ⟨b0, 0, none⟩), .int .i64 x.work] w' fun e w'' => e = .returned (.bool bz) ∧ w' = w'') := hid (fun w' h => by rw [← hbz]; exact busy_any h.1.1 (by omega) x.work)
          have K7 : Hid (∀ w', LvS w w' F2 G3 b0 b1 s' A1 A2 c1 c2 rl → Calls Try.prog 27 #[.pointer (some ⟨b1, 0, none⟩), .int .i64 x.work] w' fun e w'' => (∃ p : Option Addr, e = .returned (.pointer p) ∧ (p.isSome = bz)) ∧ w' = w'') := hid (fun w' h => by rw [← hbz]; exact dfind_n h.1.2.1 (by omega) x.work)
          clear k0 k1 k2 k3 k4 k5 ht3 hv2 hr3 hd3 hg3 hf3 HT2 HM2 HR2 HO2 HF2 ho3 hGlt ho HK2 hwl hL hN hbz
          cases bz
          · have K7' : Hid (∀ w', LvS w w' F2 G3 b0 b1 s' A1 A2 c1 c2 rl → Calls Try.prog 27 #[.pointer (some ⟨b1, 0, none⟩), .int .i64 x.work] w' fun e w'' => e = .returned (.pointer none) ∧ w' = w'') := hid (fun w' h => (K7.out w' h).mono (by
              rintro e w'' ⟨⟨p, rfl, hp⟩, rfl⟩
              cases p
              · exact ⟨rfl, rfl⟩
              · simp at hp))
            clear K7
            go_wp2_with fail
            go_region_held3 (fun w' => w'.cell? ⟨b, off + i * 6 + 1, none⟩ = some (.int .i64 x.work) ∧ w'.cell? ⟨b1, 2, none⟩ = some (.int .i64 s'.gv) ∧ LvS w w' F2 G3 b0 b1 s' A1 A2 c1 c2 rl) (first | exact lvS_step (bd1 _) (by assumption) | exact lvS_step (bdN _ _) (by assumption) | exact lvS_step (by assumption) (by assumption) | assumption) (first
                | (go_at_call 24; refine (K1.out _ ((by assumption : _ ∧ _ ∧ LvS w _ F2 G3 b0 b1 s' A1 A2 c1 c2 rl).2.2)).mono ?_; rintro e w4 ⟨rfl, n4, rfl⟩)
                | (go_at_call 15; refine (K2.out _ ((by assumption : _ ∧ _ ∧ LvS w _ F2 G3 b0 b1 s' A1 A2 c1 c2 rl).2.2)).mono ?_; rintro e w5 ⟨A5, c5, rfl, u5, f5⟩)
                | (go_at_call 25; refine (K3.out _ ((by assumption : _ ∧ _ ∧ LvS w _ F2 G3 b0 b1 s' A1 A2 c1 c2 rl).2.2)).mono ?_; rintro e w6 ⟨A6, c6, rfl, u6, f6⟩)
                | (go_at_call 14; refine (K4.out _ _ _ _ _ (UAt.up2 (by assumption) (by assumption)) (by assumption)).mono ?_; rintro e w7 ⟨rfl, n7, rfl⟩)
                | (go_at_call 17; refine (K5.out _ ((by assumption : _ ∧ _ ∧ LvS w _ F2 G3 b0 b1 s' A1 A2 c1 c2 rl).2.2)).mono ?_; rintro e w8 ⟨rfl, rfl⟩)
                | (go_at_call 26; refine (K6.out _ ((by assumption : _ ∧ _ ∧ LvS w _ F2 G3 b0 b1 s' A1 A2 c1 c2 rl).2.2)).mono ?_; rintro e w9 ⟨rfl, rfl⟩)
                | (go_at_call 27; refine (K7'.out _ ((by assumption : _ ∧ _ ∧ LvS w _ F2 G3 b0 b1 s' A1 A2 c1 c2 rl).2.2)).mono ?_; rintro e wa ⟨rfl, rfl⟩))
            all_goals
              go_wp2_with fail
              clear K1 K2 K3 K4 K5 K6 K7'
              go_loopg [12] (rl.length + 1) (fun m v wq => ∃ (j : Nat) (l' : List Ch), v = .int .i64 j ∧ j ≤ rl.length ∧ m = rl.length + 1 - j ∧ l'.length = rl.length ∧ ChRow wq (.slice A1 rl.length c1) l' ∧ Tw w wq F2 G3 b0 b1 s' s')
              case atStart => exact ⟨0, rl, rfl, Nat.zero_le _, rfl, rfl, (by assumption : _ ∧ _ ∧ LvS w _ F2 G3 b0 b1 s' A1 A2 c1 c2 rl).2.2.2.1, (by assumption : _ ∧ _ ∧ LvS w _ F2 G3 b0 b1 s' A1 A2 c1 c2 rl).2.2.1⟩
              case round =>
                obtain ⟨j, l', rfl, hj, hm2, hll2, hr, htw⟩ := hrel
                have HM := hid hm2
                have HTW := hid htw
                clear hm2 htw
                by_cases hjl : j < rl.length
                · have hrl : eCh.kd.R 43 wr 0 (fun _ => True) (.slice A1 rl.length c1) l' := hr
                  rw [← hll2] at hrl
                  obtain ⟨g, cp, hv, _, hgl, cells, hgc⟩ := Kd.R_form hrl (by omega)
                  have hAg : A1 = some ⟨g, 0, none⟩ := by injection hv
                  subst hAg
                  rw [hll2] at hrl
                  obtain ⟨co, hcl4, hcM, hcc, hcz⟩ := Kd.R_elem hrl ⟨0, 0, 0⟩ (j : Int) (by omega) (by omega)
                  have hcl3 : co.length = 3 := hcl4
                  generalize hy : l'.getD (Int.toNat j) ⟨0, 0, 0⟩ = y at hcM
                  have hco : co = encCh y := hcM
                  have hv2 : wr.cell? ⟨g, j * 3, none⟩ = some (.int .i64 y.kind) := hcc 0 _ (by rw [hco]; rfl)
                  have hj1 : (j : Int) < rl.length := by omega
                  have hj0 : (0 : Int) ≤ j := by omega
                  have hzz' : wr.frozen? ⟨g, j * 3, none⟩ = false := hcz 0
                  have HRL := hid hrl
                  have HCC := hid hcc
                  have HCO := hid hco
                  clear hrl hcc hco hr hgc hcM hy hv hcl4 hcz cells
                  go_wp2_with fail
                  go_roundg (rl.length + 1 - (j + 1))
                  case measure => rw [HM.out]; omega
                  case rel =>
                    have hseg := Kd.R_seg HRL.out (j : Int) (by omega) (by omega) (j := 0) (seg := [.int .i64 77]) (x' := ⟨77, y.key, y.val⟩) hcl3 HCC.out (by simp [eCh, Enc.kd]) (okp := fun _ => False) (by rw [HCO.out]; rfl) (fun _ q => q.elim)
                    have hw : wr.setCells g (Int.toNat (j : Int) * eCh.kd.sz + 0) [.int .i64 77] = wr.setCell ⟨g, j * 3, none⟩ (.int .i64 77) := rfl
                    rw [hw] at hseg
                    have fs : Fr (fun k => k = g) wr (wr.setCell ⟨g, j * 3, none⟩ (.int .i64 77)) := (Fr.of_grown hseg.2).mono (fun j hj => by cases hj; rfl)
                    exact ⟨j + 1, _, by go_num, by omega, rfl, by rw [List.length_set]; exact hll2, hseg.1, HTW.out.fr fs (fun k hk => by subst hk; exact HO.out k rfl)⟩
                · go_wp2_with fail
                  go_roundg (61 - (i + 1))
                  case measure => rw [HN.out]; omega
                  case rel => exact ⟨i + 1, F2, G3, s', by go_num, by omega, by omega, rfl, HOK2.out, HTW.out⟩
          · have K7' : Hid (∀ w', LvS w w' F2 G3 b0 b1 s' A1 A2 c1 c2 rl → Calls Try.prog 27 #[.pointer (some ⟨b1, 0, none⟩), .int .i64 x.work] w' fun e w'' => (∃ p, e = .returned (.pointer (some p))) ∧ w' = w'') := hid (fun w' h => (K7.out w' h).mono (by
              rintro e w'' ⟨⟨p, rfl, hp⟩, rfl⟩
              cases p
              · simp at hp
              · exact ⟨⟨_, rfl⟩, rfl⟩))
            clear K7
            go_wp2_with fail
            go_region_held3 (fun w' => w'.cell? ⟨b, off + i * 6 + 1, none⟩ = some (.int .i64 x.work) ∧ w'.cell? ⟨b1, 2, none⟩ = some (.int .i64 s'.gv) ∧ LvS w w' F2 G3 b0 b1 s' A1 A2 c1 c2 rl) (first | exact lvS_step (bd1 _) (by assumption) | exact lvS_step (bdN _ _) (by assumption) | exact lvS_step (by assumption) (by assumption) | assumption) (first
                | (go_at_call 24; refine (K1.out _ ((by assumption : _ ∧ _ ∧ LvS w _ F2 G3 b0 b1 s' A1 A2 c1 c2 rl).2.2)).mono ?_; rintro e w4 ⟨rfl, n4, rfl⟩)
                | (go_at_call 15; refine (K2.out _ ((by assumption : _ ∧ _ ∧ LvS w _ F2 G3 b0 b1 s' A1 A2 c1 c2 rl).2.2)).mono ?_; rintro e w5 ⟨A5, c5, rfl, u5, f5⟩)
                | (go_at_call 25; refine (K3.out _ ((by assumption : _ ∧ _ ∧ LvS w _ F2 G3 b0 b1 s' A1 A2 c1 c2 rl).2.2)).mono ?_; rintro e w6 ⟨A6, c6, rfl, u6, f6⟩)
                | (go_at_call 14; refine (K4.out _ _ _ _ _ (UAt.up2 (by assumption) (by assumption)) (by assumption)).mono ?_; rintro e w7 ⟨rfl, n7, rfl⟩)
                | (go_at_call 17; refine (K5.out _ ((by assumption : _ ∧ _ ∧ LvS w _ F2 G3 b0 b1 s' A1 A2 c1 c2 rl).2.2)).mono ?_; rintro e w8 ⟨rfl, rfl⟩)
                | (go_at_call 26; refine (K6.out _ ((by assumption : _ ∧ _ ∧ LvS w _ F2 G3 b0 b1 s' A1 A2 c1 c2 rl).2.2)).mono ?_; rintro e w9 ⟨rfl, rfl⟩)
                | (go_at_call 27; refine (K7'.out _ ((by assumption : _ ∧ _ ∧ LvS w _ F2 G3 b0 b1 s' A1 A2 c1 c2 rl).2.2)).mono ?_; rintro e wa ⟨⟨pa, rfl⟩, rfl⟩))
            all_goals
              go_wp2_with fail
              clear K1 K2 K3 K4 K5 K6 K7'
              go_loopg [12] (rl.length + 1) (fun m v wq => ∃ (j : Nat) (l' : List Ch), v = .int .i64 j ∧ j ≤ rl.length ∧ m = rl.length + 1 - j ∧ l'.length = rl.length ∧ ChRow wq (.slice A1 rl.length c1) l' ∧ Tw w wq F2 G3 b0 b1 s' s')
              case atStart => exact ⟨0, rl, rfl, Nat.zero_le _, rfl, rfl, (by assumption : _ ∧ _ ∧ LvS w _ F2 G3 b0 b1 s' A1 A2 c1 c2 rl).2.2.2.1, (by assumption : _ ∧ _ ∧ LvS w _ F2 G3 b0 b1 s' A1 A2 c1 c2 rl).2.2.1⟩
              case round =>
                obtain ⟨j, l', rfl, hj, hm2, hll2, hr, htw⟩ := hrel
                have HM := hid hm2
                have HTW := hid htw
                clear hm2 htw
                by_cases hjl : j < rl.length
                · have hrl : eCh.kd.R 43 wr 0 (fun _ => True) (.slice A1 rl.length c1) l' := hr
                  rw [← hll2] at hrl
                  obtain ⟨g, cp, hv, _, hgl, cells, hgc⟩ := Kd.R_form hrl (by omega)
                  have hAg : A1 = some ⟨g, 0, none⟩ := by injection hv
                  subst hAg
                  rw [hll2] at hrl
                  obtain ⟨co, hcl4, hcM, hcc, hcz⟩ := Kd.R_elem hrl ⟨0, 0, 0⟩ (j : Int) (by omega) (by omega)
                  have hcl3 : co.length = 3 := hcl4
                  generalize hy : l'.getD (Int.toNat j) ⟨0, 0, 0⟩ = y at hcM
                  have hco : co = encCh y := hcM
                  have hv2 : wr.cell? ⟨g, j * 3, none⟩ = some (.int .i64 y.kind) := hcc 0 _ (by rw [hco]; rfl)
                  have hj1 : (j : Int) < rl.length := by omega
                  have hj0 : (0 : Int) ≤ j := by omega
                  have hzz' : wr.frozen? ⟨g, j * 3, none⟩ = false := hcz 0
                  have HRL := hid hrl
                  have HCC := hid hcc
                  have HCO := hid hco
                  clear hrl hcc hco hr hgc hcM hy hv hcl4 hcz cells
                  go_wp2_with fail
                  go_roundg (rl.length + 1 - (j + 1))
                  case measure => rw [HM.out]; omega
                  case rel =>
                    have hseg := Kd.R_seg HRL.out (j : Int) (by omega) (by omega) (j := 0) (seg := [.int .i64 77]) (x' := ⟨77, y.key, y.val⟩) hcl3 HCC.out (by simp [eCh, Enc.kd]) (okp := fun _ => False) (by rw [HCO.out]; rfl) (fun _ q => q.elim)
                    have hw : wr.setCells g (Int.toNat (j : Int) * eCh.kd.sz + 0) [.int .i64 77] = wr.setCell ⟨g, j * 3, none⟩ (.int .i64 77) := rfl
                    rw [hw] at hseg
                    have fs : Fr (fun k => k = g) wr (wr.setCell ⟨g, j * 3, none⟩ (.int .i64 77)) := (Fr.of_grown hseg.2).mono (fun j hj => by cases hj; rfl)
                    exact ⟨j + 1, _, by go_num, by omega, rfl, by rw [List.length_set]; exact hll2, hseg.1, HTW.out.fr fs (fun k hk => by subst hk; exact HO.out k rfl)⟩
                · go_wp2_with fail
                  go_roundg (61 - (i + 1))
                  case measure => rw [HN.out]; omega
                  case rel => exact ⟨i + 1, F2, G3, s', by go_num, by omega, by omega, rfl, HOK2.out, HTW.out⟩
        · rw [h30] at HLG
          clear h30
          go_wp2_with fail
          refine HLG.out.mono ?_
          rintro e w2 ⟨rfl, f2⟩
          go_wp2_with fail
          refine (alive_any _).mono ?_
          rintro e w3 ⟨rfl, f3⟩
          go_wp2_with fail
          go_ret
          have hf := HT.out.2.2.2.2.2.trans (f2.mono HT.out.2.2.2.2.2.size)
          exact ⟨rfl, hf.trans (f3.mono hf.size)⟩
      · go_wp2_with fail
        refine (alive_any _).mono ?_
        rintro e w2 ⟨rfl, f2⟩
        go_wp2_with fail
        go_ret
        exact ⟨rfl, HT.out.2.2.2.2.2.trans (f2.mono HT.out.2.2.2.2.2.size)⟩
    · go_wp2_with fail
      refine (alive_any _).mono ?_
      rintro e w2 ⟨rfl, f2⟩
      go_wp2_with fail
      go_ret
      exact ⟨rfl, HT.out.2.2.2.2.2.trans (f2.mono HT.out.2.2.2.2.2.size)⟩
end Go.Proofs.Ytmckdoiepmkbbaa
