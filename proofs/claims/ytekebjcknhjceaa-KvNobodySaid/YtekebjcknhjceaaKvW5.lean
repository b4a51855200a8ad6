/- Walks of the store of keys: Prepare, Commit. Conditions: the store reads as KvAt says. -/
import Derived.Test.YtekebjcknhjceaaKvW4
namespace Go.Proofs.Ytekebjcknhjceaa
open Go.RowKit Go.Mine Go.Proofs.YtekebjcknhjceaaW.PrintWords
open Go.ChangeMaps (setBlock)
set_option linter.unusedVariables false
set_option linter.unusedSimpArgs false

def PrepPost (F : Nat → Prop) (w : World) (b0 : Nat) (s : KS) (n : Int) (e : Ending) (w' : World) : Prop :=
  ∃ v, e = .returned (.tuple #[v, .int .i64 (s.prepare n).1.2]) ∧ (∃ F', KvAt F' w' b0 (s.prepare n).2 ∧ Grew F F' w ∧ (∀ k, v.ownBlock = some k → w.heap.size ≤ k ∧ ¬ F' k)) ∧ ChRow w' v (s.prepare n).1.1 ∧ Fr F w w'
theorem prep_low {s : KS} {n : Int} (h : n < 1) : s.prepare n = (([], 1), s) := by simp [KS.prepare, h]
theorem prep_none {s : KS} {n : Int} (h : ¬ n < 1) (hg : aget n s.ws = none) : s.prepare n = (([], 0), s.gone n) := by simp [KS.prepare, h, hg]
theorem prep_again {s : KS} {n : Int} {v : KW} (h : ¬ n < 1) (hg : aget n s.ws = some v) (hp : v.p = true) : s.prepare n = (([], 7), s) := by simp [KS.prepare, h, hg, hp]
theorem prep_empty {s : KS} {n : Int} {v : KW} (h : ¬ n < 1) (hg : aget n s.ws = some v) (hp : v.p = false) (hl : v.l = []) : s.prepare n = (([], 0), s.gone n) := by simp [KS.prepare, h, hg, hp, hl]
theorem prep_done {s : KS} {n : Int} {v : KW} (h : ¬ n < 1) (hg : aget n s.ws = some v) (hp : v.p = false) (hl : v.l ≠ []) : s.prepare n = ((v.l, 0), { s with ws := aput n ⟨v.l, true⟩ s.ws }) := by simp [KS.prepare, h, hg, hp, hl]

set_option maxRecDepth 100000 in
set_option maxHeartbeats 4000000 in
theorem prepare_any {F : Nat → Prop} {w : World} {b0 : Nat} {s : KS} (h : KvAt F w b0 s) (n : Int) :
    Calls Try.prog 15 #[.pointer (some ⟨b0, 0, none⟩), .int .i64 n] w (PrepPost F w b0 s n) := by
  have hgone := gone_any h n
  have hat := h
  obtain ⟨hok, I, L, mo, lo, h, hws⟩ := h
  have hl := run_lookupO Try.underlying64 key3 h.map (zero77 w) n false
  simp only [Bool.false_eq_true, if_false] at hl
  rw [mget_ws h n] at hl
  have hg := aget_ws n I
  rw [← hws] at hg
  have hc : w.cell? ⟨b0, 32, none⟩ = some (.map mo) := by rw [cell_of_row w b0 32 _ _ _ h.blk]; exact sc32 h.lv h.lth mo lo
  have HOK := hid hok
  have HW := hid hws
  have HAT := hid hat
  have HGN := hid hgone
  have H := hid h
  clear hok hws hat hgone h
  go_enter Try.func15, Try.ntmps15
  go_wp2_with fail
  refine (fit_any _ _ _).mono ?_
  rintro e w1 ⟨rfl, rfl⟩
  by_cases hn : n < 1
  · have HE := hid (prep_low (s := s) hn)
    simp only [reduceCtorEq, if_false, hn, if_true]
    go_wp2_with fail
    go_ret2
    refine ⟨.slice none 0 0, by rw [HE.out]; rfl, ⟨F, by rw [HE.out]; exact HAT.out, Grew.refl _ _, fun k hk => by simp [Value.ownBlock] at hk⟩, by rw [HE.out]; exact ChRow.none_ _, Fr.refl _ _⟩
  · simp only [reduceCtorEq, if_false, hn]
    have HNN := hid hn
    clear hn
    cases hf : I.find? (fun x => decide (x.n = n)) with
    | none =>
      rw [hf] at hl hg
      simp only [Option.map_none, Option.getD_none] at hl hg
      have HE := hid (prep_none HNN.out hg)
      clear hf hg
      go_wp2_with fail
      refine HGN.out.mono ?_
      rintro e w2 ⟨rfl, ⟨F', h2, g2⟩, f2⟩
      go_wp2_with fail
      go_ret2
      exact ⟨.slice none 0 0, by rw [HE.out]; rfl, ⟨F', by rw [HE.out]; exact h2, g2, fun k hk => by simp [Value.ownBlock] at hk⟩, by rw [HE.out]; exact ChRow.none_ _, f2⟩
    | some x =>
      obtain ⟨I1, I2, hI, hxn⟩ := find_split hf
      subst hI
      have hx := H.out.wk x (by simp)
      rw [hf] at hl hg
      simp only [Option.map_some, Option.getD_some] at hl hg
      have hcp : w.cell? ⟨x.wb, 1, none⟩ = some (.bool x.p) := by rw [cell_of_row w x.wb 1 _ _ _ hx.2.1]; rfl
      have hcl : w.cell? ⟨x.wb, 0, none⟩ = some x.v := by rw [cell_of_row w x.wb 0 _ _ _ hx.2.1]; rfl
      obtain ⟨A, c, hv, hAc, hch⟩ := hx.2.2.1.at_
      have hlen : x.l.length ≤ 16 := (HOK.out.chs _ (aget_mem hg)).len
      rw [hv] at hcl
      have hrw : RW x.l := HOK.out.chs _ (aget_mem hg)
      have HRW := hid hrw
      have HG := hid hg
      have HX := hid hx
      have HV := hid hv
      have HXN := hid hxn
      have HCH := hid hch
      clear hf hg hx hv hrw hxn hch
      cases hxp : x.p
      · rw [hxp] at hcp
        by_cases hl0 : x.l = []
        · have HE := hid (prep_empty HNN.out HG.out hxp hl0)
          have hll : (x.l.length : Int) = 0 := by simp [hl0]
          rw [hl0] at hcl
          simp only [List.length_nil] at hcl
          clear hl0
          go_wp2_with fail
          refine HGN.out.mono ?_
          rintro e w2 ⟨rfl, ⟨F', h2, g2⟩, f2⟩
          go_wp2_with fail
          go_ret2
          exact ⟨.slice none 0 0, by rw [HE.out]; rfl, ⟨F', by rw [HE.out]; exact h2, g2, fun k hk => by simp [Value.ownBlock] at hk⟩, by rw [HE.out]; exact ChRow.none_ _, f2⟩
        · have HE := hid (prep_done HNN.out HG.out hxp hl0)
          have hll : ((x.l.length : Int) == 0) = false := by
            have : x.l.length ≠ 0 := fun q => hl0 (List.eq_nil_of_length_eq_zero q)
            simpa using this
          have hz1 : w.frozen? ⟨x.wb, 1, none⟩ = false := by simp [World.frozen?, HX.out.2.1]
          have hcl1 : (w.setCell ⟨x.wb, 1, none⟩ (.bool true)).cell? ⟨x.wb, 0, none⟩ = some (.slice A x.l.length c) := by
            rw [World.cell?_setCell_other _ _ _ _ (by simp)]; exact hcl
          have hf1 : Fr (fun i => i = x.wb ∨ x.v.ownBlock = some i) w (w.setCell ⟨x.wb, 1, none⟩ (.bool true)) := (Fr.refl _ w).setCell (.inl (.inl rfl)) _
          have hb1 : (w.setCell ⟨x.wb, 1, none⟩ (.bool true)).heap[x.wb]? = some (.cells #[x.v, .bool true] 84 (0, 0)) := blk_set HX.out.2.1 1 _
          have hr1 : ChRow (w.setCell ⟨x.wb, 1, none⟩ (.bool true)) x.v x.l := HX.out.2.2.1.move (fun k hk => Below.heap_setCell _ _ _ _ (fun q => (H.out.row_ne (x := x) (by simp) hk).2.2.2 x (by simp) q.symm))
          obtain ⟨hK, hF⟩ := KvAt.work HOK.out H.out HW.out HXN.out HRW.out hf1 hb1 hr1 (.inl rfl)
          have HK := hid hK
          obtain ⟨A', c', hv', _, hch1⟩ := hr1.at_
          have hAA : A' = A := by have := hv'.symm.trans HV.out; injection this
          rw [hAA] at hch1
          have hsz : (w.setCell ⟨x.wb, 1, none⟩ (.bool true)).heap.size = w.heap.size := by simp [World.setCell]
          have HCL := hid (clone_any A x.l c _ _ hch1 (by omega) hAc)
          clear hK hf1 hb1 hr1 hl0 hv' hch1 hAA
          go_wp2_with fail
          refine HCL.out.mono ?_
          rintro e w2 ⟨v2, rfl, hr2, ho2, hb2⟩
          have hK2 := HK.out.below hb2
          have hf2 : Fr F w w2 := hF.trans (Fr.of_below hb2 (Nat.le_refl _)) (fun _ q => q.elim)
          have hlt := HK.out.fb
          go_wp2_with fail
          go_ret2
          refine ⟨v2, by rw [HE.out]; rfl, ⟨_, by rw [HE.out]; exact hK2, grew_more _ _ _, fun k hk => ⟨?_, fun q => ?_⟩⟩, by rw [HE.out]; exact hr2, hf2⟩
          · have := ho2 k hk; omega
          · have := ho2 k hk; have := hlt k q; omega
      · rw [hxp] at hcp
        have HE := hid (prep_again HNN.out HG.out hxp)
        go_wp2_with fail
        go_ret2
        exact ⟨.slice none 0 0, by rw [HE.out]; rfl, ⟨F, by rw [HE.out]; exact HAT.out, Grew.refl _ _, fun k hk => by simp [Value.ownBlock] at hk⟩, by rw [HE.out]; exact ChRow.none_ _, Fr.refl _ _⟩
end Go.Proofs.Ytekebjcknhjceaa
