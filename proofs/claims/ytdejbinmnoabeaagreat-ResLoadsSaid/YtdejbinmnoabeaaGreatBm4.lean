/- Texts of this seat, put together: KvW3. -/
import Derived.Test.YtdejbinmnoabeaaGreatBm3
import Derived.Deep.RegionLaw
namespace Go.Proofs.YtdejbinmnoabeaaGreat.K
variable {Pz : List Value}
open Go.RowKit Go.Mine Go.Proofs.YtdejbinmnoabeaaGreatW.PrintWords
open Go.ChangeMaps (setBlock)
set_option linter.unusedVariables false
set_option linter.unusedSimpArgs false
theorem aput_ws {I1 I2 : List WI} {x : WI} {n : Int} {ws : List (Int × KW)} (hk : ws.Pairwise (fun x y => x.1 ≠ y.1)) (hws : ws = wsOf (I1 ++ x :: I2)) (hn : x.n = n) (v' : Value) (l' : List Ch) (p' : Bool) :
    aput n ⟨l', p'⟩ ws = wsOf (I1 ++ (⟨x.n, x.wb, v', l', p'⟩ : WI) :: I2) := by
  subst hws hn
  have hs : (aget x.n (wsOf (I1 ++ x :: I2))).isSome = true := by
    have : (x.n, (⟨x.l, x.p⟩ : KW)) ∈ wsOf (I1 ++ x :: I2) := by simp [wsOf]
    rw [aget_of_mem hk this]; rfl
  unfold aput
  rw [if_pos hs]
  simp only [wsOf, List.map_append, List.map_cons] at hk ⊢
  rw [List.pairwise_append, List.pairwise_cons] at hk
  obtain ⟨a1, ⟨a2, a3⟩, a4⟩ := hk
  simp only [if_true]
  congr 1
  · conv => rhs; rw [← List.map_id (I1.map _)]
    apply List.map_congr_left
    intro e he
    rw [if_neg (a4 e he _ (List.mem_cons_self ..))]
    rfl
  · congr 1
    conv => rhs; rw [← List.map_id (I2.map _)]
    apply List.map_congr_left
    intro e he
    rw [if_neg (fun q => a2 e he q.symm)]
    rfl
def ChangePost (Pz : List Value) (F : Nat → Prop) (w : World) (b0 : Nat) (s : KS) (n : Int) (c : Ch) (e : Ending) (w' : World) : Prop :=
  ∃ F', e = .returned (.int .i64 (s.change n c).1) ∧ KvAt Pz F' w' b0 (s.change n c).2 ∧ Grew F F' w ∧ Fr F w w'
theorem change_bad {s : KS} {n : Int} {c : Ch} (h : (s.touch n c.key true).1 ≠ 0) : s.change n c = ((s.touch n c.key true).1, (s.touch n c.key true).2) := by unfold KS.change; simp only; rw [if_pos h]
theorem change_good {s : KS} {n : Int} {c : Ch} (h : (s.touch n c.key true).1 = 0) : s.change n c = (0, { (s.touch n c.key true).2 with ws := aput n ⟨putCh c ((s.touch n c.key true).2.listOf n), false⟩ (s.touch n c.key true).2.ws }) := by unfold KS.change; simp only; rw [if_neg (by simp [h])]
theorem KvAt.work {F : Nat → Prop} {w w' : World} {b0 : Nat} {t : KS} {I1 I2 : List WI} {x : WI} {L : List (Int × Nat × Nat)} {mo lo : Option Nat} {n : Int} (hok : t.Ok) (hR : KvR Pz F w b0 t.vs t.th t.lk (I1 ++ x :: I2) L mo lo) (hws : t.ws = wsOf (I1 ++ x :: I2)) (hn : x.n = n)
    {v' : Value} {l' : List Ch} {p' : Bool} (hl' : RW l') (hf : Fr (fun i => i = x.wb ∨ x.v.ownBlock = some i) w w') (hb : w'.heap[x.wb]? = some (.cells #[v', .bool p'] 133 (0, 0))) (hr : ChRow w' v' l') (hv : v'.ownBlock = x.v.ownBlock ∨ ∃ b, v'.ownBlock = some b ∧ w.heap.size ≤ b) :
    KvAt Pz (more F w w') w' b0 { t with ws := aput n ⟨l', p'⟩ t.ws } ∧ Fr F w w' := by
  refine ⟨⟨hok.aputs n _ hl', _, L, mo, lo, hR.work hf hb hr hv, aput_ws hok.keys hws hn v' l' p'⟩, hf.mono (fun i hi => ?_)⟩
  have hx := hR.wk x (by simp)
  rcases hi with q | q
  · exact q ▸ hx.1
  · exact hx.2.2.2 i q
set_option maxRecDepth 100000 in
set_option maxHeartbeats 4000000 in
theorem change_any {F : Nat → Prop} {w : World} {b0 : Nat} {s : KS} (h : KvAt Pz F w b0 s) (n : Int) (c : Ch) (hc : c.kind = 1 ∨ (c.kind = 2 ∧ c.val = 0)) :
    Calls Tryz.prog 78 #[.pointer (some ⟨b0, 0, none⟩), .int .i64 n, .agg #[.int .i64 c.kind, .int .i64 c.key, .int .u64 c.val]] w (ChangePost Pz F w b0 s n c) := by
  have hfa : Fr (fun _ => False) w (w.alloc (.cells #[.int .i64 c.kind, .int .i64 c.key, .int .u64 c.val] 90)) := (Fr.refl _ w).alloc _
  have h0 := h.fr hfa (fun _ _ => id)
  have hbx : (w.alloc (.cells #[.int .i64 c.kind, .int .i64 c.key, .int .u64 c.val] 90)).heap[w.heap.size]? = some (.cells #[.int .i64 c.kind, .int .i64 c.key, .int .u64 c.val] 90 (0, 0)) := (MapKept.heap_alloc w _).1
  have hbk := cell_of_row _ _ 1 _ _ _ hbx
  have ht := touch_any h0 n c.key true
  have HT := hid ht
  have HBX := hid hbx
  have HC := hid hc
  clear ht hbx h0 hc
  go_enter Tryz.func78, Tryz.ntmps78
  go_wp2_with fail
  refine HT.out.mono ?_
  rintro e w1 ⟨p, F1, rfl, h1, g1, f1, hw1⟩
  have hFb : ¬ F w.heap.size := fun q => by have := h.fb _ q; omega
  have fr1 : Fr F w w1 := (hfa.mono (fun _ q => q.elim)).trans f1 (fun i q => .inl q)
  have gr1 : Grew F F1 w := fun i q => (g1 i q).imp id (fun r => Nat.le_trans hfa.size r)
  have hb1 := f1.at_ HBX.out hFb
  cases hz : ((s.touch n c.key true).1 != 0)
  · have h0 : (s.touch n c.key true).1 = 0 := by simpa using hz
    have HE := hid (change_good h0)
    have hk0 := (touch_zero h0).2.1
    have hk16 := (touch_zero h0).2.2.1
    obtain ⟨wb, rfl, hok, I1, x, I2, L, mo, lo, hR, hws, hxn, hxp, rfl⟩ := hw1 h0
    generalize (s.touch n c.key true).2 = t at *
    generalize (s.touch n c.key true).1 = e1 at *
    have hag := wk_list (F := F1) (w := w1) (b0 := b0) hok hws hxn
    have hli : t.listOf n = x.l := by simp [KS.listOf, hag]
    have hx := hR.wk x (by simp)
    have hrw := hok.chs _ (aget_mem hag)
    have hlen : x.l.length ≤ 16 := hrw.len
    have hRWp := RW.put hrw ((chOk_iff c).2 ⟨HC.out, hk0, hk16⟩)
    rw [hli] at HE
    have HRW := hid hRWp
    have HWS := hid hws
    have HOK := hid hok
    have HX := hid hx
    have HR := hid hR
    have HXN := hid hxn
    have HXP := hid hxp
    have hbk1 := cell_of_row w1 _ 1 _ _ _ hb1
    have HB1 := hid hb1
    have HWB := hid (hR.wb_ne (x := x) (by simp))
    subst h0
    clear hRWp hrw hw1 hws hok hxp hxn hag hx hR hli h1 hz HT h hb1
    go_wp2_with fail
    go_still_tail 5, (by kernel_rfl)
    change wpList _ _ _ _ _ w1.drew
    have fd : Fr (fun _ => False) w1 w1.drew := (Fr.refl _ w1).drew
    have HX' := hid (wk_fr fd HX.out (by simp) (by simp) (fun _ q => q))
    have HR' := hid (HR.out.fr fd (fun _ _ => id))
    have HB' := hid (fd.at_ HB1.out id)
    have frd : Fr F w w1.drew := fr1.drew
    have hsz : w1.drew.heap.size = w1.heap.size := rfl
    clear HX HR HB1 hbk1 fd hbk f1
    have gr1' : Grew F F1 w := gr1
    generalize w1.drew = wd at *
    have hc0 : wd.cell? ⟨x.wb, 0, none⟩ = some x.v := by rw [cell_of_row wd x.wb 0 _ _ _ HX'.out.2.1]; rfl
    have hat := at_any x.wb x.v x.l c.key wd hc0 HX'.out.2.2.1 (by omega)
    have HAT := hid hat
    clear hat
    go_wp2_with fail
    refine HAT.out.mono ?_
    rintro e w2 ⟨rfl, f2⟩
    have f2r : Fr (fun _ => False) wd w2 := Fr.of_below f2 (Nat.le_refl _)
    have hX2 := wk_fr f2r HX'.out (by simp) (by simp) (fun _ q => q)
    have hR2 := HR'.out.fr f2r (fun _ _ => id)
    have hb2 := f2r.at_ HB'.out id
    have fr2 : Fr F w w2 := frd.trans f2r (fun i q => q.elim)
    have hlt2 := hR2.fb
    clear HAT hc0 f2 HX' HR' HB'
    have hc2 : w2.cell? ⟨x.wb, 0, none⟩ = some x.v := by rw [cell_of_row w2 x.wb 0 _ _ _ hX2.2.1]; rfl
    have kb0 : w2.cell? ⟨w.heap.size, 0, none⟩ = some (.int .i64 c.kind) := by rw [cell_of_row w2 _ 0 _ _ _ hb2]; rfl
    have kb1 : w2.cell? ⟨w.heap.size, 1, none⟩ = some (.int .i64 c.key) := by rw [cell_of_row w2 _ 1 _ _ _ hb2]; rfl
    have kb2 : w2.cell? ⟨w.heap.size, 2, none⟩ = some (.int .u64 c.val) := by rw [cell_of_row w2 _ 2 _ _ _ hb2]; rfl
    cases hq : chAt c.key x.l with
    | some i =>
      obtain ⟨y, hy, hyk⟩ := chAt_some hq
      have hai : atI c.key x.l = i := by simp [atI, hq]
      rw [hai]
      have hil := (List.getElem?_eq_some_iff.1 hy).1
      have hpc : putCh c x.l = x.l.set i c := by unfold putCh; rw [hq]
      obtain ⟨g, cp, hv, _, hgl, cells, hgc⟩ := Kd.R_form hX2.2.2.1 (by omega)
      rw [hv] at hc2
      have hi1 : (i : Int) < x.l.length := by omega
      have hi0 : (0 : Int) ≤ i := by omega
      have HV := hid hv
      have HPC := hid hpc
      have HX2 := hid hX2
      have HR2 := hid hR2
      clear hq hai hy hyk hv hX2 hR2 hpc
      go_wp2_with fail
      go_still_tail 8, (by kernel_rfl)
      change wpList _ _ _ _ _ w2.drew
      have fd : Fr (fun _ => False) w2 w2.drew := (Fr.refl _ w2).drew
      have hX3 := wk_fr fd HX2.out (by simp) (by simp) (fun _ q => q)
      have hR3 := HR2.out.fr fd (fun _ _ => id)
      have fr3 : Fr F w w2.drew := fr2.drew
      clear HX2 HR2 fd kb0 kb1 kb2 hb2 hc2 hgc hgl cells
      generalize w2.drew = w3 at *
      have hv := HV.out
      have hrow := hX3.2.2.1
      rw [hv] at hrow
      have hown : x.v.ownBlock = some g := by rw [hv]; rfl
      obtain ⟨co, hcl, hcM, hcc, _⟩ := Kd.R_elem hrow c (i : Int) (by omega) (by omega)
      have hcl3 : co.length = 3 := hcl
      refine Kd.R_store kch (w0 := w3) 0 rfl rfl 90 (.tmp 36) (.tmp 35) rfl 90 (i : Int) 0 x.l c (.agg #[.int .i64 c.kind, .int .i64 c.key, .int .u64 c.val]) (encCh c) co (fun _ => True) (fun _ => False) rfl (by simp [kch]) rfl rfl (by kernel_rfl) (by intro u hu; simp [encCh] at hu; rcases hu with rfl | rfl | rfl <;> rfl) hrow (by omega) (by omega) hcl hcc (by simp [kch, encCh]) ?_ (fun _ q => q.elim) (Below.refl _ _) ?_
      · show co.take 0 ++ encCh c ++ co.drop (0 + (encCh c).length) = encCh c
        simp [encCh, hcl3]
      · intro w4 hrow4 hb4 hg4
        have hr4 : ChRow w4 x.v (x.l.set i c) := by rw [hv]; exact hrow4
        have hf4 : Fr (fun j => j = x.wb ∨ x.v.ownBlock = some j) w3 w4 := (Fr.of_grown hg4).mono (fun j hj => .inr (by rw [hown]; exact hj))
        have hb4' := blk_grown hX3.2.1 hg4 (by
          have := (hR3.row_ne (x := x) (by simp) hown).2.2.2 x (by simp)
          intro q; cases q; exact this rfl)
        rw [HXP.out] at hb4'
        have hrw := HRW.out
        rw [HPC.out] at hrw
        obtain ⟨hK, hF⟩ := KvAt.work HOK.out hR3 HWS.out HXN.out hrw hf4 hb4' hr4 (.inl rfl)
        have HK := hid hK
        clear hK hr4 hf4 hb4' hrw hX3 hR3 hrow hrow4 hb4 hg4 hcc hcM
        go_wp2_with fail
        go_ret
        refine ⟨more F1 w3 w4, ?_, ?_, gr1.trans (grew_more F1 w3 w4) ?_, fr3.trans hF ?_⟩
        · rw [HE.out]; rfl
        · rw [HE.out, HPC.out]; exact HK.out
        · exact fr3.size
        · intro j hj; exact gr1 j hj
    | none =>
      have hai : atI c.key x.l = -1 := by simp [atI, hq]
      rw [hai]
      have hpc : putCh c x.l = x.l ++ [c] := by unfold putCh; rw [hq]
      have fd : Fr (fun _ => False) w2 w2.drew := (Fr.refl _ w2).drew
      have hX3 := wk_fr fd hX2 (by simp) (by simp) (fun _ q => q)
      have hR3 := hR2.fr fd (fun _ _ => id)
      have fr3 : Fr F w w2.drew := fr2.drew
      have HPC := hid hpc
      have HR3 := hid hR3
      have HX3 := hid hX3
      have HX2 := hid hX2
      have hne3 := fun k hk => (hR3.row_ne (x := x) (k := k) (by simp) hk).2.2.2 x (by simp)
      have HNE := hid hne3
      have hc2a : (w2.alloc (.cells #[.int .i64 c.kind, .int .i64 c.key, .int .u64 c.val] 90)).cell? ⟨x.wb, 0, none⟩ = some x.v := by rw [World.cell?_alloc_lt _ _ _ (World.block_lt_of_cell? _ _ hc2)]; exact hc2
      clear hq hai hpc hR3 hX3 hX2 hR2 hne3 hb2
      go_wp2_with fail
      go_region_law (refine Kd.R_append_step kch (w0 := w2.drew) 0 (by rfl) (.tmp 42) (.tmp 44) 40 90 _ 24 rfl Tryz.underlying40 info90 (by rfl) (by decide) (by decide) x.v x.l c (encCh c) (fun _ => True) (fun _ => False) (by simp [Act.eval, Act.put]) (by simp [Act.eval, Act.put]) rfl (fun _ q => q.elim) (fun _ _ => trivial) HX3.out.2.2.1 (Below.refl _ _) (Nat.zero_le _) (by omega) ?_; intro v5 w5 ho5 hb5 hg5 hat5; have hb5' := blk_grown HX3.out.2.1 hg5 (fun q => HNE.out _ q.symm rfl); have hc5 : w5.cell? ⟨x.wb, 0, none⟩ = some x.v := (by rw [cell_of_row w5 x.wb 0 _ _ _ hb5']; rfl); have hz5 : w5.frozen? ⟨x.wb, 0, none⟩ = false := (by simp [World.frozen?, hb5']); have HO5 := hid ho5; have HG5 := hid hg5; have HT5 := hid hat5; have HB5 := hid hb5'; clear ho5 hg5 hat5 hb5'; obtain ⟨A5, c5, hv5⟩ := Kd.R_slice HO5.out; rw [List.length_append, List.length_singleton] at hv5; have HV5 := hid hv5; rw [hv5]; clear hv5)
      all_goals
        have hs6 : Fr (fun j => j = x.wb ∨ x.v.ownBlock = some j) w2.drew (w5.setCell ⟨x.wb, 0, none⟩ (.slice A5 (x.l.length + 1) c5)) := ((Fr.of_grown HG5.out).mono (fun j hj => .inr hj)).setCell (.inl (.inl rfl)) _
        have hb6 : (w5.setCell ⟨x.wb, 0, none⟩ (.slice A5 (x.l.length + 1) c5)).heap[x.wb]? = some (.cells #[.slice A5 (x.l.length + 1) c5, .bool x.p] 133 (0, 0)) := blk_set HB5.out 0 _
        have hr6 : ChRow (w5.setCell ⟨x.wb, 0, none⟩ (.slice A5 (x.l.length + 1) c5)) v5 (x.l ++ [c]) := ChRow.move HO5.out (fun k hk => Below.heap_setCell _ _ _ _ (fun q => by
          obtain ⟨cells, hq⟩ := ChRow.typed HO5.out k hk
          have := HB5.out
          rw [show k = x.wb from q, this] at hq
          simp at hq))
        rw [HV5.out] at hr6
        rw [HXP.out] at hb6
        have hat6 := HT5.out
        rw [HV5.out] at hat6
        have hrw := HRW.out
        rw [HPC.out] at hrw
        obtain ⟨hK, hF⟩ := KvAt.work HOK.out HR3.out HWS.out HXN.out hrw hs6 hb6 hr6 hat6
        have HK := hid hK
        clear hK hr6 hs6 hb6 hrw hat6
        go_wp2_with fail
        go_ret
        refine ⟨more F1 w2.drew (w5.setCell ⟨x.wb, 0, none⟩ (.slice A5 (x.l.length + 1) c5)), ?_, ?_, gr1.trans (grew_more F1 w2.drew _) fr3.size, fr3.trans hF (fun j hj => gr1 j hj)⟩
        · rw [HE.out]; rfl
        · rw [HE.out, HPC.out]; exact HK.out
  · have hne : (s.touch n c.key true).1 ≠ 0 := by simpa using hz
    have HE := hid (change_bad hne)
    clear hne
    go_wp2_with fail
    go_ret
    refine ⟨F1, ?_, ?_, gr1, fr1⟩
    · rw [HE.out]; rfl
    · rw [HE.out]; exact h1
set_option maxHeartbeats 1000000 in
theorem put_any {F : Nat → Prop} {w : World} {b0 : Nat} {s : KS} (h : KvAt Pz F w b0 s) (n key val : Int) :
    Calls Tryz.prog 47 #[.pointer (some ⟨b0, 0, none⟩), .int .i64 n, .int .i64 key, .int .u64 val] w (ChangePost Pz F w b0 s n ⟨1, key, val⟩) := by
  have hc := hid (change_any h n ⟨1, key, val⟩ (.inl rfl))
  go_enter Tryz.func47, Tryz.ntmps47
  go_wp2_with fail
  refine hc.out.mono ?_
  rintro e w1 ⟨F1, rfl, h1, g1, f1⟩
  go_wp2_with fail
  go_ret
  exact ⟨F1, rfl, h1, g1, f1⟩
set_option maxHeartbeats 1000000 in
theorem del_any {F : Nat → Prop} {w : World} {b0 : Nat} {s : KS} (h : KvAt Pz F w b0 s) (n key : Int) :
    Calls Tryz.prog 58 #[.pointer (some ⟨b0, 0, none⟩), .int .i64 n, .int .i64 key] w (ChangePost Pz F w b0 s n ⟨2, key, 0⟩) := by
  have hc := hid (change_any h n ⟨2, key, 0⟩ (.inr ⟨rfl, rfl⟩))
  go_enter Tryz.func58, Tryz.ntmps58
  go_wp2_with fail
  refine hc.out.mono ?_
  rintro e w1 ⟨F1, rfl, h1, g1, f1⟩
  go_wp2_with fail
  go_ret
  exact ⟨F1, rfl, h1, g1, f1⟩
end Go.Proofs.YtdejbinmnoabeaaGreat.K
