/- Walk of the document's store: set. Conditions: the store reads as DsR says. -/
import Derived.Test.YtekebjcknhjceaaKvD7
namespace Go.Mine
def setD (L : List (Int × Int)) (c : Ch) : List (Int × Int) :=
  if c.kind == 1 then L.filter (fun e => e.1 != c.key) ++ [(c.key, c.val)] else L.filter (fun e => e.1 != c.key)
end Go.Mine
namespace Go.Proofs.Ytekebjcknhjceaa
open Go.RowKit Go.Mine Go.Proofs.YtekebjcknhjceaaW.PrintWords
set_option linter.unusedVariables false
set_option linter.unusedSimpArgs false
theorem info90 : (Try.prog.info? 90).map (fun i => (i.zero, i.size, i.bytes)) = some (some (.agg #[.int .i64 0, .int .u64 0]), 2, 16) := by kernel_rfl
/-- The pairs are turned. -/
theorem DsR.pairs {F : Nat → Prop} {w wr : World} {b1 : Nat} {L L' : List (Int × Int)} {I : List WI} {lk : LTab} {pv pv' qv tv : Value} (h : DsR F w b1 L I lk pv qv tv) (hb : Below w.heap.size w wr) (hp : PrRow wr pv' L') (op : ∀ j, pv'.ownBlock = some j → w.heap.size ≤ j) :
    DsR (more F w (wr.setCell ⟨b1, 0, none⟩ pv')) (wr.setCell ⟨b1, 0, none⟩ pv') b1 L' I lk pv' qv tv ∧ Fr (fun i => i = b1) w (wr.setCell ⟨b1, 0, none⟩ pv') := by
  have h2 := h.below hb
  have hf : Fr (fun i => i = b1) w (wr.setCell ⟨b1, 0, none⟩ pv') := Fr.setCell (S := fun i => i = b1) (p := ⟨b1, 0, none⟩) ((Fr.of_below hb (Nat.le_refl _)).mono (fun _ q => q.elim)) (.inl rfl) _
  refine ⟨h.turn hf (blk_set' h2.blk 0 pv') (hp.move (fun k hk => Below.heap_setCell _ _ _ _ (fun q => hp.ne h2.blk (by decide) (by rw [hk]; exact congrArg some q)))) (h2.wp.move (fun k hk => Below.heap_setCell _ _ _ _ (fun q => h2.wp.ne h2.blk (by decide) (by rw [hk]; exact congrArg some q)))) (h2.lr.move (fun k hk => Below.heap_setCell _ _ _ _ (fun q => h2.lr.ne49 h2.blk (by rw [hk]; exact congrArg some q)))) (List.Sublist.refl _) (fun j hj => .inr (op j hj)) (fun j hj => .inl hj) (fun j hj => .inl hj), hf⟩
set_option maxRecDepth 100000 in
set_option maxHeartbeats 4000000 in
theorem dset_any {F : Nat → Prop} {w : World} {b1 : Nat} {L : List (Int × Int)} {I : List WI} {lk : LTab} {pv qv tv : Value} (h : DsR F w b1 L I lk pv qv tv) (hn : L.length ≤ 1000) (ch : Ch) :
    Calls Try.prog 49 #[.pointer (some ⟨b1, 0, none⟩), .agg #[.int .i64 ch.kind, .int .i64 ch.key, .int .u64 ch.val]] w fun e w' => e = .returned (.tuple #[]) ∧ ∃ pv', DsR (more F w w') w' b1 (setD L ch) I lk pv' qv tv ∧ Fr (fun i => i = b1) w w' := by
  have hb0 : Below w.heap.size w (w.alloc (.cells #[.int .i64 ch.kind, .int .i64 ch.key, .int .u64 ch.val] 60)) := (Below.refl _ _).alloc (Nat.le_refl _) _
  have hx0 : (w.alloc (.cells #[.int .i64 ch.kind, .int .i64 ch.key, .int .u64 ch.val] 60)).heap[w.heap.size]? = some (.cells #[.int .i64 ch.kind, .int .i64 ch.key, .int .u64 ch.val] 60 (0, 0)) := (MapKept.heap_alloc w _).1
  have hs0 : (w.alloc (.cells #[.int .i64 ch.kind, .int .i64 ch.key, .int .u64 ch.val] 60)).heap.size = w.heap.size + 1 := by simp
  have hc : w.cell? ⟨b1, 0, none⟩ = some pv := by rw [cell_of_row w b1 0 _ _ _ h.blk]; rfl
  obtain ⟨A, c, rfl, hAc, hat⟩ := pr_at h.pr
  have hca := (hb0.cell (World.block_lt_of_cell? _ _ hc)).trans hc
  have HAT := hid hat
  have H := hid h
  have HB0 := hid hb0
  have HX0 := hid hx0
  clear hat h hb0 hx0
  go_enter Try.func49, Try.ntmps49
  go_wp2_with fail
  generalize w.alloc (.cells #[.int .i64 ch.kind, .int .i64 ch.key, .int .u64 ch.val] 60) = wa at *
  go_loopg [4, 5] (L.length + 1) (fun m v4 v5 wr => ∃ i : Nat, v5 = .int .i64 i ∧ i ≤ L.length ∧ m = L.length + 1 - i ∧ kpr.R 90 wr wa.heap.size (fun _ => True) v4 ((L.take i).filter (fun e => e.1 != ch.key)) ∧ Below wa.heap.size wa wr)
  case atStart => exact ⟨0, rfl, Nat.zero_le _, rfl, Kd.R_nil _ _ _ _ _, Below.refl _ _⟩
  case round =>
    obtain ⟨i, rfl, hi, hm, hR, hb⟩ := hrel
    have HN := hid hm
    have HR := hid hR
    have HB := hid hb
    have hcr : wr.cell? ⟨b1, 0, none⟩ = some (.slice A L.length c) := (hb.cell (World.block_lt_of_cell? _ _ hca)).trans hca
    have hxr := (hb.block w.heap.size (by omega)).trans HX0.out
    have e0 : wr.cell? ⟨w.heap.size, 0, none⟩ = some (.int .i64 ch.kind) := by rw [cell_of_row _ _ 0 _ _ _ hxr]; rfl
    have e1 : wr.cell? ⟨w.heap.size, 1, none⟩ = some (.int .i64 ch.key) := by rw [cell_of_row _ _ 1 _ _ _ hxr]; rfl
    have e2 : wr.cell? ⟨w.heap.size, 2, none⟩ = some (.int .u64 ch.val) := by rw [cell_of_row _ _ 2 _ _ _ hxr]; rfl
    clear hm hR hxr
    by_cases h1 : i < L.length
    · obtain ⟨x, hx⟩ : ∃ x, L[i]? = some x := ⟨_, List.getElem?_eq_getElem h1⟩
      obtain ⟨b, off, rfl, hbb, hcc⟩ := HAT.out i x hx
      have hbw := HB0.out.trans (hb.mono HB0.out.size)
      have x0 : wr.cell? ⟨b, off + i * 2, none⟩ = some (.int .i64 x.1) := (hbw.cell hbb).trans (hcc 0 _ rfl)
      have x1 : wr.cell? ⟨b, off + i * 2 + 1, none⟩ = some (.int .u64 x.2) := (hbw.cell hbb).trans (hcc 1 _ rfl)
      have htk : L.take (i + 1) = L.take i ++ [x] := by
        rw [List.take_succ_eq_append_getElem h1]
        have : L[i] = x := by rw [List.getElem?_eq_getElem h1] at hx; exact Option.some.inj hx
        rw [this]
      have HTK := hid htk
      have hdl : ((L.take i).filter (fun e => e.1 != ch.key)).length ≤ 1000 := by
        have := List.length_filter_le (fun e : Int × Int => e.1 != ch.key) (L.take i)
        rw [List.length_take] at this
        omega
      have HDL := hid hdl
      clear hcc hx hb htk hdl hbw
      cases qe : (x.1 != ch.key)
      · have hd : (L.take (i + 1)).filter (fun e => e.1 != ch.key) = (L.take i).filter (fun e => e.1 != ch.key) := by
          rw [HTK.out, List.filter_append]
          simp [qe]
        have HD := hid hd
        clear hd
        go_wp2_with fail
        go_quiet (fail)
        go_wp2_with fail
        go_roundg (L.length + 1 - (i + 1))
        case measure => rw [HN.out]; omega
        case rel => exact ⟨i + 1, by go_num, by omega, rfl, by rw [HD.out]; exact Kd.R_drewN HR.out _, below_drewN HB.out _⟩
      · have hd : (L.take (i + 1)).filter (fun e => e.1 != ch.key) = (L.take i).filter (fun e => e.1 != ch.key) ++ [x] := by
          rw [HTK.out, List.filter_append]
          simp [qe]
        have HD := hid hd
        clear hd
        go_wp2_with fail
        go_quiet (fail)
        go_wp2_with (at_builtin; go_loud (refine Kd.R_append kpr (w0 := wa) wa.heap.size rfl (.tmp 26) (.tmp 34) 43 90 _ 16 rfl Try.underlying43 info90 (by rfl) (by decide) (by decide) u4 ((L.take i).filter (fun e => e.1 != ch.key)) x (encPr x) (fun _ => True) (fun _ => False) rfl rfl rfl (fun _ q => q.elim) (fun _ _ => trivial) (Kd.R_drewN HR.out _) (below_drewN HB.out _) (below_drewN HB.out _).size (by have := HDL.out; omega) ?_); intro v7 w7 ho7 hb7 hg7 hat7)
        go_roundg (L.length + 1 - (i + 1))
        case measure => rw [HN.out]; omega
        case rel => exact ⟨i + 1, by go_num, by omega, rfl, by rw [HD.out]; exact ho7, hb7⟩
    · have hi2 : i = L.length := by omega
      subst hi2
      have hr2 := HR.out
      rw [List.take_length] at hr2
      have hbl := List.length_filter_le (fun e : Int × Int => e.1 != ch.key) L
      have hblk : wr.heap[b1]? = some (.cells #[.slice A L.length c, qv, tv] 49 (0, 0)) := (hb.block _ (by have := H.out.fb _ H.out.b; have := HB0.out.size; omega)).trans ((HB0.out.block _ (H.out.fb _ H.out.b)).trans H.out.blk)
      have hz : wr.frozen? ⟨b1, 0, none⟩ = false := by simp [World.frozen?, hblk]
      cases qk : (ch.kind == 1)
      · have hsd : setD L ch = L.filter (fun e => e.1 != ch.key) := by unfold setD; rw [qk]; rfl
        obtain ⟨A5, c5, hv5⟩ := Kd.R_slice hr2
        have hnb : ∀ k, u4.ownBlock = some k → w.heap.size ≤ k := fun k hk => Nat.le_trans HB0.out.size ((Kd.R_bound hr2).1 k hk |>.2.1)
        subst hv5
        have hp := H.out.pairs (HB0.out.trans (hb.mono HB0.out.size)) (Kd.R_lower hr2 (Nat.zero_le _)) hnb
        rw [← hsd] at hp
        have HP := hid hp
        have HSD := hid hsd
        clear hp hnb hr2 hblk hsd hb
        go_wp2_with fail
        go_end0
        rw [← HSD.out]
        exact ⟨rfl, _, HP.out.1, HP.out.2⟩
      · have hsd : setD L ch = L.filter (fun e => e.1 != ch.key) ++ [(ch.key, ch.val)] := by unfold setD; rw [qk]; rfl
        have HR2 := hid hr2
        have HSD := hid hsd
        have HBK := hid hblk
        clear hr2 hsd hblk hb
        go_wp2_with (at_builtin; go_loud (refine Kd.R_append kpr (w0 := wa) wa.heap.size rfl (.tmp 39) (.tmp 45) 43 90 _ 16 rfl Try.underlying43 info90 (by rfl) (by decide) (by decide) u4 (L.filter (fun e => e.1 != ch.key)) (ch.key, ch.val) (encPr (ch.key, ch.val)) (fun _ => True) (fun _ => False) rfl rfl rfl (fun _ q => q.elim) (fun _ _ => trivial) HR2.out HB.out HB.out.size (by omega) ?_); intro v7 w7 ho7 hb7 hg7 hat7; have hblk7 : w7.heap[b1]? = some (.cells #[.slice A L.length c, qv, tv] 49 (0, 0)) := ((hb7.block _ (by have := H.out.fb _ H.out.b; have := HB0.out.size; omega)).trans ((HB0.out.block _ (H.out.fb _ H.out.b)).trans H.out.blk)); have hz7 : w7.frozen? ⟨b1, 0, none⟩ = false := (by simp [World.frozen?, hblk7]); have hc7 : w7.cell? ⟨b1, 0, none⟩ = some (.slice A L.length c) := (by rw [cell_of_row _ _ 0 _ _ _ hblk7]; rfl); have hnb : ∀ k, v7.ownBlock = some k → w.heap.size ≤ k := (fun k hk => Nat.le_trans HB0.out.size ((Kd.R_bound ho7).1 k hk |>.2.1)); have hp := H.out.pairs (HB0.out.trans (hb7.mono HB0.out.size)) (Kd.R_lower ho7 (Nat.zero_le _)) hnb; rw [← HSD.out] at hp; obtain ⟨A7, c7, hv7⟩ := Kd.R_slice ho7; subst hv7; have HP := hid hp; clear hp hnb ho7 hb7 hg7 hat7 hblk7)
        go_end0
        first
          | exact ⟨rfl, _, HP.out.1, HP.out.2⟩
          | (have hp := HP.out; simp only [List.length_append, List.length_singleton] at hp; exact ⟨rfl, _, hp.1, hp.2⟩)
end Go.Proofs.Ytekebjcknhjceaa
