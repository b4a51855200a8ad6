/- Texts of this seat, put together: KvD2, KvD3, KvD4, KvD5, KvD6, KvD8. -/
import Derived.Test.YtdejbinmnoabeaaGreatBm12
import Derived.BigQuiet
import Derived.Deep.RegionLaw
namespace Go.Proofs.YtdejbinmnoabeaaGreat.D
open Go.Proofs.YtdejbinmnoabeaaGreat.K
variable {Ze : Z3}
open Go.RowKit Go.Mine Go.Proofs.YtdejbinmnoabeaaGreatW.PrintWords
set_option linter.unusedVariables false
set_option linter.unusedSimpArgs false
section
variable {F F' : Nat → Prop} {w w' : World} {b1 : Nat} {L L' : List (Int × Int)} {I I' : List WI} {lk lk' : LTab} {pv qv tv pv' qv' tv' : Value}
theorem WpRow.typed {l : List Nat} (h : WpRow w qv l) {k : Nat} (hk : qv.ownBlock = some k) : ∃ cells, w.heap[k]? = some (.cells cells 100 (0, 0)) := by
  obtain ⟨h0, inner, ho, hr⟩ := h
  exact own_typed ho k hk
theorem PrRow.typed {l : List (Int × Int)} (h : PrRow w pv l) {k : Nat} (hk : pv.ownBlock = some k) : ∃ cells, w.heap[k]? = some (.cells cells 106 (0, 0)) := by
  obtain ⟨h0, inner, ho, hr⟩ := h
  exact own_typed ho k hk
theorem LkRow.typed {l : LTab} (h : LkRow w tv l) {k : Nat} (hk : tv.ownBlock = some k) : ∃ cells, w.heap[k]? = some (.cells cells 167 (0, 0)) := by
  obtain ⟨h0, inner, ho, hr⟩ := h
  exact own_typed ho k hk
theorem types_ne {k t t' : Nat} (h : ∃ cells, w.heap[k]? = some (.cells cells t (0, 0))) (h' : ∃ cells, w.heap[k]? = some (.cells cells t' (0, 0))) (ht : t ≠ t') : False := by
  obtain ⟨c, h⟩ := h
  obtain ⟨c', h'⟩ := h'
  rw [h] at h'
  simp at h'
  exact ht h'.2
theorem DsR.addw (h : DsR Ze F w b1 L I lk pv qv tv) {y : WI} (hf : Fr (fun i => i = b1 ∨ qv.ownBlock = some i) w w') (hb : w'.heap[b1]? = some (.cells #[pv, qv', tv', Ze.a, Ze.b, Ze.c] 38 (0, 0)))
    (hp : PrRow w' pv L) (hq : WpRow w' qv' ((I ++ [y]).map (·.wb))) (ht : LkRow w' tv' lk') (hy : w'.heap[y.wb]? = some (.cells #[.int .i64 y.n, y.v, .bool y.p] 123 (0, 0)))
    (hyw : w.heap.size ≤ y.wb) (hyr : ChRow w' y.v y.l) (hyo : ∀ k, y.v.ownBlock = some k → w.heap.size ≤ k)
    (oq : ∀ j, qv'.ownBlock = some j → qv.ownBlock = some j ∨ w.heap.size ≤ j) (ot : ∀ j, tv'.ownBlock = some j → tv.ownBlock = some j ∨ w.heap.size ≤ j) :
    DsR Ze (more F w w') w' b1 L (I ++ [y]) lk' pv qv' tv' where
  fb := more_lt h.fb hf.size
  b := .inl h.b
  blk := hb
  pr := hp
  wp := hq
  lr := ht
  pF k hk := .inl (h.pF k hk)
  qF k hk := (oq k hk).elim (fun q => .inl (h.qF k q)) (fun q => .inr ⟨q, row_lt hq k hk⟩)
  tF k hk := (ot k hk).elim (fun q => .inl (h.tF k q)) (fun q => .inr ⟨q, row_lt ht k hk⟩)
  wk x hx := by
    rcases List.mem_append.1 hx with hxI | hx
    · have h1 := h.wk x hxI
      have h2 : x.wb ≠ b1 := h.wb_ne hxI
      refine ⟨.inl h1.1, hf.at_ h1.2.1 (fun q => q.elim h2 (fun q => types_ne (h.wp.typed q) ⟨_, h1.2.1⟩ (by decide))), h1.2.2.1.move (fun k hk => hf.block k (h1.2.2.1.lt k hk) (fun q => ?_)), fun k hk => .inl (h1.2.2.2 k hk)⟩
      rcases q with q | q
      · exact h1.2.2.1.ne h.blk (by decide) (by rw [hk, q])
      · exact types_ne (h.wp.typed q) (h1.2.2.1.typed k hk) (by decide)
    · obtain rfl := List.mem_singleton.1 hx
      exact ⟨.inr ⟨hyw, (Array.getElem?_eq_some_iff.1 hy).1⟩, hy, hyr, fun k hk => .inr ⟨hyo k hk, hyr.lt k hk⟩⟩
  apart := by
    rw [List.pairwise_append]
    refine ⟨h.apart, List.pairwise_singleton _ _, fun x hx z hz => ?_⟩
    obtain rfl := List.mem_singleton.1 hz
    have h1 := h.wk x hx
    refine ⟨fun e => ?_, fun k hk e => ?_⟩
    · have := h.fb _ h1.1
      omega
    · have h2 := h1.2.2.1.lt k hk
      have h3 := hyo k e
      omega
theorem DsR.lock (h : DsR Ze F w b1 L I lk pv qv tv) (hr : RS Ze w' b1 pv qv tv' lk') (hf : Fr (fun i => i = b1) w w') (ot : ∀ j, tv'.ownBlock = some j → tv.ownBlock = some j ∨ w.heap.size ≤ j) : DsR Ze (more F w w') w' b1 L I lk' pv qv tv' :=
  h.turn hf hr.1 (h.pr.move (fun k hk => hf.block k (row_lt h.pr k hk) (fun q => h.pr.ne h.blk (by decide) (by rw [hk, q])))) (h.wp.move (fun k hk => hf.block k (row_lt h.wp k hk) (fun q => h.wp.ne h.blk (by decide) (by rw [hk, q])))) hr.2 (List.Sublist.refl _) (fun j hj => .inl hj) (fun j hj => .inl hj) ot
end
def DTouch (Ze : Z3) (F : Nat → Prop) (w : World) (b1 : Nat) (L : List (Int × Int)) (pv : Value) (R : Int × KS) (e : Ending) (w' : World) : Prop :=
  e = .returned (.int .i64 R.1) ∧ ∃ F' I' qv' tv', DsR Ze F' w' b1 L I' R.2.lk pv qv' tv' ∧ Grew F F' w ∧ R.2.ws = wsOf I' ∧ Fr F w w'
set_option maxRecDepth 100000 in
set_option maxHeartbeats 4000000 in
theorem dtouch_any {F : Nat → Prop} {w : World} {b1 : Nat} {L : List (Int × Int)} {I : List WI} {pv qv tv : Value} {s : KS} (h : DsR Ze F w b1 L I s.lk pv qv tv) (hws : s.ws = wsOf I) (hn : I.length ≤ 1000) (hl : Right s.lk) (n k : Int) (al : Bool) :
    Calls Tryz.prog 96 #[.pointer (some ⟨b1, 0, none⟩), .int .i64 n, .int .i64 k, .bool al] w (DTouch Ze F w b1 L pv (s.touch n k al)) := by
  have hg := aget_ws n I
  rw [← hws] at hg
  have hfd := dfind_any h (by omega) n
  unfold findB at hfd
  have htk := ref_take (⟨h.blk, h.lr⟩ : RS Ze w b1 pv qv tv s.lk) hl n k al
  have H := hid h
  have HWS := hid hws
  have HTK := hid htk
  clear h hws htk hl
  by_cases hbad : n < 1 ∨ k < 0 ∨ 16 ≤ k
  · have hE := touch_bad (s := s) (al := al) hbad
    have HE := hid hE
    clear hE hg hfd
    go_enter Tryz.func96, Tryz.ntmps96
    have hb2 : (decide (n < 1) || decide (k < 0) || decide (15 < k)) = true := by
      simp only [Bool.or_eq_true, decide_eq_true_eq]; omega
    go_wp2_with fail
    all_goals first
      | (go_ret; unfold DTouch; rw [HE.out]; exact ⟨rfl, F, I, qv, tv, H.out, Grew.refl _ _, HWS.out, Fr.refl _ _⟩)
      | (exfalso; omega)
  · have hn1 : ¬ n < 1 := fun q => hbad (.inl q)
    have hk0 : ¬ k < 0 := fun q => hbad (.inr (.inl q))
    have hk1 : ¬ 15 < k := fun q => hbad (.inr (.inr (by omega)))
    have HBAD := hid hbad
    clear hbad
    cases hf : I.find? (fun x => decide (x.n = n)) with
    | some x =>
      rw [hf] at hfd hg
      simp only [Option.map_some] at hfd hg
      have hxI := List.mem_of_find?_eq_some hf
      have hx := H.out.wk x hxI
      have k2 : w.cell? ⟨x.wb, 2, none⟩ = some (.bool x.p) := by rw [cell_of_row _ _ 2 _ _ _ hx.2.1]; rfl
      have HFD := hid hfd
      clear hf hx hfd
      cases hp : x.p
      · rw [hp] at k2
        by_cases hc : (takeA s.lk n k al).1 = 0
        · have hE := touch_done (s := s) (key := k) (al := al) HBAD.out (by rw [hg]; exact hp) hc
          rw [if_pos (by rw [hg]; rfl)] at hE
          have HE := hid hE
          have HC := hid hc
          clear hE hg hc
          go_enter Tryz.func96, Tryz.ntmps96
          go_wp2_with fail
          refine HFD.out.mono ?_
          rintro e w1 ⟨rfl, rfl⟩
          go_wp2_with fail
          refine HTK.out.mono ?_
          rintro e w2 ⟨he, tv', hr2, ho2, hf2⟩
          subst he
          rw [HC.out]
          go_wp2_with fail
          go_ret
          unfold DTouch
          rw [HE.out]
          exact ⟨rfl, _, I, qv, tv', H.out.lock hr2 hf2 ho2, grew_more _ _ _, HWS.out, hf2.mono (fun i hi => by rw [hi]; exact H.out.b)⟩
        · have hE := touch_lock (s := s) (key := k) (al := al) HBAD.out (by rw [hg]; exact hp) hc
          have hkp := takeA_keep hc
          have hcz : ((takeA s.lk n k al).1 == 0) = false := by simpa using hc
          have HE := hid hE
          have HKP := hid hkp
          clear hE hg hc hkp
          go_enter Tryz.func96, Tryz.ntmps96
          go_wp2_with fail
          refine HFD.out.mono ?_
          rintro e w1 ⟨rfl, rfl⟩
          go_wp2_with fail
          refine HTK.out.mono ?_
          rintro e w2 ⟨rfl, tv', hr2, ho2, hf2⟩
          rw [HKP.out] at hr2
          go_wp2_with fail
          go_ret
          unfold DTouch
          rw [HE.out]
          exact ⟨rfl, _, I, qv, tv', H.out.lock hr2 hf2 ho2, grew_more _ _ _, HWS.out, hf2.mono (fun i hi => by rw [hi]; exact H.out.b)⟩
      · rw [hp] at k2
        have hE := touch_prep (s := s) (key := k) (al := al) HBAD.out (by rw [hg]; exact hp)
        have HE := hid hE
        clear hE hg
        go_enter Tryz.func96, Tryz.ntmps96
        go_wp2_with fail
        refine HFD.out.mono ?_
        rintro e w1 ⟨rfl, rfl⟩
        go_wp2_with fail
        go_ret
        unfold DTouch
        rw [HE.out]
        exact ⟨rfl, F, I, qv, tv, H.out, Grew.refl _ _, HWS.out, Fr.refl _ _⟩
    | none =>
      rw [hf] at hfd hg
      simp only [Option.map_none] at hfd hg
      have HFD := hid hfd
      clear hf hfd
      by_cases hc : (takeA s.lk n k al).1 = 0
      · have hE := touch_done (s := s) (key := k) (al := al) HBAD.out (by rw [hg]; rfl) hc
        rw [if_neg (by rw [hg]; simp)] at hE
        have HE := hid hE
        have HC := hid hc
        clear hE hg hc
        obtain ⟨A, c, rfl, hAc, _⟩ := wp_at H.out.wp
        rw [List.length_map] at hAc H HTK
        go_enter Tryz.func96, Tryz.ntmps96
        go_wp2_with fail
        refine HFD.out.mono ?_
        rintro e w1 ⟨rfl, rfl⟩
        go_wp2_with fail
        refine HTK.out.mono ?_
        rintro e w2 ⟨he, tv', hr2, ho2, hf2⟩
        subst he
        rw [HC.out]
        have hc2 : w2.cell? ⟨b1, 1, none⟩ = some (.slice A I.length c) := by rw [cell_of_row w2 b1 1 _ _ _ hr2.1]; rfl
        have hb3 : Below w2.heap.size w2 (w2.alloc (.cells #[.int .i64 n, .slice none 0 0, .bool false] 123)) := (Below.refl _ _).alloc (Nat.le_refl _) _
        have hy3 : (w2.alloc (.cells #[.int .i64 n, .slice none 0 0, .bool false] 123)).heap[w2.heap.size]? = some (.cells #[.int .i64 n, .slice none 0 0, .bool false] 123 (0, 0)) := (MapKept.heap_alloc w2 _).1
        have hq2 : WpRow w2 (.slice A I.length c) (I.map (·.wb)) := H.out.wp.move (fun j hj => hf2.block j (row_lt H.out.wp j hj) (fun q => H.out.wp.ne H.out.blk (by decide) (by rw [hj, q])))
        have hq3 := hq2.move (fun j hj => hb3.block j (row_lt hq2 j hj))
        have hr3 := hr2.below hb3
        have hc3 := (hb3.cell (World.block_lt_of_cell? _ _ hc2)).trans hc2
        have hs3 : (w2.alloc (.cells #[.int .i64 n, .slice none 0 0, .bool false] 123)).heap.size = w2.heap.size + 1 := by simp
        have HQ3 := hid hq3
        have HR3 := hid hr3
        have HB3 := hid hb3
        have HY3 := hid hy3
        have HF2 := hid hf2
        have HO2 := hid ho2
        have HS3 := hid hs3
        have hlw := hr2.lt
        clear hq2 hq3 hr3 hb3 hy3 hf2 ho2 hs3 hr2
        go_wp2_with (at_builtin; go_loud (refine Kd.R_append kwp (w0 := (w2.alloc (.cells #[.int .i64 n, .slice none 0 0, .bool false] 123))) 0 rfl (.tmp 49) (.tmp 53) 27 100 _ 8 rfl Tryz.underlying27 info100 (by rfl) (by decide) (by decide) (.slice A I.length c) (I.map (·.wb)) w2.heap.size [ptrV w2.heap.size] (fun _ => True) (fun _ => False) rfl (by rw [HS3.out]; rfl) rfl (fun _ q => q.elim) (fun _ _ => trivial) HQ3.out (Below.refl _ _) (Nat.zero_le _) (by rw [List.length_map]; omega) ?_); intro v8 w8 ho8 hb8 hg8 hat8; have hx8 : w8.heap[b1]? = some (.cells #[pv, .slice A I.length c, tv', Ze.a, Ze.b, Ze.c] 38 (0, 0)) := (hg8.block _ HR3.out.lt (fun q => HQ3.out.ne HR3.out.1 (by decide) q.symm)).trans HR3.out.1; have hz8 : w8.frozen? ⟨b1, 1, none⟩ = false := (by simp [World.frozen?, hx8]); have hc8 : w8.cell? ⟨b1, 1, none⟩ = some (.slice A I.length c) := (by rw [cell_of_row w8 _ 1 _ _ _ hx8]; rfl); have HO8 := hid ho8; have HX8 := hid hx8; have HG8 := hid hg8; have HAT8 := hid hat8; clear ho8 hb8 hg8 hat8 hx8; obtain ⟨A8, c8, hv8⟩ := Kd.R_slice HO8.out; rw [List.length_append, List.length_singleton, List.length_map] at hv8; subst hv8)
        have hw3 : Fr (fun i => i = b1) w (w2.alloc (.cells #[.int .i64 n, .slice none 0 0, .bool false] 123)) := HF2.out.alloc _
        generalize w2.alloc (.cells #[.int .i64 n, .slice none 0 0, .bool false] 123) = w3 at *
        have hf8 : Fr (fun i => i = b1 ∨ (Value.slice A I.length c).ownBlock = some i) w3 (w8.setCell ⟨b1, 1, none⟩ (.slice A8 (I.length + 1) c8)) := Fr.setCell (p := ⟨b1, 1, none⟩) ((Fr.of_grown HG8.out).mono (fun j hj => .inr hj)) (.inl (.inl rfl)) _
        have hfw : Fr (fun i => i = b1 ∨ (Value.slice A I.length c).ownBlock = some i) w (w8.setCell ⟨b1, 1, none⟩ (.slice A8 (I.length + 1) c8)) := (hw3.mono (fun i hi => .inl hi)).trans hf8 (fun i hi => .inl hi)
        have hsw : w.heap.size ≤ w2.heap.size := HF2.out.size
        have hne : ∀ j, (Value.slice A I.length c).ownBlock = some j → j ≠ b1 := fun j hj q => HQ3.out.ne HR3.out.1 (by decide) (by rw [hj, q])
        have hyk := hf8.at_ HY3.out (fun q => by
          rcases q with q | q
          · have := hlw; omega
          · exact types_ne (HQ3.out.typed q) ⟨_, HY3.out⟩ (by decide))
        have hpr : PrRow (w8.setCell ⟨b1, 1, none⟩ (.slice A8 (I.length + 1) c8)) pv L := H.out.pr.move (fun j hj => hfw.block j (row_lt H.out.pr j hj) (fun q => by
          rcases q with q | q
          · exact H.out.pr.ne H.out.blk (by decide) (by rw [hj, q])
          · exact types_ne (H.out.wp.typed q) (H.out.pr.typed hj) (by decide)))
        have htr : LkRow (w8.setCell ⟨b1, 1, none⟩ (.slice A8 (I.length + 1) c8)) tv' (takeA s.lk n k al).2 := HR3.out.2.move (fun j hj => hf8.block j (HR3.out.2.lt j hj) (fun q => by
          rcases q with q | q
          · exact HR3.out.2.ne38 HR3.out.1 (by rw [hj, q])
          · exact types_ne (HQ3.out.typed q) (HR3.out.2.typed hj) (by decide)))
        have hqr : WpRow (w8.setCell ⟨b1, 1, none⟩ (.slice A8 (I.length + 1) c8)) (.slice A8 (I.length + 1) c8) (I.map (·.wb) ++ [w2.heap.size]) := by
          have h0 : WpRow w8 (.slice A8 (I.length + 1) c8) (I.map (·.wb) ++ [w2.heap.size]) := HO8.out
          exact h0.move (fun j hj => Below.heap_setCell _ _ _ _ (fun q => h0.ne HX8.out (by decide) (by rw [hj]; exact congrArg some q)))
        have hb9 := blk_set' HX8.out 1 (.slice A8 (I.length + 1) c8)
        have hfin := H.out.addw (y := ⟨n, w2.heap.size, .slice none 0 0, [], false⟩) hfw hb9 hpr (by rw [List.map_append]; exact hqr) htr hyk hsw (ChRow.none_ _) (fun j hj => by simp [Value.ownBlock] at hj) (fun j hj => by
          rcases HAT8.out with q | ⟨b, q, hb⟩
          · exact .inl (q ▸ hj)
          · rw [hj] at q; cases q; exact .inr (Nat.le_trans hw3.size hb)) HO2.out
        go_ret
        unfold DTouch
        rw [HE.out]
        refine ⟨rfl, _, _, _, _, hfin, grew_more _ _ _, ?_, hfw.mono (fun i hi => ?_)⟩
        · show s.ws ++ [(n, ⟨[], false⟩)] = wsOf (I ++ [⟨n, w2.heap.size, .slice none 0 0, [], false⟩])
          rw [HWS.out]
          simp [wsOf]
        · rcases hi with q | q
          · rw [q]; exact H.out.b
          · exact H.out.qF i q
      · have hE := touch_lock (s := s) (key := k) (al := al) HBAD.out (by rw [hg]; rfl) hc
        have hkp := takeA_keep hc
        have hcz : ((takeA s.lk n k al).1 == 0) = false := by simpa using hc
        have HE := hid hE
        have HKP := hid hkp
        clear hE hg hc hkp
        go_enter Tryz.func96, Tryz.ntmps96
        go_wp2_with fail
        refine HFD.out.mono ?_
        rintro e w1 ⟨rfl, rfl⟩
        go_wp2_with fail
        refine HTK.out.mono ?_
        rintro e w2 ⟨rfl, tv', hr2, ho2, hf2⟩
        rw [HKP.out] at hr2
        go_wp2_with fail
        go_ret
        unfold DTouch
        rw [HE.out]
        exact ⟨rfl, _, I, qv, tv', H.out.lock hr2 hf2 ho2, grew_more _ _ _, HWS.out, hf2.mono (fun i hi => by rw [hi]; exact H.out.b)⟩
end Go.Proofs.YtdejbinmnoabeaaGreat.D
namespace Go.Mine
def dval (L : List (Int × Int)) (k : Int) : Int × Bool := match L.find? (fun e => e.1 == k) with | some e => (e.2, true) | none => (0, false)
def dget (L : List (Int × Int)) (s : KS) (n k : Int) : Int × Bool × Int :=
  if (s.touch n k false).1 ≠ 0 then (0, false, (s.touch n k false).1)
  else match ((s.touch n k false).2.listOf n).find? (fun c => c.key == k) with
    | some c => (c.val, c.kind == 1, 0)
    | none => ((dval L k).1, (dval L k).2, 0)
end Go.Mine
namespace Go.Proofs.YtdejbinmnoabeaaGreat.D
open Go.Proofs.YtdejbinmnoabeaaGreat.K
variable {Ze : Z3}
open Go.RowKit Go.Mine Go.Proofs.YtdejbinmnoabeaaGreatW.PrintWords
set_option linter.unusedVariables false
set_option linter.unusedSimpArgs false
set_option maxRecDepth 100000 in
set_option maxHeartbeats 2000000 in
theorem dvalue_any {F : Nat → Prop} {w : World} {b1 : Nat} {L : List (Int × Int)} {I : List WI} {lk : LTab} {pv qv tv : Value} (h : DsR Ze F w b1 L I lk pv qv tv) (hn : L.length ≤ 1000000) (k : Int) :
    Calls Tryz.prog 46 #[.pointer (some ⟨b1, 0, none⟩), .int .i64 k] w fun e w' => e = .returned (.tuple #[.int .u64 (dval L k).1, .bool (dval L k).2]) ∧ w = w' := by
  have hc : w.cell? ⟨b1, 0, none⟩ = some pv := by rw [cell_of_row w b1 0 _ _ _ h.blk]; rfl
  obtain ⟨A, c, rfl, hAc, hat⟩ := pr_at h.pr
  have HAT := hid hat
  clear hat h
  go_enter Tryz.func46, Tryz.ntmps46
  go_wp2_with fail
  go_loopg [6] (L.length + 1) (fun m v wr => ∃ i : Nat, v = .int .i64 i ∧ i ≤ L.length ∧ m = L.length + 1 - i ∧ wr = w ∧ ∀ j x, j < i → L[j]? = some x → (x.1 == k) = false)
  case atStart => exact ⟨0, rfl, Nat.zero_le _, rfl, rfl, fun j x hj => by omega⟩
  case round =>
    obtain ⟨i, rfl, hi, hm, hw, hno⟩ := hrel
    subst hw
    have HN := hid hm
    have HNO := hid hno
    clear hm hno
    by_cases h1 : i < L.length
    · obtain ⟨x, hx⟩ : ∃ x, L[i]? = some x := ⟨_, List.getElem?_eq_getElem h1⟩
      obtain ⟨b, off, rfl, hb, hcc⟩ := HAT.out i x hx
      have k0 : wr.cell? ⟨b, off + i * 2, none⟩ = some (.int .i64 x.1) := hcc 0 _ rfl
      have k1 : wr.cell? ⟨b, off + i * 2 + 1, none⟩ = some (.int .u64 x.2) := hcc 1 _ rfl
      have HX := hid hx
      clear hcc hx
      cases q1 : (x.1 == k)
      · go_wp2_with fail
        go_roundg (L.length + 1 - (i + 1))
        case measure => rw [HN.out]; omega
        case rel =>
          refine ⟨i + 1, by go_num, by omega, rfl, rfl, fun j y hj hy => ?_⟩
          rcases Nat.lt_succ_iff_lt_or_eq.1 hj with hj | rfl
          · exact HNO.out j y hj hy
          · rw [HX.out] at hy; cases hy; exact q1
      · have hp : dval L k = (x.2, true) := by
          have : L.find? (fun e => e.1 == k) = some x := by
            obtain ⟨hi2, he⟩ := List.getElem?_eq_some_iff.1 HX.out
            rw [List.find?_eq_some_iff_getElem]
            refine ⟨q1, i, hi2, he, fun j hj => ?_⟩
            rw [HNO.out j _ hj (List.getElem?_eq_getElem (by omega))]
            rfl
          unfold dval
          rw [this]
        have HP := hid hp
        clear hp
        go_wp2_with fail
        go_ret2
        exact ⟨by rw [HP.out]; rfl, rfl⟩
    · have hp : dval L k = (0, false) := by
        have : L.find? (fun e => e.1 == k) = none := by
          rw [List.find?_eq_none]
          intro x hx
          obtain ⟨j, hj, rfl⟩ := List.mem_iff_getElem.1 hx
          rw [HNO.out j _ (by omega) (List.getElem?_eq_getElem hj)]
          decide
        unfold dval
        rw [this]
      have HP := hid hp
      clear hp
      go_wp2_with fail
      go_ret2
      exact ⟨by rw [HP.out]; rfl, rfl⟩
theorem adel_wsOf (n : Int) (I : List WI) : adel n (wsOf I) = wsOf (I.filter (fun x => x.n != n)) := by
  rw [adel_ws]
  congr 1
  apply List.filter_congr
  intro x _
  by_cases h : x.n = n <;> simp [h]
def DPost (Ze : Z3) (F : Nat → Prop) (w : World) (b1 : Nat) (L : List (Int × Int)) (r : Int) (s' : KS) (e : Ending) (w' : World) : Prop :=
  e = .returned (.int .i64 r) ∧ ∃ F' I' pv' qv' tv', DsR Ze F' w' b1 L I' s'.lk pv' qv' tv' ∧ Grew F F' w ∧ s'.ws = wsOf I' ∧ Fr F w w'
theorem dbackout_any {F : Nat → Prop} {w : World} {b1 : Nat} {L : List (Int × Int)} {I : List WI} {pv qv tv : Value} {s : KS} (h : DsR Ze F w b1 L I s.lk pv qv tv) (hws : s.ws = wsOf I) (hn : I.length ≤ 1000) (hl : Right s.lk) (n : Int) :
    Calls Tryz.prog 73 #[.pointer (some ⟨b1, 0, none⟩), .int .i64 n] w (DPost Ze F w b1 L (s.backout n).1 (s.backout n).2) := by
  have hd := ddrop_any h hn (by have := hl.len; omega) n
  have H := hid h
  have HD := hid hd
  have HWS := hid hws
  clear h hd hws
  go_enter Tryz.func73, Tryz.ntmps73
  by_cases h1 : n < 1
  · have he : s.backout n = (1, s) := by simp [KS.backout, h1]
    have HE := hid he
    clear he
    go_wp2_with fail
    go_ret
    unfold DPost
    rw [HE.out]
    exact ⟨rfl, F, I, pv, qv, tv, H.out, Grew.refl _ _, HWS.out, Fr.refl _ _⟩
  · have he : s.backout n = (0, s.gone n) := by simp [KS.backout, h1]
    have HE := hid he
    clear he
    go_wp2_with fail
    refine HD.out.mono ?_
    rintro e w1 ⟨rfl, qv', tv', h1, f1⟩
    go_wp2_with fail
    go_ret
    unfold DPost
    rw [HE.out]
    refine ⟨rfl, _, _, _, _, _, h1, grew_more _ _ _, ?_, f1.mono (fun i hi => by rw [hi]; exact H.out.b)⟩
    show adel n s.ws = _
    rw [HWS.out, adel_wsOf]
end Go.Proofs.YtdejbinmnoabeaaGreat.D
namespace Go.Mine
theorem touch_len (s : KS) (n k : Int) (al : Bool) : (s.touch n k al).2.ws.length ≤ s.ws.length + 1 := by
  unfold KS.touch
  split
  · simp
  · split
    · simp
    · split
      · simp
      · simp only
        split <;> simp
end Go.Mine
namespace Go.Proofs.YtdejbinmnoabeaaGreat.D
open Go.Proofs.YtdejbinmnoabeaaGreat.K
variable {Ze : Z3}
open Go.RowKit Go.Mine Go.Proofs.YtdejbinmnoabeaaGreatW.PrintWords
set_option linter.unusedVariables false
set_option linter.unusedSimpArgs false
theorem findB_of {I : List WI} {n : Int} {v : KW} (h : aget n (wsOf I) = some v) : ∃ x, x ∈ I ∧ x.n = n ∧ findB I n = some x.wb ∧ x.l = v.l ∧ x.p = v.p := by
  rw [aget_ws] at h
  cases hf : I.find? (fun x => decide (x.n = n)) with
  | none => rw [hf] at h; cases h
  | some x =>
    rw [hf] at h
    cases h
    have := List.find?_some hf
    exact ⟨x, List.mem_of_find?_eq_some hf, by simpa using this, by unfold findB; rw [hf]; rfl, rfl, rfl⟩
def DGet (Ze : Z3) (F : Nat → Prop) (w : World) (b1 : Nat) (L : List (Int × Int)) (pv : Value) (s : KS) (n k : Int) (e : Ending) (w' : World) : Prop :=
  e = .returned (.tuple #[.int .u64 (dget L s n k).1, .bool (dget L s n k).2.1, .int .i64 (dget L s n k).2.2]) ∧ ∃ F' I' qv' tv', DsR Ze F' w' b1 L I' (s.touch n k false).2.lk pv qv' tv' ∧ Grew F F' w ∧ (s.touch n k false).2.ws = wsOf I' ∧ Fr F w w'
set_option maxRecDepth 100000 in
set_option maxHeartbeats 4000000 in
theorem dget_any {F : Nat → Prop} {w : World} {b1 : Nat} {L : List (Int × Int)} {I : List WI} {pv qv tv : Value} {s : KS} (h : DsR Ze F w b1 L I s.lk pv qv tv) (hws : s.ws = wsOf I) (hn : I.length ≤ 900) (hL : L.length ≤ 1000) (hok : s.Ok) (n k : Int) :
    Calls Tryz.prog 65 #[.pointer (some ⟨b1, 0, none⟩), .int .i64 n, .int .i64 k] w (DGet Ze F w b1 L pv s n k) := by
  have ht := dtouch_any h hws (by omega) hok.rk n k false
  have hlen := touch_len s n k false
  have hokt := hok.touch n k false
  rw [show s.ws.length = I.length by rw [hws]; simp [wsOf]] at hlen
  have HT := hid ht
  clear ht h hws
  go_enter Tryz.func65, Tryz.ntmps65
  cases hz : ((s.touch n k false).1 != 0)
  · have h0 : (s.touch n k false).1 = 0 := by simpa using hz
    have htl := touch_list h0
    have hdg : dget L s n k = match ((s.touch n k false).2.listOf n).find? (fun c => c.key == k) with | some c => (c.val, c.kind == 1, 0) | none => ((dval L k).1, (dval L k).2, 0) := by
      unfold dget
      refine (if_neg (by simp [h0])).trans ?_
      first | rfl | (cases ((s.touch n k false).2.listOf n).find? (fun c => c.key == k) <;> rfl)
    have hlo : (s.touch n k false).2.listOf n = s.listOf n := by unfold KS.listOf; rw [htl]; rfl
    rw [hlo] at hdg
    have HDG := hid hdg
    have H0 := hid h0
    clear hdg hz h0 hlo
    go_wp2_with fail
    refine HT.out.mono ?_
    rintro e w1 ⟨he, F1, I1, qv1, tv1, h1, g1, hw1, f1⟩
    subst he
    rw [H0.out]
    rw [hw1] at htl hlen
    rw [show (wsOf I1).length = I1.length by simp [wsOf]] at hlen
    obtain ⟨x, hxI, hxn, hfb, hxl, hxp⟩ := findB_of htl
    have hfd := dfind_any h1 (by omega) n
    rw [hfb] at hfd
    have hx := h1.wk x hxI
    have hxlen := hokt.chs _ (aget_mem (by rw [hw1]; exact htl))
    obtain ⟨A, c, hv, hAc, hat⟩ := hx.2.2.1.at_
    have c1 : w1.cell? ⟨x.wb, 1, none⟩ = some (.slice A x.l.length c) := by rw [cell_of_row _ _ 1 _ _ _ hx.2.1, ← hv]; rfl
    have hxle : x.l.length ≤ 16 := by rw [hxl]; exact hxlen.len
    have hdv := dvalue_any h1 (by omega) k
    have HFD := hid hfd
    have HAT := hid hat
    have HDV := hid hdv
    have H1 := hid h1
    have HW1 := hid hw1
    have HG1 := hid g1
    have HF1 := hid f1
    have HXL := hid hxl
    clear hfd hat hdv h1 hw1 g1 f1 hx hv hxl hxlen htl hxI hfb HT
    go_wp2_with fail
    refine HFD.out.mono ?_
    rintro e w2 ⟨rfl, rfl⟩
    simp only [Option.map_some]
    go_wp2_with fail
    go_loopg [11] (x.l.length + 1) (fun m v wr => ∃ i : Nat, v = .int .i64 i ∧ i ≤ x.l.length ∧ m = x.l.length + 1 - i ∧ wr = w1 ∧ ∀ j y, j < i → x.l[j]? = some y → (y.key == k) = false)
    case atStart => exact ⟨0, rfl, Nat.zero_le _, rfl, rfl, fun j x hj => by omega⟩
    case round =>
      obtain ⟨i, rfl, hi, hm, hw, hno⟩ := hrel
      subst hw
      have HN := hid hm
      have HNO := hid hno
      clear hm hno
      by_cases h1 : i < x.l.length
      · obtain ⟨y, hy⟩ : ∃ y, x.l[i]? = some y := ⟨_, List.getElem?_eq_getElem h1⟩
        obtain ⟨b, off, rfl, hb, hcc⟩ := HAT.out i y hy
        have k0 : wr.cell? ⟨b, off + i * 3, none⟩ = some (.int .i64 y.kind) := hcc 0 _ rfl
        have k1 : wr.cell? ⟨b, off + i * 3 + 1, none⟩ = some (.int .i64 y.key) := hcc 1 _ rfl
        have k2 : wr.cell? ⟨b, off + i * 3 + 2, none⟩ = some (.int .u64 y.val) := hcc 2 _ rfl
        have HY := hid hy
        clear hcc hy
        cases q1 : (y.key == k)
        · go_wp2_with fail
          go_roundg (x.l.length + 1 - (i + 1))
          case measure => rw [HN.out]; omega
          case rel =>
            refine ⟨i + 1, by go_num, by omega, rfl, rfl, fun j z hj hz => ?_⟩
            rcases Nat.lt_succ_iff_lt_or_eq.1 hj with hj | rfl
            · exact HNO.out j z hj hz
            · rw [HY.out] at hz; cases hz; exact q1
        · have hp : dget L s n k = (y.val, y.kind == 1, 0) := by
            have hs1 : s.listOf n = x.l := HXL.out.symm
            have : x.l.find? (fun c => c.key == k) = some y := by
              obtain ⟨hi2, he⟩ := List.getElem?_eq_some_iff.1 HY.out
              rw [List.find?_eq_some_iff_getElem]
              refine ⟨q1, i, hi2, he, fun j hj => ?_⟩
              rw [HNO.out j _ hj (List.getElem?_eq_getElem (by omega))]
              rfl
            rw [HDG.out, hs1, this]
          have HP := hid hp
          clear hp
          go_wp2_with fail
          go_quiet (fail)
          go_wp2_with fail
          go_ret3
          unfold DGet
          rw [HP.out]
          exact ⟨rfl, F1, I1, qv1, tv1, H1.out.below (bdn _ _), HG1.out, HW1.out, HF1.out.drewN _⟩
      · have hp : dget L s n k = ((dval L k).1, (dval L k).2, 0) := by
          have hs1 : s.listOf n = x.l := HXL.out.symm
          have : x.l.find? (fun c => c.key == k) = none := by
            rw [List.find?_eq_none]
            intro y hy
            obtain ⟨j, hj, rfl⟩ := List.mem_iff_getElem.1 hy
            rw [HNO.out j _ (by omega) (List.getElem?_eq_getElem hj)]
            decide
          rw [HDG.out, hs1, this]
        have HP := hid hp
        clear hp
        go_wp2_with fail
        refine HDV.out.mono ?_
        rintro e w3 ⟨rfl, rfl⟩
        go_wp2_with fail
        go_ret3
        unfold DGet
        rw [HP.out]
        exact ⟨rfl, F1, I1, qv1, tv1, H1.out, HG1.out, HW1.out, HF1.out⟩
  · have h0 : (s.touch n k false).1 ≠ 0 := by simpa using hz
    have hdg : dget L s n k = (0, false, (s.touch n k false).1) := by unfold dget; rw [if_pos h0]
    have HDG := hid hdg
    clear hdg h0
    go_wp2_with fail
    refine HT.out.mono ?_
    rintro e w1 ⟨rfl, F1, I1, qv1, tv1, h1, g1, hw1, f1⟩
    have H1 := hid h1
    have HW1 := hid hw1
    have HG1 := hid g1
    have HF1 := hid f1
    clear h1 hw1 g1 f1
    go_wp2_with fail
    go_ret3
    unfold DGet
    rw [HDG.out]
    exact ⟨rfl, F1, I1, qv1, tv1, H1.out, HG1.out, HW1.out, HF1.out⟩
end Go.Proofs.YtdejbinmnoabeaaGreat.D
namespace Go.Proofs.YtdejbinmnoabeaaGreat.D
open Go.Proofs.YtdejbinmnoabeaaGreat.K
variable {Ze : Z3}
open Go.RowKit Go.Mine Go.Proofs.YtdejbinmnoabeaaGreatW.PrintWords
set_option linter.unusedVariables false
set_option linter.unusedSimpArgs false
section
variable {F : Nat → Prop} {w w' : World} {b1 : Nat} {L : List (Int × Int)} {I1 I2 : List WI} {x : WI} {lk : LTab} {pv qv tv : Value}
theorem DsR.work {v' : Value} {l' : List Ch} {p' : Bool} (h : DsR Ze F w b1 L (I1 ++ x :: I2) lk pv qv tv) (hf : Fr (fun i => i = x.wb ∨ x.v.ownBlock = some i) w w')
    (hb : w'.heap[x.wb]? = some (.cells #[.int .i64 x.n, v', .bool p'] 123 (0, 0))) (hr : ChRow w' v' l') (hv : v'.ownBlock = x.v.ownBlock ∨ ∃ b, v'.ownBlock = some b ∧ w.heap.size ≤ b) :
    DsR Ze (more F w w') w' b1 L (I1 ++ ⟨x.n, x.wb, v', l', p'⟩ :: I2) lk pv qv tv := by
  have hxm : x ∈ I1 ++ x :: I2 := by simp
  have hx := h.wk x hxm
  have hxt : ∃ cells, w.heap[x.wb]? = some (.cells cells 123 (0, 0)) := ⟨_, hx.2.1⟩
  have hno : ∀ k t, (∃ cells, w.heap[k]? = some (.cells cells t (0, 0))) → t ≠ 123 → t ≠ 90 → ¬ (k = x.wb ∨ x.v.ownBlock = some k) := by
    intro k t hk h1 h2 q
    rcases q with q | q
    · subst q; exact types_ne hk hxt h1
    · exact types_ne hk (hx.2.2.1.typed k q) h2
  have hap := h.apart
  rw [List.pairwise_append] at hap
  obtain ⟨ha1, ha2, ha3⟩ := hap
  rw [List.pairwise_cons] at ha2
  have hvF : ∀ k, v'.ownBlock = some k → more F w w' k := by
    intro k hk
    rcases hv with q | ⟨b, q, hb'⟩
    · exact .inl (hx.2.2.2 k (q ▸ hk))
    · rw [hk] at q; cases q; exact .inr ⟨hb', hr.lt k hk⟩
  have hoth : ∀ y ∈ I1 ++ x :: I2, y.wb ≠ x.wb → (∀ k, y.v.ownBlock = some k → x.v.ownBlock ≠ some k) → more F w w' y.wb ∧ w'.heap[y.wb]? = some (.cells #[.int .i64 y.n, y.v, .bool y.p] 123 (0, 0)) ∧ ChRow w' y.v y.l ∧ (∀ k, y.v.ownBlock = some k → more F w w' k) := by
    intro y hy h1 h2
    have hyk := h.wk y hy
    refine ⟨.inl hyk.1, hf.at_ hyk.2.1 (fun q => q.elim h1 (fun q => types_ne (hx.2.2.1.typed _ q) ⟨_, hyk.2.1⟩ (by decide))), hyk.2.2.1.move (fun k hk => hf.block k (hyk.2.2.1.lt k hk) (fun q => ?_)), fun k hk => .inl (hyk.2.2.2 k hk)⟩
    rcases q with q | q
    · subst q; exact types_ne (hyk.2.2.1.typed _ hk) hxt (by decide)
    · exact h2 k hk q
  refine ⟨more_lt h.fb hf.size, .inl h.b, hf.at_ h.blk (hno _ _ ⟨_, h.blk⟩ (by decide) (by decide)), h.pr.move (fun k hk => hf.block k (row_lt h.pr k hk) (hno _ _ (h.pr.typed hk) (by decide) (by decide))), ?_, h.lr.move (fun k hk => hf.block k (h.lr.lt k hk) (hno _ _ (h.lr.typed hk) (by decide) (by decide))), fun k hk => .inl (h.pF k hk), fun k hk => .inl (h.qF k hk), fun k hk => .inl (h.tF k hk), ?_, ?_⟩
  · have := h.wp.move (fun k hk => hf.block k (row_lt h.wp k hk) (hno _ _ (h.wp.typed hk) (by decide) (by decide)))
    simpa using this
  · intro y hy
    rcases List.mem_append.1 hy with hy | hy
    · have h1 := ha3 y hy x (by simp)
      exact hoth y (by simp [hy]) h1.1 (fun k hk q => h1.2 k hk q)
    · rcases List.mem_cons.1 hy with rfl | hy
      · exact ⟨.inl hx.1, hb, hr, hvF⟩
      · have h1 := ha2.1 y hy
        exact hoth y (by simp [hy]) (fun q => h1.1 q.symm) (fun k hk q => h1.2 k q hk)
  · have hnew : ∀ y ∈ I1 ++ x :: I2, (∀ k, y.v.ownBlock = some k → x.v.ownBlock ≠ some k) → ∀ k, y.v.ownBlock = some k → v'.ownBlock ≠ some k := by
      intro y hy h2 k hk q
      have hyk := h.wk y hy
      rcases hv with e | ⟨b, e, hb'⟩
      · exact h2 k hk (e ▸ q)
      · rw [q] at e; cases e
        have := hyk.2.2.1.lt k hk
        omega
    rw [List.pairwise_append]
    refine ⟨ha1, ?_, ?_⟩
    · rw [List.pairwise_cons]
      refine ⟨fun y hy => ⟨(ha2.1 y hy).1, fun k hk q => ?_⟩, ha2.2⟩
      exact hnew y (by simp [hy]) (fun j hj e => (ha2.1 y hy).2 j e hj) k q hk
    · intro y hy z hz
      rcases List.mem_cons.1 hz with rfl | hz
      · have h1 := ha3 y hy x (by simp)
        exact ⟨h1.1, fun k hk => hnew y (by simp [hy]) h1.2 k hk⟩
      · exact ha3 y hy z (by simp [hz])
end
end Go.Proofs.YtdejbinmnoabeaaGreat.D
namespace Go.Proofs.YtdejbinmnoabeaaGreat.D
open Go.Proofs.YtdejbinmnoabeaaGreat.K
variable {Ze : Z3}
open Go.RowKit Go.Mine Go.Proofs.YtdejbinmnoabeaaGreatW.PrintWords
set_option linter.unusedVariables false
set_option linter.unusedSimpArgs false
def DChange (Ze : Z3) (F : Nat → Prop) (w : World) (b1 : Nat) (L : List (Int × Int)) (pv : Value) (R : Int × KS) (e : Ending) (w' : World) : Prop :=
  e = .returned (.int .i64 R.1) ∧ ∃ F' I' qv' tv', DsR Ze F' w' b1 L I' R.2.lk pv qv' tv' ∧ Grew F F' w ∧ R.2.ws = wsOf I' ∧ Fr F w w'
set_option maxRecDepth 100000 in
set_option maxHeartbeats 8000000 in
theorem dchange_any {F : Nat → Prop} {w : World} {b1 : Nat} {L : List (Int × Int)} {I : List WI} {pv qv tv : Value} {s : KS} (h : DsR Ze F w b1 L I s.lk pv qv tv) (hws : s.ws = wsOf I) (hn : I.length ≤ 900) (hok : s.Ok) (n : Int) (c : Ch) :
    Calls Tryz.prog 66 #[.pointer (some ⟨b1, 0, none⟩), .int .i64 n, .agg #[.int .i64 c.kind, .int .i64 c.key, .int .u64 c.val]] w (DChange Ze F w b1 L pv (s.change n c)) := by
  have hb0 : Below w.heap.size w (w.alloc (.cells #[.int .i64 c.kind, .int .i64 c.key, .int .u64 c.val] 90)) := (Below.refl _ _).alloc (Nat.le_refl _) _
  have hx0 : (w.alloc (.cells #[.int .i64 c.kind, .int .i64 c.key, .int .u64 c.val] 90)).heap[w.heap.size]? = some (.cells #[.int .i64 c.kind, .int .i64 c.key, .int .u64 c.val] 90 (0, 0)) := (MapKept.heap_alloc w _).1
  have hs0 : (w.alloc (.cells #[.int .i64 c.kind, .int .i64 c.key, .int .u64 c.val] 90)).heap.size = w.heap.size + 1 := by simp
  have ha := h.below hb0
  have ht := dtouch_any ha hws (by omega) hok.rk n c.key true
  have hlen := touch_len s n c.key true
  have hokt := hok.touch n c.key true
  rw [show s.ws.length = I.length by rw [hws]; simp [wsOf]] at hlen
  have hbx : ¬ F w.heap.size := fun q => by have := h.fb _ q; omega
  have HT := hid ht
  have HB0 := hid hb0
  have HX0 := hid hx0
  have HBX := hid hbx
  clear ht ha hb0 hx0 hbx
  have hF0 := h.fb
  clear h hws
  go_enter Tryz.func66, Tryz.ntmps66
  cases hz : ((s.touch n c.key true).1 != 0)
  · have h0 : (s.touch n c.key true).1 = 0 := by simpa using hz
    have htl := touch_list h0
    have hcg := change_good h0
    have hlo : (s.touch n c.key true).2.listOf n = s.listOf n := by unfold KS.listOf; rw [htl]; rfl
    rw [hlo] at hcg
    have HCG := hid hcg
    have H0 := hid h0
    clear hz h0 hlo hcg
    go_wp2_with fail
    generalize w.alloc (.cells #[.int .i64 c.kind, .int .i64 c.key, .int .u64 c.val] 90) = wa at *
    generalize hbxe : w.heap.size = bx at *
    refine HT.out.mono ?_
    rintro e w1 ⟨he, F1, I1, qv1, tv1, h1, g1, hw1, f1⟩
    subst he
    rw [H0.out]
    have hkeys := hokt.keys
    rw [hw1] at htl hlen hkeys
    rw [show (wsOf I1).length = I1.length by simp [wsOf]] at hlen
    have hx1 := f1.at_ HX0.out HBX.out
    have hfw : Fr F w w1 := ((Fr.of_below HB0.out (Nat.le_of_eq hbxe)).mono (fun _ q => q.elim)).trans f1 (fun i hi => .inl hi)
    have hgw : Grew F F1 w := fun i hi => (g1 i hi).imp id (fun q => Nat.le_trans (by rw [hbxe]; exact Nat.le_trans (Nat.le_of_eq hbxe.symm) HB0.out.size) q)
    rw [aget_ws] at htl
    cases hf : I1.find? (fun x => decide (x.n = n)) with
    | none => rw [hf] at htl; cases htl
    | some x =>
      rw [hf] at htl
      simp only [Option.map_some, Option.some.injEq, KW.mk.injEq] at htl
      obtain ⟨hxl, hxp⟩ := htl
      have hfd := dfind_any h1 (by omega) n
      have hfb : findB I1 n = some x.wb := by unfold findB; rw [hf]; rfl
      rw [hfb] at hfd
      obtain ⟨J1, J2, hJ, hxn⟩ := find_split hf
      subst hJ
      have hrw : RW x.l := by
        have := hokt.chs _ (aget_mem (A := (s.touch n c.key true).2.ws) (k := n) (v := ⟨x.l, x.p⟩) (by rw [hw1, aget_ws, hf]; rfl))
        exact this
      have hxle := hrw.len
      have HFD := hid hfd
      have HXL := hid hxl
      have HXP := hid hxp
      have HXN := hid hxn
      have H1 := hid h1
      have HW1 := hid hw1
      have HGW := hid hgw
      have HFW := hid hfw
      have HX1 := hid hx1
      have HKY := hid hkeys
      clear hfd hxl hxp hxn h1 hw1 hgw hfw g1 f1 hf hfb hrw hkeys HT HX0 hlen hs0 hx1
      go_wp2_with fail
      refine HFD.out.mono ?_
      rintro e w2 ⟨rfl, rfl⟩
      simp only [Option.map_some]
      go_wp2_with fail
      go_loopg [9] (x.l.length + 1) (fun m v wr => ∃ i : Nat, v = .int .i64 i ∧ i ≤ x.l.length ∧ m = x.l.length + 1 - i ∧ (∃ q, wr = w1.drewN q) ∧ ∀ j y, j < i → x.l[j]? = some y → (y.key == c.key) = false)
      case atStart => exact ⟨0, rfl, Nat.zero_le _, rfl, ⟨0, rfl⟩, fun j x hj => by omega⟩
      case round =>
        obtain ⟨i, rfl, hi, hm, ⟨q, hq⟩, hno⟩ := hrel
        have hbq : Below w1.heap.size w1 wr := by rw [hq]; exact bdn w1 q
        have HQ := hid hq
        have HN := hid hm
        have HNO := hid hno
        have HD := hid (H1.out.below hbq)
        have HX := hid ((hbq.block _ (Array.getElem?_eq_some_iff.1 HX1.out).1).trans HX1.out)
        have HBQ := hid hbq
        have hxw := HD.out.wk x (by simp)
        obtain ⟨A, cp, hv, hAc, hat⟩ := hxw.2.2.1.at_
        have c1 : wr.cell? ⟨x.wb, 1, none⟩ = some (.slice A x.l.length cp) := by rw [cell_of_row _ _ 1 _ _ _ hxw.2.1, ← hv]; rfl
        have e0 : wr.cell? ⟨bx, 0, none⟩ = some (.int .i64 c.kind) := by rw [cell_of_row _ _ 0 _ _ _ HX.out]; rfl
        have e1 : wr.cell? ⟨bx, 1, none⟩ = some (.int .i64 c.key) := by rw [cell_of_row _ _ 1 _ _ _ HX.out]; rfl
        have e2 : wr.cell? ⟨bx, 2, none⟩ = some (.int .u64 c.val) := by rw [cell_of_row _ _ 2 _ _ _ HX.out]; rfl
        have HAT := hid hat
        have HV := hid hv
        have HXW := hid hxw
        clear hm hno hq hbq hxw hv hat
        by_cases h1 : i < x.l.length
        · obtain ⟨y, hy⟩ : ∃ y, x.l[i]? = some y := ⟨_, List.getElem?_eq_getElem h1⟩
          obtain ⟨b, off, rfl, hb, hcc⟩ := HAT.out i y hy
          have k1 : wr.cell? ⟨b, off + i * 3 + 1, none⟩ = some (.int .i64 y.key) := hcc 1 _ rfl
          have HY := hid hy
          clear hcc hy
          cases q1 : (y.key == c.key)
          · go_wp2_with fail
            go_quiet (fail)
            go_wp2_with fail
            go_roundg (x.l.length + 1 - (i + 1))
            case measure => rw [HN.out]; omega
            case rel =>
              refine ⟨i + 1, by go_num, by omega, rfl, ⟨_, by rw [HQ.out]; exact drewN_two _ _ _⟩, fun j z hj hz => ?_⟩
              rcases Nat.lt_succ_iff_lt_or_eq.1 hj with hj | rfl
              · exact HNO.out j z hj hz
              · rw [HY.out] at hz; cases hz; exact q1
          · have hkc : y.key = c.key := by simpa using q1
            have hpc : putCh c x.l = x.l.set i c := by
              have : chAt c.key x.l = some i := by
                obtain ⟨hi2, he⟩ := List.getElem?_eq_some_iff.1 HY.out
                unfold chAt
                rw [List.findIdx?_eq_some_iff_getElem]
                refine ⟨hi2, by rw [he]; exact q1, fun j hj => ?_⟩
                rw [HNO.out j _ hj (List.getElem?_eq_getElem (by omega))]
                decide
              unfold putCh
              rw [this]
            have HPC := hid hpc
            obtain ⟨g, cp', hv', _, hgl, cells, hgc⟩ := Kd.R_form HXW.out.2.2.1 (by omega)
            rw [HV.out] at hv'
            injection hv' with a1 a2 a3
            injection a1 with a4
            injection a4 with a5 a6
            subst a5
            subst a6
            rw [Nat.zero_add] at k1
            have hi1 : (i : Int) < x.l.length := by omega
            have hi0 : (0 : Int) ≤ i := by omega
            clear hpc hkc a2 a3 hgl hgc
            go_wp2_with fail
            go_quiet (fail)
            go_wp2_with fail
            have h2 := HD.out.below (bdn wr nq)
            have hb2 : Below w1.heap.size w1 (wr.drewN nq) := HBQ.out.trans ⟨rfl, rfl, rfl, Nat.le_refl _, fun _ _ => rfl⟩
            have c1' : (wr.drewN nq).cell? ⟨x.wb, 1, none⟩ = some (.slice (some ⟨b, 0, none⟩) x.l.length cp) := c1
            have e0' : (wr.drewN nq).cell? ⟨bx, 0, none⟩ = some (.int .i64 c.kind) := e0
            have e1' : (wr.drewN nq).cell? ⟨bx, 1, none⟩ = some (.int .i64 c.key) := e1
            have e2' : (wr.drewN nq).cell? ⟨bx, 2, none⟩ = some (.int .u64 c.val) := e2
            generalize wr.drewN nq = w2 at *
            clear c1 e0 e1 e2 k1 HD HX HXW HBQ HQ
            go_still_tail 7, (by kernel_rfl)
            change wpList _ _ _ _ _ w2.drew
            have h3 := h2.below (bd1 w2)
            have hb3 : Below w1.heap.size w1 w2.drew := hb2.trans ⟨rfl, rfl, rfl, Nat.le_refl _, fun _ _ => rfl⟩
            clear c1' e0' e1' e2' h2 hb2
            generalize w2.drew = w3 at *
            have hx3 := h3.wk x (by simp)
            have hrow := hx3.2.2.1
            rw [HV.out] at hrow
            obtain ⟨co, hcl, hcM, hcc, _⟩ := Kd.R_elem hrow c (i : Int) (by omega) (by omega)
            have hcl3 : co.length = 3 := hcl
            refine Kd.R_store kch (w0 := w3) 0 rfl rfl 90 (.tmp 47) (.tmp 46) rfl 90 (i : Int) 0 x.l c (.agg #[.int .i64 c.kind, .int .i64 c.key, .int .u64 c.val]) (encCh c) co (fun _ => True) (fun _ => False) rfl (by simp [kch]) rfl rfl (by kernel_rfl) (by intro u hu; simp [encCh] at hu; rcases hu with rfl | rfl | rfl <;> rfl) hrow (by omega) (by omega) hcl hcc (by simp [kch, encCh]) ?_ (fun _ q => q.elim) (Below.refl _ _) ?_
            · show co.take 0 ++ encCh c ++ co.drop (0 + (encCh c).length) = encCh c
              simp [encCh, hcl3]
            · intro w4 hrow4 hb4 hg4
              have hr4 : ChRow w4 (.slice (some ⟨b, 0, none⟩) x.l.length cp) (x.l.set i c) := hrow4
              have hf4 : Fr (fun j => j = x.wb ∨ x.v.ownBlock = some j) w3 w4 := (Fr.of_grown hg4).mono (fun j hj => .inr (by rw [HV.out]; exact hj))
              have hb4' : w4.heap[x.wb]? = some (.cells #[.int .i64 x.n, .slice (some ⟨b, 0, none⟩) x.l.length cp, .bool false] 123 (0, 0)) := by
                have := (hg4.block _ (Array.getElem?_eq_some_iff.1 hx3.2.1).1 (fun q => by
                  have : (Value.slice (some ⟨b, 0, none⟩) x.l.length cp).ownBlock = some x.wb := q.symm
                  exact types_ne (hrow.typed _ this) ⟨_, hx3.2.1⟩ (by decide))).trans hx3.2.1
                rw [HXP.out, HV.out] at this
                exact this
              have hfin := h3.work hf4 hb4' hr4 (.inl (by rw [HV.out]))
              have hfr : Fr F w w4 := (HFW.out.trans ((Fr.of_below hb3 (Nat.le_refl _)).mono (fun _ q => q.elim)) (fun i hi => .inl hi)).trans hf4 (fun j hj => by
                rcases hj with q | q
                · exact HGW.out j (by rw [q]; exact hx3.1)
                · exact HGW.out j (hx3.2.2.2 j q))
              have hgr : Grew F (more F1 w3 w4) w := fun j hj => by
                rcases hj with q | q
                · exact HGW.out j q
                · exact .inr (Nat.le_trans (Nat.le_trans HFW.out.size hb3.size) q.1)
              have HFIN := hid hfin
              have HFR := hid hfr
              have HGR := hid hgr
              clear hfin hfr hgr h3 hb3 hx3 hrow hrow4 hr4 hf4 hb4' hb4 hg4 hcc hcM
              go_wp2_with fail
              go_ret
              unfold DChange
              rw [HCG.out]
              refine ⟨rfl, _, _, _, _, HFIN.out, HGR.out, ?_, HFR.out⟩
              show aput n ⟨putCh c (s.listOf n), false⟩ (s.touch n c.key true).2.ws = _
              rw [← HXL.out, HPC.out]
              exact aput_ws (by rw [HW1.out]; exact HKY.out) HW1.out HXN.out _ _ _
        · have hpc : putCh c x.l = x.l ++ [c] := by
            have : chAt c.key x.l = none := by
              unfold chAt
              rw [List.findIdx?_eq_none_iff]
              intro y hy
              obtain ⟨j, hj, rfl⟩ := List.mem_iff_getElem.1 hy
              exact HNO.out j _ (by omega) (List.getElem?_eq_getElem hj)
            unfold putCh
            rw [this]
          have HPC := hid hpc
          have h3 := HD.out.below (bd1 wr)
          have hx3 := h3.wk x (by simp)
          have hrow := hx3.2.2.1
          rw [HV.out] at hrow
          have hb3 : Below w1.heap.size w1 wr.drew := HBQ.out.trans ⟨rfl, rfl, rfl, Nat.le_refl _, fun _ _ => rfl⟩
          have H3 := hid h3
          have HX3 := hid hx3
          have HROW := hid hrow
          have HB3 := hid hb3
          have c1a : (wr.alloc (.cells #[.int .i64 c.kind, .int .i64 c.key, .int .u64 c.val] 90)).cell? ⟨x.wb, 1, none⟩ = some (.slice A x.l.length cp) := by rw [World.cell?_alloc_lt _ _ _ (World.block_lt_of_cell? _ _ c1)]; exact c1
          clear hpc h3 hx3 hrow hb3 HD HX HXW HBQ HQ HAT HNO HX1 HFD
          go_wp2_with fail
          go_region_law (refine Kd.R_append_step kch (w0 := wr.drew) 0 (by rfl) (.tmp 53) (.tmp 55) 40 90 _ 24 rfl Tryz.underlying40 info90 (by rfl) (by decide) (by decide) (.slice A x.l.length cp) x.l c (encCh c) (fun _ => True) (fun _ => False) (by simp [Act.eval, Act.put]) (by simp [Act.eval, Act.put]) rfl (fun _ q => q.elim) (fun _ _ => trivial) HROW.out (Below.refl _ _) (Nat.zero_le _) (by omega) ?_; intro v5 w5 ho5 hb5 hg5 hat5; have hb5' : w5.heap[x.wb]? = some (.cells #[.int .i64 x.n, .slice A x.l.length cp, .bool false] 123 (0, 0)) := (by have := (hg5.block _ (Array.getElem?_eq_some_iff.1 HX3.out.2.1).1 (fun q => types_ne (HROW.out.typed _ q.symm) ⟨_, HX3.out.2.1⟩ (by decide))).trans HX3.out.2.1; rw [HXP.out, HV.out] at this; exact this); have hc5 : w5.cell? ⟨x.wb, 1, none⟩ = some (.slice A x.l.length cp) := (by rw [cell_of_row w5 x.wb 1 _ _ _ hb5']; rfl); have hz5 : w5.frozen? ⟨x.wb, 1, none⟩ = false := (by simp [World.frozen?, hb5']); have HO5 := hid ho5; have HG5 := hid hg5; have HT5 := hid hat5; have HB5 := hid hb5'; clear ho5 hg5 hat5 hb5'; obtain ⟨A5, c5, hv5⟩ := Kd.R_slice HO5.out; rw [List.length_append, List.length_singleton] at hv5; subst hv5)
          all_goals
            have hs6 : Fr (fun j => j = x.wb ∨ x.v.ownBlock = some j) wr.drew (w5.setCell ⟨x.wb, 1, none⟩ (.slice A5 (x.l.length + 1) c5)) := Fr.setCell (p := ⟨x.wb, 1, none⟩) ((Fr.of_grown HG5.out).mono (fun j hj => .inr (by rw [HV.out]; exact hj))) (.inl (.inl rfl)) _
            have hb6 : (w5.setCell ⟨x.wb, 1, none⟩ (.slice A5 (x.l.length + 1) c5)).heap[x.wb]? = some (.cells #[.int .i64 x.n, .slice A5 (x.l.length + 1) c5, .bool false] 123 (0, 0)) := blk_set' HB5.out 1 _
            have hr6 : ChRow (w5.setCell ⟨x.wb, 1, none⟩ (.slice A5 (x.l.length + 1) c5)) (.slice A5 (x.l.length + 1) c5) (x.l ++ [c]) := ChRow.move HO5.out (fun k hk => Below.heap_setCell _ _ _ _ (fun q => by
              have q' : k = x.wb := q
              subst q'
              exact types_ne (ChRow.typed HO5.out _ hk) ⟨_, HB5.out⟩ (by decide)))
            have hfin := H3.out.work hs6 hb6 hr6 (by rw [HV.out]; exact HT5.out)
            have hfr : Fr F w (w5.setCell ⟨x.wb, 1, none⟩ (.slice A5 (x.l.length + 1) c5)) := (HFW.out.trans ((Fr.of_below HB3.out (Nat.le_refl _)).mono (fun _ q => q.elim)) (fun i hi => .inl hi)).trans hs6 (fun j hj => by
              rcases hj with q | q
              · exact HGW.out j (by rw [q]; exact HX3.out.1)
              · exact HGW.out j (HX3.out.2.2.2 j q))
            have hgr : Grew F (more F1 wr.drew (w5.setCell ⟨x.wb, 1, none⟩ (.slice A5 (x.l.length + 1) c5))) w := fun j hj => by
              rcases hj with q | q
              · exact HGW.out j q
              · exact .inr (Nat.le_trans (Nat.le_trans HFW.out.size HB3.out.size) q.1)
            have HFIN := hid hfin
            have HFR := hid hfr
            have HGR := hid hgr
            clear hfin hfr hgr hs6 hb6 hr6
            go_wp2_with fail
            go_ret
            unfold DChange
            rw [HCG.out]
            refine ⟨rfl, _, _, _, _, HFIN.out, HGR.out, ?_, HFR.out⟩
            show aput n ⟨putCh c (s.listOf n), false⟩ (s.touch n c.key true).2.ws = _
            rw [← HXL.out, HPC.out]
            exact aput_ws (by rw [HW1.out]; exact HKY.out) HW1.out HXN.out _ _ _
  · have h0 : (s.touch n c.key true).1 ≠ 0 := by simpa using hz
    have hcb := change_bad h0
    have HCB := hid hcb
    clear hcb h0
    go_wp2_with fail
    generalize w.alloc (.cells #[.int .i64 c.kind, .int .i64 c.key, .int .u64 c.val] 90) = wa at *
    refine HT.out.mono ?_
    rintro e w1 ⟨rfl, F1, I1, qv1, tv1, h1, g1, hw1, f1⟩
    have H1 := hid h1
    have HW1 := hid hw1
    have HG1 := hid g1
    have HF1 := hid f1
    clear h1 hw1 g1 f1
    go_wp2_with fail
    go_ret
    unfold DChange
    rw [HCB.out]
    exact ⟨rfl, F1, I1, qv1, tv1, H1.out, fun i hi => (HG1.out i hi).imp id (fun q => Nat.le_trans HB0.out.size q), HW1.out, ((Fr.of_below HB0.out (Nat.le_refl _)).mono (fun _ q => q.elim)).trans HF1.out (fun i hi => .inl hi)⟩
end Go.Proofs.YtdejbinmnoabeaaGreat.D
namespace Go.Mine
def setD (L : List (Int × Int)) (c : Ch) : List (Int × Int) :=
  if c.kind == 1 then L.filter (fun e => e.1 != c.key) ++ [(c.key, c.val)] else L.filter (fun e => e.1 != c.key)
end Go.Mine
namespace Go.Proofs.YtdejbinmnoabeaaGreat.D
open Go.Proofs.YtdejbinmnoabeaaGreat.K
variable {Ze : Z3}
open Go.RowKit Go.Mine Go.Proofs.YtdejbinmnoabeaaGreatW.PrintWords
set_option linter.unusedVariables false
set_option linter.unusedSimpArgs false
theorem info106 : (Tryz.prog.info? 106).map (fun i => (i.zero, i.size, i.bytes)) = some (some (.agg #[.int .i64 0, .int .u64 0]), 2, 16) := by kernel_rfl
theorem DsR.pairs {F : Nat → Prop} {w wr : World} {b1 : Nat} {L L' : List (Int × Int)} {I : List WI} {lk : LTab} {pv pv' qv tv : Value} (h : DsR Ze F w b1 L I lk pv qv tv) (hb : Below w.heap.size w wr) (hp : PrRow wr pv' L') (op : ∀ j, pv'.ownBlock = some j → w.heap.size ≤ j) :
    DsR Ze (more F w (wr.setCell ⟨b1, 0, none⟩ pv')) (wr.setCell ⟨b1, 0, none⟩ pv') b1 L' I lk pv' qv tv ∧ Fr (fun i => i = b1) w (wr.setCell ⟨b1, 0, none⟩ pv') := by
  have h2 := h.below hb
  have hf : Fr (fun i => i = b1) w (wr.setCell ⟨b1, 0, none⟩ pv') := Fr.setCell (S := fun i => i = b1) (p := ⟨b1, 0, none⟩) ((Fr.of_below hb (Nat.le_refl _)).mono (fun _ q => q.elim)) (.inl rfl) _
  refine ⟨h.turn hf (blk_set' h2.blk 0 pv') (hp.move (fun k hk => Below.heap_setCell _ _ _ _ (fun q => hp.ne h2.blk (by decide) (by rw [hk]; exact congrArg some q)))) (h2.wp.move (fun k hk => Below.heap_setCell _ _ _ _ (fun q => h2.wp.ne h2.blk (by decide) (by rw [hk]; exact congrArg some q)))) (h2.lr.move (fun k hk => Below.heap_setCell _ _ _ _ (fun q => h2.lr.ne38 h2.blk (by rw [hk]; exact congrArg some q)))) (List.Sublist.refl _) (fun j hj => .inr (op j hj)) (fun j hj => .inl hj) (fun j hj => .inl hj), hf⟩
set_option maxRecDepth 100000 in
set_option maxHeartbeats 4000000 in
theorem dset_any {F : Nat → Prop} {w : World} {b1 : Nat} {L : List (Int × Int)} {I : List WI} {lk : LTab} {pv qv tv : Value} (h : DsR Ze F w b1 L I lk pv qv tv) (hn : L.length ≤ 1000) (ch : Ch) :
    Calls Tryz.prog 102 #[.pointer (some ⟨b1, 0, none⟩), .agg #[.int .i64 ch.kind, .int .i64 ch.key, .int .u64 ch.val]] w fun e w' => e = .returned (.tuple #[]) ∧ ∃ pv', DsR Ze (more F w w') w' b1 (setD L ch) I lk pv' qv tv ∧ Fr (fun i => i = b1) w w' := by
  have hb0 : Below w.heap.size w (w.alloc (.cells #[.int .i64 ch.kind, .int .i64 ch.key, .int .u64 ch.val] 90)) := (Below.refl _ _).alloc (Nat.le_refl _) _
  have hx0 : (w.alloc (.cells #[.int .i64 ch.kind, .int .i64 ch.key, .int .u64 ch.val] 90)).heap[w.heap.size]? = some (.cells #[.int .i64 ch.kind, .int .i64 ch.key, .int .u64 ch.val] 90 (0, 0)) := (MapKept.heap_alloc w _).1
  have hs0 : (w.alloc (.cells #[.int .i64 ch.kind, .int .i64 ch.key, .int .u64 ch.val] 90)).heap.size = w.heap.size + 1 := by simp
  have hc : w.cell? ⟨b1, 0, none⟩ = some pv := by rw [cell_of_row w b1 0 _ _ _ h.blk]; rfl
  obtain ⟨A, c, rfl, hAc, hat⟩ := pr_at h.pr
  have hca := (hb0.cell (World.block_lt_of_cell? _ _ hc)).trans hc
  have HAT := hid hat
  have H := hid h
  have HB0 := hid hb0
  have HX0 := hid hx0
  clear hat h hb0 hx0
  go_enter Tryz.func102, Tryz.ntmps102
  go_wp2_with fail
  generalize w.alloc (.cells #[.int .i64 ch.kind, .int .i64 ch.key, .int .u64 ch.val] 90) = wa at *
  go_loopg [4, 5] (L.length + 1) (fun m v4 v5 wr => ∃ i : Nat, v5 = .int .i64 i ∧ i ≤ L.length ∧ m = L.length + 1 - i ∧ kpr.R 106 wr wa.heap.size (fun _ => True) v4 ((L.take i).filter (fun e => e.1 != ch.key)) ∧ Below wa.heap.size wa wr)
  case atStart => exact ⟨0, rfl, Nat.zero_le _, rfl, Kd.R_nil _ _ _ _ _, Below.refl _ _⟩
  case round =>
    obtain ⟨i, rfl, hi, hm, hR, hb⟩ := hrel
    have HN := hid hm
    have HR := hid hR
    have HB := hid hb
    have hcr : wr.cell? ⟨b1, 0, none⟩ = some (.slice A L.length c) := (hb.cell (World.block_lt_of_cell? _ _ hca)).trans hca
    have hxr := (hb.block w.heap.size (by omega)).trans HX0.out
    have e0 : wr.cell? ⟨w.heap.size, 0, none⟩ = some (.int .i64 ch.kind) := by rw [cell_of_row _ _ 0 _ _ _ hxr]; rfl
    have e1 : wr.cell? ⟨w.heap.size, 1, none⟩ = some (.int .i64 ch.key) := by rw [cell_of_row _ _ 1 _ _ _ hxr]; rfl
    have e2 : wr.cell? ⟨w.heap.size, 2, none⟩ = some (.int .u64 ch.val) := by rw [cell_of_row _ _ 2 _ _ _ hxr]; rfl
    clear hm hR hxr
    by_cases h1 : i < L.length
    · obtain ⟨x, hx⟩ : ∃ x, L[i]? = some x := ⟨_, List.getElem?_eq_getElem h1⟩
      obtain ⟨b, off, rfl, hbb, hcc⟩ := HAT.out i x hx
      have hbw := HB0.out.trans (hb.mono HB0.out.size)
      have x0 : wr.cell? ⟨b, off + i * 2, none⟩ = some (.int .i64 x.1) := (hbw.cell hbb).trans (hcc 0 _ rfl)
      have x1 : wr.cell? ⟨b, off + i * 2 + 1, none⟩ = some (.int .u64 x.2) := (hbw.cell hbb).trans (hcc 1 _ rfl)
      have htk : L.take (i + 1) = L.take i ++ [x] := by
        rw [List.take_succ_eq_append_getElem h1]
        have : L[i] = x := by rw [List.getElem?_eq_getElem h1] at hx; exact Option.some.inj hx
        rw [this]
      have HTK := hid htk
      have hdl : ((L.take i).filter (fun e => e.1 != ch.key)).length ≤ 1000 := by
        have := List.length_filter_le (fun e : Int × Int => e.1 != ch.key) (L.take i)
        rw [List.length_take] at this
        omega
      have HDL := hid hdl
      clear hcc hx hb htk hdl hbw
      cases qe : (x.1 != ch.key)
      · have hd : (L.take (i + 1)).filter (fun e => e.1 != ch.key) = (L.take i).filter (fun e => e.1 != ch.key) := by
          rw [HTK.out, List.filter_append]
          simp [qe]
        have HD := hid hd
        clear hd
        go_wp2_with fail
        go_quiet (fail)
        go_wp2_with fail
        go_roundg (L.length + 1 - (i + 1))
        case measure => rw [HN.out]; omega
        case rel => exact ⟨i + 1, by go_num, by omega, rfl, by rw [HD.out]; exact Kd.R_drewN HR.out _, below_drewN HB.out _⟩
      · have hd : (L.take (i + 1)).filter (fun e => e.1 != ch.key) = (L.take i).filter (fun e => e.1 != ch.key) ++ [x] := by
          rw [HTK.out, List.filter_append]
          simp [qe]
        have HD := hid hd
        clear hd
        go_wp2_with fail
        go_quiet (fail)
        go_wp2_with (at_builtin; go_loud (refine Kd.R_append kpr (w0 := wa) wa.heap.size rfl (.tmp 26) (.tmp 34) 26 106 _ 16 rfl Tryz.underlying26 info106 (by rfl) (by decide) (by decide) u4 ((L.take i).filter (fun e => e.1 != ch.key)) x (encPr x) (fun _ => True) (fun _ => False) rfl rfl rfl (fun _ q => q.elim) (fun _ _ => trivial) (Kd.R_drewN HR.out _) (below_drewN HB.out _) (below_drewN HB.out _).size (by have := HDL.out; omega) ?_); intro v7 w7 ho7 hb7 hg7 hat7)
        go_roundg (L.length + 1 - (i + 1))
        case measure => rw [HN.out]; omega
        case rel => exact ⟨i + 1, by go_num, by omega, rfl, by rw [HD.out]; exact ho7, hb7⟩
    · have hi2 : i = L.length := by omega
      subst hi2
      have hr2 := HR.out
      rw [List.take_length] at hr2
      have hbl := List.length_filter_le (fun e : Int × Int => e.1 != ch.key) L
      have hblk : wr.heap[b1]? = some (.cells #[.slice A L.length c, qv, tv, Ze.a, Ze.b, Ze.c] 38 (0, 0)) := (hb.block _ (by have := H.out.fb _ H.out.b; have := HB0.out.size; omega)).trans ((HB0.out.block _ (H.out.fb _ H.out.b)).trans H.out.blk)
      have hz : wr.frozen? ⟨b1, 0, none⟩ = false := by simp [World.frozen?, hblk]
      cases qk : (ch.kind == 1)
      · have hsd : setD L ch = L.filter (fun e => e.1 != ch.key) := by unfold setD; rw [qk]; rfl
        obtain ⟨A5, c5, hv5⟩ := Kd.R_slice hr2
        have hnb : ∀ k, u4.ownBlock = some k → w.heap.size ≤ k := fun k hk => Nat.le_trans HB0.out.size ((Kd.R_bound hr2).1 k hk |>.2.1)
        subst hv5
        have hp := H.out.pairs (HB0.out.trans (hb.mono HB0.out.size)) (Kd.R_lower hr2 (Nat.zero_le _)) hnb
        rw [← hsd] at hp
        have HP := hid hp
        have HSD := hid hsd
        clear hp hnb hr2 hblk hsd hb
        go_wp2_with fail
        go_end0
        rw [← HSD.out]
        exact ⟨rfl, _, HP.out.1, HP.out.2⟩
      · have hsd : setD L ch = L.filter (fun e => e.1 != ch.key) ++ [(ch.key, ch.val)] := by unfold setD; rw [qk]; rfl
        have HR2 := hid hr2
        have HSD := hid hsd
        have HBK := hid hblk
        clear hr2 hsd hblk hb
        go_wp2_with (at_builtin; go_loud (refine Kd.R_append kpr (w0 := wa) wa.heap.size rfl (.tmp 39) (.tmp 45) 26 106 _ 16 rfl Tryz.underlying26 info106 (by rfl) (by decide) (by decide) u4 (L.filter (fun e => e.1 != ch.key)) (ch.key, ch.val) (encPr (ch.key, ch.val)) (fun _ => True) (fun _ => False) rfl rfl rfl (fun _ q => q.elim) (fun _ _ => trivial) HR2.out HB.out HB.out.size (by omega) ?_); intro v7 w7 ho7 hb7 hg7 hat7; have hblk7 : w7.heap[b1]? = some (.cells #[.slice A L.length c, qv, tv, Ze.a, Ze.b, Ze.c] 38 (0, 0)) := ((hb7.block _ (by have := H.out.fb _ H.out.b; have := HB0.out.size; omega)).trans ((HB0.out.block _ (H.out.fb _ H.out.b)).trans H.out.blk)); have hz7 : w7.frozen? ⟨b1, 0, none⟩ = false := (by simp [World.frozen?, hblk7]); have hc7 : w7.cell? ⟨b1, 0, none⟩ = some (.slice A L.length c) := (by rw [cell_of_row _ _ 0 _ _ _ hblk7]; rfl); have hnb : ∀ k, v7.ownBlock = some k → w.heap.size ≤ k := (fun k hk => Nat.le_trans HB0.out.size ((Kd.R_bound ho7).1 k hk |>.2.1)); have hp := H.out.pairs (HB0.out.trans (hb7.mono HB0.out.size)) (Kd.R_lower ho7 (Nat.zero_le _)) hnb; rw [← HSD.out] at hp; obtain ⟨A7, c7, hv7⟩ := Kd.R_slice ho7; subst hv7; have HP := hid hp; clear hp hnb ho7 hb7 hg7 hat7 hblk7)
        go_end0
        first
          | exact ⟨rfl, _, HP.out.1, HP.out.2⟩
          | (have hp := HP.out; simp only [List.length_append, List.length_singleton] at hp; exact ⟨rfl, _, hp.1, hp.2⟩)
end Go.Proofs.YtdejbinmnoabeaaGreat.D
