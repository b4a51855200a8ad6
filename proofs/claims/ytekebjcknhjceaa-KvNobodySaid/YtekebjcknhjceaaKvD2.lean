/- Walks of the document's store: touch. Conditions: the store reads as DsR says. -/
import Derived.Test.YtekebjcknhjceaaKvD1
namespace Go.Proofs.Ytekebjcknhjceaa
open Go.RowKit Go.Mine Go.Proofs.YtekebjcknhjceaaW.PrintWords
set_option linter.unusedVariables false
set_option linter.unusedSimpArgs false
section
variable {F F' : Nat → Prop} {w w' : World} {b1 : Nat} {L L' : List (Int × Int)} {I I' : List WI} {lk lk' : LTab} {pv qv tv pv' qv' tv' : Value}
/-- A work is new. -/
theorem WpRow.typed {l : List Nat} (h : WpRow w qv l) {k : Nat} (hk : qv.ownBlock = some k) : ∃ cells, w.heap[k]? = some (.cells cells 57 (0, 0)) := by
  obtain ⟨h0, inner, ho, hr⟩ := h
  exact own_typed ho k hk
theorem PrRow.typed {l : List (Int × Int)} (h : PrRow w pv l) {k : Nat} (hk : pv.ownBlock = some k) : ∃ cells, w.heap[k]? = some (.cells cells 90 (0, 0)) := by
  obtain ⟨h0, inner, ho, hr⟩ := h
  exact own_typed ho k hk
theorem LkRow.typed {l : LTab} (h : LkRow w tv l) {k : Nat} (hk : tv.ownBlock = some k) : ∃ cells, w.heap[k]? = some (.cells cells 106 (0, 0)) := by
  obtain ⟨h0, inner, ho, hr⟩ := h
  exact own_typed ho k hk
theorem types_ne {k t t' : Nat} (h : ∃ cells, w.heap[k]? = some (.cells cells t (0, 0))) (h' : ∃ cells, w.heap[k]? = some (.cells cells t' (0, 0))) (ht : t ≠ t') : False := by
  obtain ⟨c, h⟩ := h
  obtain ⟨c', h'⟩ := h'
  rw [h] at h'
  simp at h'
  exact ht h'.2
theorem DsR.addw (h : DsR F w b1 L I lk pv qv tv) {y : WI} (hf : Fr (fun i => i = b1 ∨ qv.ownBlock = some i) w w') (hb : w'.heap[b1]? = some (.cells #[pv, qv', tv'] 49 (0, 0)))
    (hp : PrRow w' pv L) (hq : WpRow w' qv' ((I ++ [y]).map (·.wb))) (ht : LkRow w' tv' lk') (hy : w'.heap[y.wb]? = some (.cells #[.int .i64 y.n, y.v, .bool y.p] 88 (0, 0)))
    (hyw : w.heap.size ≤ y.wb) (hyr : ChRow w' y.v y.l) (hyo : ∀ k, y.v.ownBlock = some k → w.heap.size ≤ k)
    (oq : ∀ j, qv'.ownBlock = some j → qv.ownBlock = some j ∨ w.heap.size ≤ j) (ot : ∀ j, tv'.ownBlock = some j → tv.ownBlock = some j ∨ w.heap.size ≤ j) :
    DsR (more F w w') w' b1 L (I ++ [y]) lk' pv qv' tv' where
  fb := more_lt h.fb hf.size
  b := .inl h.b
  blk := hb
  pr := hp
  wp := hq
  lr := ht
  pF k hk := .inl (h.pF k hk)
  qF k hk := (oq k hk).elim (fun q => .inl (h.qF k q)) (fun q => .inr ⟨q, row_lt hq k hk⟩)
  tF k hk := (ot k hk).elim (fun q => .inl (h.tF k q)) (fun q => .inr ⟨q, row_lt ht k hk⟩)
  wk x hx := by
    rcases List.mem_append.1 hx with hxI | hx
    · have h1 := h.wk x hxI
      have h2 : x.wb ≠ b1 := h.wb_ne hxI
      refine ⟨.inl h1.1, hf.at_ h1.2.1 (fun q => q.elim h2 (fun q => types_ne (h.wp.typed q) ⟨_, h1.2.1⟩ (by decide))), h1.2.2.1.move (fun k hk => hf.block k (h1.2.2.1.lt k hk) (fun q => ?_)), fun k hk => .inl (h1.2.2.2 k hk)⟩
      rcases q with q | q
      · exact h1.2.2.1.ne h.blk (by decide) (by rw [hk, q])
      · exact types_ne (h.wp.typed q) (h1.2.2.1.typed k hk) (by decide)
    · obtain rfl := List.mem_singleton.1 hx
      exact ⟨.inr ⟨hyw, (Array.getElem?_eq_some_iff.1 hy).1⟩, hy, hyr, fun k hk => .inr ⟨hyo k hk, hyr.lt k hk⟩⟩
  apart := by
    rw [List.pairwise_append]
    refine ⟨h.apart, List.pairwise_singleton _ _, fun x hx z hz => ?_⟩
    obtain rfl := List.mem_singleton.1 hz
    have h1 := h.wk x hx
    refine ⟨fun e => ?_, fun k hk e => ?_⟩
    · have := h.fb _ h1.1
      omega
    · have h2 := h1.2.2.1.lt k hk
      have h3 := hyo k e
      omega
/-- The locks are turned. -/
theorem DsR.lock (h : DsR F w b1 L I lk pv qv tv) (hr : RS w' b1 pv qv tv' lk') (hf : Fr (fun i => i = b1) w w') (ot : ∀ j, tv'.ownBlock = some j → tv.ownBlock = some j ∨ w.heap.size ≤ j) : DsR (more F w w') w' b1 L I lk' pv qv tv' :=
  h.turn hf hr.1 (h.pr.move (fun k hk => hf.block k (row_lt h.pr k hk) (fun q => h.pr.ne h.blk (by decide) (by rw [hk, q])))) (h.wp.move (fun k hk => hf.block k (row_lt h.wp k hk) (fun q => h.wp.ne h.blk (by decide) (by rw [hk, q])))) hr.2 (List.Sublist.refl _) (fun j hj => .inl hj) (fun j hj => .inl hj) ot
end
def DTouch (F : Nat → Prop) (w : World) (b1 : Nat) (L : List (Int × Int)) (pv : Value) (R : Int × KS) (e : Ending) (w' : World) : Prop :=
  e = .returned (.int .i64 R.1) ∧ ∃ F' I' qv' tv', DsR F' w' b1 L I' R.2.lk pv qv' tv' ∧ Grew F F' w ∧ R.2.ws = wsOf I' ∧ Fr F w w'
set_option maxRecDepth 100000 in
set_option maxHeartbeats 4000000 in
theorem dtouch_any {F : Nat → Prop} {w : World} {b1 : Nat} {L : List (Int × Int)} {I : List WI} {pv qv tv : Value} {s : KS} (h : DsR F w b1 L I s.lk pv qv tv) (hws : s.ws = wsOf I) (hn : I.length ≤ 1000) (hl : Right s.lk) (n k : Int) (al : Bool) :
    Calls Try.prog 47 #[.pointer (some ⟨b1, 0, none⟩), .int .i64 n, .int .i64 k, .bool al] w (DTouch F w b1 L pv (s.touch n k al)) := by
  have hg := aget_ws n I
  rw [← hws] at hg
  have hfd := dfind_any h (by omega) n
  unfold findB at hfd
  have htk := ref_take (⟨h.blk, h.lr⟩ : RS w b1 pv qv tv s.lk) hl n k al
  have H := hid h
  have HWS := hid hws
  have HTK := hid htk
  clear h hws htk hl
  by_cases hbad : n < 1 ∨ k < 0 ∨ 16 ≤ k
  · have hE := touch_bad (s := s) (al := al) hbad
    have HE := hid hE
    clear hE hg hfd
    go_enter Try.func47, Try.ntmps47
    have hb2 : (decide (n < 1) || decide (k < 0) || decide (15 < k)) = true := by
      simp only [Bool.or_eq_true, decide_eq_true_eq]; omega
    go_wp2_with fail
    all_goals first
      | (go_ret; unfold DTouch; rw [HE.out]; exact ⟨rfl, F, I, qv, tv, H.out, Grew.refl _ _, HWS.out, Fr.refl _ _⟩)
      | (exfalso; omega)
  · have hn1 : ¬ n < 1 := fun q => hbad (.inl q)
    have hk0 : ¬ k < 0 := fun q => hbad (.inr (.inl q))
    have hk1 : ¬ 15 < k := fun q => hbad (.inr (.inr (by omega)))
    have HBAD := hid hbad
    clear hbad
    cases hf : I.find? (fun x => decide (x.n = n)) with
    | some x =>
      rw [hf] at hfd hg
      simp only [Option.map_some] at hfd hg
      have hxI := List.mem_of_find?_eq_some hf
      have hx := H.out.wk x hxI
      have k2 : w.cell? ⟨x.wb, 2, none⟩ = some (.bool x.p) := by rw [cell_of_row _ _ 2 _ _ _ hx.2.1]; rfl
      have HFD := hid hfd
      clear hf hx hfd
      cases hp : x.p
      · rw [hp] at k2
        by_cases hc : (takeA s.lk n k al).1 = 0
        · have hE := touch_done (s := s) (key := k) (al := al) HBAD.out (by rw [hg]; exact hp) hc
          rw [if_pos (by rw [hg]; rfl)] at hE
          have HE := hid hE
          have HC := hid hc
          clear hE hg hc
          go_enter Try.func47, Try.ntmps47
          go_wp2_with fail
          refine HFD.out.mono ?_
          rintro e w1 ⟨rfl, rfl⟩
          go_wp2_with fail
          refine HTK.out.mono ?_
          rintro e w2 ⟨he, tv', hr2, ho2, hf2⟩
          subst he
          rw [HC.out]
          go_wp2_with fail
          go_ret
          unfold DTouch
          rw [HE.out]
          exact ⟨rfl, _, I, qv, tv', H.out.lock hr2 hf2 ho2, grew_more _ _ _, HWS.out, hf2.mono (fun i hi => by rw [hi]; exact H.out.b)⟩
        · have hE := touch_lock (s := s) (key := k) (al := al) HBAD.out (by rw [hg]; exact hp) hc
          have hkp := takeA_keep hc
          have hcz : ((takeA s.lk n k al).1 == 0) = false := by simpa using hc
          have HE := hid hE
          have HKP := hid hkp
          clear hE hg hc hkp
          go_enter Try.func47, Try.ntmps47
          go_wp2_with fail
          refine HFD.out.mono ?_
          rintro e w1 ⟨rfl, rfl⟩
          go_wp2_with fail
          refine HTK.out.mono ?_
          rintro e w2 ⟨rfl, tv', hr2, ho2, hf2⟩
          rw [HKP.out] at hr2
          go_wp2_with fail
          go_ret
          unfold DTouch
          rw [HE.out]
          exact ⟨rfl, _, I, qv, tv', H.out.lock hr2 hf2 ho2, grew_more _ _ _, HWS.out, hf2.mono (fun i hi => by rw [hi]; exact H.out.b)⟩
      · rw [hp] at k2
        have hE := touch_prep (s := s) (key := k) (al := al) HBAD.out (by rw [hg]; exact hp)
        have HE := hid hE
        clear hE hg
        go_enter Try.func47, Try.ntmps47
        go_wp2_with fail
        refine HFD.out.mono ?_
        rintro e w1 ⟨rfl, rfl⟩
        go_wp2_with fail
        go_ret
        unfold DTouch
        rw [HE.out]
        exact ⟨rfl, F, I, qv, tv, H.out, Grew.refl _ _, HWS.out, Fr.refl _ _⟩
    | none =>
      rw [hf] at hfd hg
      simp only [Option.map_none] at hfd hg
      have HFD := hid hfd
      clear hf hfd
      by_cases hc : (takeA s.lk n k al).1 = 0
      · have hE := touch_done (s := s) (key := k) (al := al) HBAD.out (by rw [hg]; rfl) hc
        rw [if_neg (by rw [hg]; simp)] at hE
        have HE := hid hE
        have HC := hid hc
        clear hE hg hc
        obtain ⟨A, c, rfl, hAc, _⟩ := wp_at H.out.wp
        rw [List.length_map] at hAc H HTK
        go_enter Try.func47, Try.ntmps47
        go_wp2_with fail
        refine HFD.out.mono ?_
        rintro e w1 ⟨rfl, rfl⟩
        go_wp2_with fail
        refine HTK.out.mono ?_
        rintro e w2 ⟨he, tv', hr2, ho2, hf2⟩
        subst he
        rw [HC.out]
        have hc2 : w2.cell? ⟨b1, 1, none⟩ = some (.slice A I.length c) := by rw [cell_of_row w2 b1 1 _ _ _ hr2.1]; rfl
        have hb3 : Below w2.heap.size w2 (w2.alloc (.cells #[.int .i64 n, .slice none 0 0, .bool false] 88)) := (Below.refl _ _).alloc (Nat.le_refl _) _
        have hy3 : (w2.alloc (.cells #[.int .i64 n, .slice none 0 0, .bool false] 88)).heap[w2.heap.size]? = some (.cells #[.int .i64 n, .slice none 0 0, .bool false] 88 (0, 0)) := (MapKept.heap_alloc w2 _).1
        have hq2 : WpRow w2 (.slice A I.length c) (I.map (·.wb)) := H.out.wp.move (fun j hj => hf2.block j (row_lt H.out.wp j hj) (fun q => H.out.wp.ne H.out.blk (by decide) (by rw [hj, q])))
        have hq3 := hq2.move (fun j hj => hb3.block j (row_lt hq2 j hj))
        have hr3 := hr2.below hb3
        have hc3 := (hb3.cell (World.block_lt_of_cell? _ _ hc2)).trans hc2
        have hs3 : (w2.alloc (.cells #[.int .i64 n, .slice none 0 0, .bool false] 88)).heap.size = w2.heap.size + 1 := by simp
        have HQ3 := hid hq3
        have HR3 := hid hr3
        have HB3 := hid hb3
        have HY3 := hid hy3
        have HF2 := hid hf2
        have HO2 := hid ho2
        have HS3 := hid hs3
        have hlw := hr2.lt
        clear hq2 hq3 hr3 hb3 hy3 hf2 ho2 hs3 hr2
        go_wp2_with (at_builtin; go_loud (refine Kd.R_append kwp (w0 := (w2.alloc (.cells #[.int .i64 n, .slice none 0 0, .bool false] 88))) 0 rfl (.tmp 49) (.tmp 53) 44 57 _ 8 rfl Try.underlying44 info57 (by rfl) (by decide) (by decide) (.slice A I.length c) (I.map (·.wb)) w2.heap.size [ptrV w2.heap.size] (fun _ => True) (fun _ => False) rfl (by rw [HS3.out]; rfl) rfl (fun _ q => q.elim) (fun _ _ => trivial) HQ3.out (Below.refl _ _) (Nat.zero_le _) (by rw [List.length_map]; omega) ?_); intro v8 w8 ho8 hb8 hg8 hat8; have hx8 : w8.heap[b1]? = some (.cells #[pv, .slice A I.length c, tv'] 49 (0, 0)) := (hg8.block _ HR3.out.lt (fun q => HQ3.out.ne HR3.out.1 (by decide) q.symm)).trans HR3.out.1; have hz8 : w8.frozen? ⟨b1, 1, none⟩ = false := (by simp [World.frozen?, hx8]); have hc8 : w8.cell? ⟨b1, 1, none⟩ = some (.slice A I.length c) := (by rw [cell_of_row w8 _ 1 _ _ _ hx8]; rfl); have HO8 := hid ho8; have HX8 := hid hx8; have HG8 := hid hg8; have HAT8 := hid hat8; clear ho8 hb8 hg8 hat8 hx8; obtain ⟨A8, c8, hv8⟩ := Kd.R_slice HO8.out; rw [List.length_append, List.length_singleton, List.length_map] at hv8; subst hv8)
        have hw3 : Fr (fun i => i = b1) w (w2.alloc (.cells #[.int .i64 n, .slice none 0 0, .bool false] 88)) := HF2.out.alloc _
        generalize w2.alloc (.cells #[.int .i64 n, .slice none 0 0, .bool false] 88) = w3 at *
        have hf8 : Fr (fun i => i = b1 ∨ (Value.slice A I.length c).ownBlock = some i) w3 (w8.setCell ⟨b1, 1, none⟩ (.slice A8 (I.length + 1) c8)) := Fr.setCell (p := ⟨b1, 1, none⟩) ((Fr.of_grown HG8.out).mono (fun j hj => .inr hj)) (.inl (.inl rfl)) _
        have hfw : Fr (fun i => i = b1 ∨ (Value.slice A I.length c).ownBlock = some i) w (w8.setCell ⟨b1, 1, none⟩ (.slice A8 (I.length + 1) c8)) := (hw3.mono (fun i hi => .inl hi)).trans hf8 (fun i hi => .inl hi)
        have hsw : w.heap.size ≤ w2.heap.size := HF2.out.size
        have hne : ∀ j, (Value.slice A I.length c).ownBlock = some j → j ≠ b1 := fun j hj q => HQ3.out.ne HR3.out.1 (by decide) (by rw [hj, q])
        have hyk := hf8.at_ HY3.out (fun q => by
          rcases q with q | q
          · have := hlw; omega
          · exact types_ne (HQ3.out.typed q) ⟨_, HY3.out⟩ (by decide))
        have hpr : PrRow (w8.setCell ⟨b1, 1, none⟩ (.slice A8 (I.length + 1) c8)) pv L := H.out.pr.move (fun j hj => hfw.block j (row_lt H.out.pr j hj) (fun q => by
          rcases q with q | q
          · exact H.out.pr.ne H.out.blk (by decide) (by rw [hj, q])
          · exact types_ne (H.out.wp.typed q) (H.out.pr.typed hj) (by decide)))
        have htr : LkRow (w8.setCell ⟨b1, 1, none⟩ (.slice A8 (I.length + 1) c8)) tv' (takeA s.lk n k al).2 := HR3.out.2.move (fun j hj => hf8.block j (HR3.out.2.lt j hj) (fun q => by
          rcases q with q | q
          · exact HR3.out.2.ne49 HR3.out.1 (by rw [hj, q])
          · exact types_ne (HQ3.out.typed q) (HR3.out.2.typed hj) (by decide)))
        have hqr : WpRow (w8.setCell ⟨b1, 1, none⟩ (.slice A8 (I.length + 1) c8)) (.slice A8 (I.length + 1) c8) (I.map (·.wb) ++ [w2.heap.size]) := by
          have h0 : WpRow w8 (.slice A8 (I.length + 1) c8) (I.map (·.wb) ++ [w2.heap.size]) := HO8.out
          exact h0.move (fun j hj => Below.heap_setCell _ _ _ _ (fun q => h0.ne HX8.out (by decide) (by rw [hj]; exact congrArg some q)))
        have hb9 := blk_set' HX8.out 1 (.slice A8 (I.length + 1) c8)
        have hfin := H.out.addw (y := ⟨n, w2.heap.size, .slice none 0 0, [], false⟩) hfw hb9 hpr (by rw [List.map_append]; exact hqr) htr hyk hsw (ChRow.none_ _) (fun j hj => by simp [Value.ownBlock] at hj) (fun j hj => by
          rcases HAT8.out with q | ⟨b, q, hb⟩
          · exact .inl (q ▸ hj)
          · rw [hj] at q; cases q; exact .inr (Nat.le_trans hw3.size hb)) HO2.out
        go_ret
        unfold DTouch
        rw [HE.out]
        refine ⟨rfl, _, _, _, _, hfin, grew_more _ _ _, ?_, hfw.mono (fun i hi => ?_)⟩
        · show s.ws ++ [(n, ⟨[], false⟩)] = wsOf (I ++ [⟨n, w2.heap.size, .slice none 0 0, [], false⟩])
          rw [HWS.out]
          simp [wsOf]
        · rcases hi with q | q
          · rw [q]; exact H.out.b
          · exact H.out.qF i q
      · have hE := touch_lock (s := s) (key := k) (al := al) HBAD.out (by rw [hg]; rfl) hc
        have hkp := takeA_keep hc
        have hcz : ((takeA s.lk n k al).1 == 0) = false := by simpa using hc
        have HE := hid hE
        have HKP := hid hkp
        clear hE hg hc hkp
        go_enter Try.func47, Try.ntmps47
        go_wp2_with fail
        refine HFD.out.mono ?_
        rintro e w1 ⟨rfl, rfl⟩
        go_wp2_with fail
        refine HTK.out.mono ?_
        rintro e w2 ⟨rfl, tv', hr2, ho2, hf2⟩
        rw [HKP.out] at hr2
        go_wp2_with fail
        go_ret
        unfold DTouch
        rw [HE.out]
        exact ⟨rfl, _, I, qv, tv', H.out.lock hr2 hf2 ho2, grew_more _ _ _, HWS.out, hf2.mono (fun i hi => by rw [hi]; exact H.out.b)⟩
end Go.Proofs.Ytekebjcknhjceaa
