/- Texts of this seat, put together: KvW4. -/
import Derived.Test.YtdejbinmnoabeaaGreatBm4
import Derived.Lib.SliceRun
import Derived.BigRegion
namespace Go.Proofs.YtdejbinmnoabeaaGreat.K
variable {Pz : List Value}
open Go.RowKit Go.Mine Go.Proofs.YtdejbinmnoabeaaGreatW.PrintWords
open Go.ChangeMaps (setBlock)
set_option linter.unusedVariables false
set_option linter.unusedSimpArgs false
theorem ChAt.row {w : World} {B : Nat} {A : Option Addr} {l : List Ch} (h : ChAt w B A l) (hn : l.length ≤ 1000000000000) : kch.C w A l.length l := by
  refine ⟨rfl, by omega, fun hp => ?_⟩
  obtain ⟨b, off, e, _, _⟩ := h 0 l[0] (List.getElem?_eq_getElem hp)
  refine ⟨⟨b, off, none⟩, e, fun j p hj => ⟨encCh p, rfl, rfl, fun i u hu => ?_⟩⟩
  obtain ⟨b', off', e', _, hc⟩ := h j p hj
  rw [e] at e'
  cases e'
  have : (⟨b, off, none⟩ : Addr).add (j * kch.sz + i) = ⟨b, off + j * 3 + i, none⟩ := by
    show (⟨b, off, none⟩ : Addr).add (j * 3 + i) = _
    unfold Addr.add
    split <;> simp_all [Nat.add_assoc]
  rw [this]
  exact hc i u hu
set_option maxRecDepth 100000 in
set_option maxHeartbeats 2000000 in
theorem clone_any (A : Option Addr) (l : List Ch) (c B : Nat) (w : World) (hl : ChAt w B A l) (hn : l.length ≤ 1000000000) (hc : l.length ≤ c) :
    Calls Tryz.prog 84 #[.slice A l.length c] w fun e w' => ∃ v, e = .returned v ∧ ChRow w' v l ∧ (∀ k, v.ownBlock = some k → w.heap.size ≤ k) ∧ Below w.heap.size w w' := by
  cases A with
  | none =>
    have hl0 : l = [] := by
      cases l with
      | nil => rfl
      | cons x xs => obtain ⟨b, off, e, _⟩ := hl 0 x rfl; cases e
    subst hl0
    have hnil : ∀ w', (binOp .eql 40 (.slice none 0 c) (.slice none 0 0)).run Tryz.prog w' = .ok (.bool true) w' := fun w' => Lib.run_eql_slice_nil (P := Tryz.prog) w' 40 90 _ _ _ _ _ Tryz.underlying40
    go_enter Tryz.func84, Tryz.ntmps84
    go_wp2_with fail
    go_ret
    exact ⟨.slice none 0 0, rfl, ChRow.none_ _, fun k hk => by simp [Value.ownBlock] at hk, Below.refl _ _⟩
  | some a =>
    have hrow := hl.row (by omega)
    have HR := hid hrow
    clear hl hrow
    have hnil : ∀ w', (binOp .eql 40 (.slice (some a) l.length c) (.slice none 0 0)).run Tryz.prog w' = .ok (.bool false) w' := fun w' => Lib.run_eql_slice_nil (P := Tryz.prog) w' 40 90 _ _ _ _ _ Tryz.underlying40
    go_enter Tryz.func84, Tryz.ntmps84
    go_wp2_with (first
      | ((with_reducible refine gate_dst (N := 5) rfl ?_); go_loud (refine Kd.R_lit kch w.heap.size 90 rfl (N := 5) rfl (xs := ([] : List Ch)) (inner := []) (ok := fun _ => True) (okp := fun _ => True) ?hr ?hp (fun _ hk => hk) trivial (Below.refl _ _) (Nat.le_refl _) (by simp) ?_); (case hr => first | (go_simp; done) | (go_simp; rfl)); (case hp => exact (Reps.none _ _)); intro v5 w5 ho5 hb5 hg5 hnew5; have HO5 := hid ho5; have HB5 := hid hb5; clear ho5 hb5 hg5 hnew5)
      | (at_builtin; go_loud (refine Kd.R_append_rows kch (Rr := fun x cs => cs = encCh x) (w0 := w) w.heap.size rfl (.tmp 5) (.tmp 6) 40 90 _ 24 rfl Tryz.underlying40 info90 (by rfl) (by decide) (by decide) v5 [] l _ _ _ (fun _ => True) (fun _ => False) rfl rfl HO5.out (ReadsRow.imp_ HR.out HB5.out (fun _ _ h => h)) (fun _ _ h => h) (fun _ h => h.elim) (fun _ _ => trivial) HB5.out HB5.out.size (by simp; omega) ?_); intro v7 w7 ho7 hb7 hg7 hat7; have HO7 := hid ho7; have HB7 := hid hb7; clear ho7 hb7 hg7 hat7))
    go_ret
    refine ⟨v7, rfl, ?_, fun k hk => Kd.R_base HO7.out k hk, HB7.out⟩
    have := Kd.R_lower HO7.out (Nat.zero_le _)
    simpa using this
theorem adel_ws (n : Int) (I : List WI) : adel n (wsOf I) = wsOf (I.filter (fun x => decide (x.n ≠ n))) := by
  unfold adel wsOf
  rw [List.filter_map]
  rfl
theorem adel_kv (n : Int) (I : List WI) : adel n (I.map (fun x => (x.n, x.wb))) = (I.filter (fun x => decide (x.n ≠ n))).map (fun x => (x.n, x.wb)) := by
  unfold adel
  rw [List.filter_map]
  rfl
set_option maxRecDepth 100000 in
set_option maxHeartbeats 2000000 in
theorem gone_any {F : Nat → Prop} {w : World} {b0 : Nat} {s : KS} (h : KvAt Pz F w b0 s) (n : Int) :
    Calls Tryz.prog 80 #[.pointer (some ⟨b0, 0, none⟩), .int .i64 n] w fun e w' => e = .returned (.tuple #[]) ∧ (∃ F', KvAt Pz F' w' b0 (s.gone n) ∧ Grew F F' w) ∧ Fr F w w' := by
  have hokg := h.1.gone n
  obtain ⟨hok, I, L, mo, lo, h, hws⟩ := h
  have hd := drop_A h.lt (by have := hok.rk.len; omega) n
  have HD := hid hd
  have HW := hid hws
  have H := hid h
  have HK := hid hokg
  clear hd hws hok h hokg
  go_enter Tryz.func80, Tryz.ntmps80
  go_wp2_with fail
  refine HD.out.mono ?_
  rintro e w1 ⟨rfl, ht1, hf1⟩
  have h1 := H.out.locks' ht1 hf1
  have fr1 : Fr F w w1 := hf1.mono (fun i hi => H.out.lF i hi)
  have hc : w1.cell? ⟨b0, 32, none⟩ = some (.map mo) := by rw [cell_of_row w1 b0 32 _ _ _ h1.blk]; exact sc32 h1.lv h1.lth mo lo
  have H1 := hid h1
  have hwsg : (s.gone n).ws = wsOf (I.filter (fun x => decide (x.n ≠ n))) := by
    show adel n s.ws = _
    rw [HW.out, adel_ws]
  have HG := hid hwsg
  clear h1 ht1 hf1 HD hwsg
  cases mo with
  | none =>
    have hL : L = [] := H1.out.map
    have hI : I = [] := by
      have := H1.out.kvL
      rw [hL] at this
      exact List.map_eq_nil_iff.1 this.symm
    have hdel := fun ty => run_delete_nil (ty := ty) Tryz.underlying69 key3 w1 n
    clear hL
    go_wp2_with fail
    go_end0
    refine ⟨rfl, ⟨F, ⟨HK.out, I, L, none, lo, H1.out, ?_⟩, Grew.refl _ _⟩, fr1⟩
    rw [HG.out, hI]; rfl
  | some b =>
    obtain ⟨cc, hm⟩ := H1.out.map
    obtain ⟨w2, hrun, hm2, f2, s2⟩ := run_delete (P := Tryz.prog) (ty := 0) Tryz.underlying69 key3 hm n
    have hb2 := f2.at_ H1.out.blk (fun q => H1.out.mo_ne.1 (by rw [q]))
    have h2 := H1.out.works (mo' := some b) (L' := mdel n L) (I' := I.filter (fun x => decide (x.n ≠ n))) hb2 ⟨cc, hm2⟩ (.inl rfl) (f2.mono (fun i hi => .inr (by rw [hi]))) (by rw [kv_del, H1.out.kvL, adel_kv]) (fun x hx => (List.mem_filter.1 hx).1) (H1.out.apart.filter _)
    have H2 := hid h2
    have fr2 : Fr F w w2 := fr1.trans f2 (fun i hi => .inl (by rw [hi]; exact H.out.mF b rfl))
    clear h2 hb2 hm2 hm s2 f2
    go_wp2_with fail
    go_end0
    exact ⟨rfl, ⟨more F w1 w2, ⟨HK.out, _, _, _, _, H2.out, HG.out⟩, fun i hi => (grew_more F w1 w2 i hi).imp id (fun q => Nat.le_trans fr1.size q)⟩, fr2⟩
def SPost (Pz : List Value) (F : Nat → Prop) (w : World) (b0 : Nat) (r : Int) (s' : KS) (e : Ending) (w' : World) : Prop :=
  e = .returned (.int .i64 r) ∧ (∃ F', KvAt Pz F' w' b0 s' ∧ Grew F F' w) ∧ Fr F w w'
set_option maxHeartbeats 1000000 in
theorem backout_any {F : Nat → Prop} {w : World} {b0 : Nat} {s : KS} (h : KvAt Pz F w b0 s) (n : Int) :
    Calls Tryz.prog 63 #[.pointer (some ⟨b0, 0, none⟩), .int .i64 n] w (SPost Pz F w b0 (s.backout n).1 (s.backout n).2) := by
  have hg := gone_any h n
  have H := hid h
  have HG := hid hg
  clear hg
  go_enter Tryz.func63, Tryz.ntmps63
  go_wp2_with fail
  refine (fit_any _ _ _).mono ?_
  rintro e w1 ⟨rfl, rfl⟩
  by_cases hn : n < 1
  · have e1 : s.backout n = (1, s) := by simp [KS.backout, hn]
    simp only [reduceCtorEq, if_false, hn, if_true]
    go_wp2_with fail
    go_ret
    exact ⟨by rw [e1]; rfl, ⟨F, by rw [e1]; exact H.out, Grew.refl _ _⟩, Fr.refl _ _⟩
  · have e1 : s.backout n = (0, s.gone n) := by simp [KS.backout, hn]
    simp only [reduceCtorEq, if_false, hn]
    go_wp2_with fail
    refine HG.out.mono ?_
    rintro e w2 ⟨rfl, h2, f2⟩
    go_wp2_with fail
    go_ret
    exact ⟨by rw [e1]; rfl, by rw [e1]; exact h2, f2⟩
set_option maxRecDepth 100000 in
set_option maxHeartbeats 1000000 in
theorem value_any {F : Nat → Prop} {w : World} {b0 : Nat} {s : KS} (h : KvAt Pz F w b0 s) (key : Int) :
    Calls Tryz.prog 44 #[.pointer (some ⟨b0, 0, none⟩), .int .i64 key] w fun e w' => e = .returned (.tuple #[.int .u64 (s.value key).1, .bool (s.value key).2]) ∧ ∃ m, w' = w.drewN m := by
  obtain ⟨hok, I, L, mo, lo, h, hws⟩ := h
  by_cases h1 : key < 0
  · have e1 : s.value key = (0, false) := by simp [KS.value, h1]
    rw [e1]
    clear h
    go_enter Tryz.func44, Tryz.ntmps44
    go_wp2_with fail
    go_ret2
    exact ⟨rfl, 0, rfl⟩
  · by_cases h2 : 16 ≤ key
    · have e1 : s.value key = (0, false) := by simp [KS.value, h2]
      rw [e1]
      clear h
      go_enter Tryz.func44, Tryz.ntmps44
      go_wp2_with fail
      go_ret2
      exact ⟨rfl, 0, rfl⟩
    · obtain ⟨k, rfl⟩ := Int.eq_ofNat_of_zero_le (show 0 ≤ key by omega)
      have e1 : s.value k = (s.vs.getD k 0, s.th.getD k false) := by
        unfold KS.value
        rw [if_neg (by omega)]
        rfl
      have hc := h.bcells k (by omega)
      obtain ⟨hca, hcb⟩ := hc
      have hki : (k : Int) < 16 := by omega
      rw [e1]
      generalize s.vs.getD k 0 = a at *
      generalize s.th.getD k false = b at *
      clear h e1 hws hok
      go_enter Tryz.func44, Tryz.ntmps44
      go_wp2_with fail
      go_quiet (fail)
      go_wp2_with fail
      go_ret2
      exact ⟨rfl, _, rfl⟩
end Go.Proofs.YtdejbinmnoabeaaGreat.K
namespace Go.Proofs.YtdejbinmnoabeaaGreat.K
variable {Pz : List Value}
open Go.RowKit Go.Mine Go.Proofs.YtdejbinmnoabeaaGreatW.PrintWords
open Go.ChangeMaps (setBlock)
set_option linter.unusedVariables false
set_option linter.unusedSimpArgs false
def PrepPost (Pz : List Value) (F : Nat → Prop) (w : World) (b0 : Nat) (s : KS) (n : Int) (e : Ending) (w' : World) : Prop :=
  ∃ v, e = .returned (.tuple #[v, .int .i64 (s.prepare n).1.2]) ∧ (∃ F', KvAt Pz F' w' b0 (s.prepare n).2 ∧ Grew F F' w ∧ (∀ k, v.ownBlock = some k → w.heap.size ≤ k ∧ ¬ F' k)) ∧ ChRow w' v (s.prepare n).1.1 ∧ Fr F w w'
theorem prep_low {s : KS} {n : Int} (h : n < 1) : s.prepare n = (([], 1), s) := by simp [KS.prepare, h]
theorem prep_none {s : KS} {n : Int} (h : ¬ n < 1) (hg : aget n s.ws = none) : s.prepare n = (([], 0), s.gone n) := by simp [KS.prepare, h, hg]
theorem prep_again {s : KS} {n : Int} {v : KW} (h : ¬ n < 1) (hg : aget n s.ws = some v) (hp : v.p = true) : s.prepare n = (([], 7), s) := by simp [KS.prepare, h, hg, hp]
theorem prep_empty {s : KS} {n : Int} {v : KW} (h : ¬ n < 1) (hg : aget n s.ws = some v) (hp : v.p = false) (hl : v.l = []) : s.prepare n = (([], 0), s.gone n) := by simp [KS.prepare, h, hg, hp, hl]
theorem prep_done {s : KS} {n : Int} {v : KW} (h : ¬ n < 1) (hg : aget n s.ws = some v) (hp : v.p = false) (hl : v.l ≠ []) : s.prepare n = ((v.l, 0), { s with ws := aput n ⟨v.l, true⟩ s.ws }) := by simp [KS.prepare, h, hg, hp, hl]
set_option maxRecDepth 100000 in
set_option maxHeartbeats 4000000 in
theorem prepare_any {F : Nat → Prop} {w : World} {b0 : Nat} {s : KS} (h : KvAt Pz F w b0 s) (n : Int) :
    Calls Tryz.prog 53 #[.pointer (some ⟨b0, 0, none⟩), .int .i64 n] w (PrepPost Pz F w b0 s n) := by
  have hgone := gone_any h n
  have hat := h
  obtain ⟨hok, I, L, mo, lo, h, hws⟩ := h
  have hl := run_lookupO Tryz.underlying69 key3 h.map (zero117 w) n false
  simp only [Bool.false_eq_true, if_false] at hl
  rw [mget_ws h n] at hl
  have hg := aget_ws n I
  rw [← hws] at hg
  have hc : w.cell? ⟨b0, 32, none⟩ = some (.map mo) := by rw [cell_of_row w b0 32 _ _ _ h.blk]; exact sc32 h.lv h.lth mo lo
  have HOK := hid hok
  have HW := hid hws
  have HAT := hid hat
  have HGN := hid hgone
  have H := hid h
  clear hok hws hat hgone h
  go_enter Tryz.func53, Tryz.ntmps53
  go_wp2_with fail
  refine (fit_any _ _ _).mono ?_
  rintro e w1 ⟨rfl, rfl⟩
  by_cases hn : n < 1
  · have HE := hid (prep_low (s := s) hn)
    simp only [reduceCtorEq, if_false, hn, if_true]
    go_wp2_with fail
    go_ret2
    refine ⟨.slice none 0 0, by rw [HE.out]; rfl, ⟨F, by rw [HE.out]; exact HAT.out, Grew.refl _ _, fun k hk => by simp [Value.ownBlock] at hk⟩, by rw [HE.out]; exact ChRow.none_ _, Fr.refl _ _⟩
  · simp only [reduceCtorEq, if_false, hn]
    have HNN := hid hn
    clear hn
    cases hf : I.find? (fun x => decide (x.n = n)) with
    | none =>
      rw [hf] at hl hg
      simp only [Option.map_none, Option.getD_none] at hl hg
      have HE := hid (prep_none HNN.out hg)
      clear hf hg
      go_wp2_with fail
      refine HGN.out.mono ?_
      rintro e w2 ⟨rfl, ⟨F', h2, g2⟩, f2⟩
      go_wp2_with fail
      go_ret2
      exact ⟨.slice none 0 0, by rw [HE.out]; rfl, ⟨F', by rw [HE.out]; exact h2, g2, fun k hk => by simp [Value.ownBlock] at hk⟩, by rw [HE.out]; exact ChRow.none_ _, f2⟩
    | some x =>
      obtain ⟨I1, I2, hI, hxn⟩ := find_split hf
      subst hI
      have hx := H.out.wk x (by simp)
      rw [hf] at hl hg
      simp only [Option.map_some, Option.getD_some] at hl hg
      have hcp : w.cell? ⟨x.wb, 1, none⟩ = some (.bool x.p) := by rw [cell_of_row w x.wb 1 _ _ _ hx.2.1]; rfl
      have hcl : w.cell? ⟨x.wb, 0, none⟩ = some x.v := by rw [cell_of_row w x.wb 0 _ _ _ hx.2.1]; rfl
      obtain ⟨A, c, hv, hAc, hch⟩ := hx.2.2.1.at_
      have hlen : x.l.length ≤ 16 := (HOK.out.chs _ (aget_mem hg)).len
      rw [hv] at hcl
      have hrw : RW x.l := HOK.out.chs _ (aget_mem hg)
      have HRW := hid hrw
      have HG := hid hg
      have HX := hid hx
      have HV := hid hv
      have HXN := hid hxn
      have HCH := hid hch
      clear hf hg hx hv hrw hxn hch
      cases hxp : x.p
      · rw [hxp] at hcp
        by_cases hl0 : x.l = []
        · have HE := hid (prep_empty HNN.out HG.out hxp hl0)
          have hll : (x.l.length : Int) = 0 := by simp [hl0]
          rw [hl0] at hcl
          simp only [List.length_nil] at hcl
          clear hl0
          go_wp2_with fail
          refine HGN.out.mono ?_
          rintro e w2 ⟨rfl, ⟨F', h2, g2⟩, f2⟩
          go_wp2_with fail
          go_ret2
          exact ⟨.slice none 0 0, by rw [HE.out]; rfl, ⟨F', by rw [HE.out]; exact h2, g2, fun k hk => by simp [Value.ownBlock] at hk⟩, by rw [HE.out]; exact ChRow.none_ _, f2⟩
        · have HE := hid (prep_done HNN.out HG.out hxp hl0)
          have hll : ((x.l.length : Int) == 0) = false := by
            have : x.l.length ≠ 0 := fun q => hl0 (List.eq_nil_of_length_eq_zero q)
            simpa using this
          have hz1 : w.frozen? ⟨x.wb, 1, none⟩ = false := by simp [World.frozen?, HX.out.2.1]
          have hcl1 : (w.setCell ⟨x.wb, 1, none⟩ (.bool true)).cell? ⟨x.wb, 0, none⟩ = some (.slice A x.l.length c) := by
            rw [World.cell?_setCell_other _ _ _ _ (by simp)]; exact hcl
          have hf1 : Fr (fun i => i = x.wb ∨ x.v.ownBlock = some i) w (w.setCell ⟨x.wb, 1, none⟩ (.bool true)) := (Fr.refl _ w).setCell (.inl (.inl rfl)) _
          have hb1 : (w.setCell ⟨x.wb, 1, none⟩ (.bool true)).heap[x.wb]? = some (.cells #[x.v, .bool true] 133 (0, 0)) := blk_set HX.out.2.1 1 _
          have hr1 : ChRow (w.setCell ⟨x.wb, 1, none⟩ (.bool true)) x.v x.l := HX.out.2.2.1.move (fun k hk => Below.heap_setCell _ _ _ _ (fun q => (H.out.row_ne (x := x) (by simp) hk).2.2.2 x (by simp) q.symm))
          obtain ⟨hK, hF⟩ := KvAt.work HOK.out H.out HW.out HXN.out HRW.out hf1 hb1 hr1 (.inl rfl)
          have HK := hid hK
          obtain ⟨A', c', hv', _, hch1⟩ := hr1.at_
          have hAA : A' = A := by have := hv'.symm.trans HV.out; injection this
          rw [hAA] at hch1
          have hsz : (w.setCell ⟨x.wb, 1, none⟩ (.bool true)).heap.size = w.heap.size := by simp [World.setCell]
          have HCL := hid (clone_any A x.l c _ _ hch1 (by omega) hAc)
          clear hK hf1 hb1 hr1 hl0 hv' hch1 hAA
          go_wp2_with fail
          refine HCL.out.mono ?_
          rintro e w2 ⟨v2, rfl, hr2, ho2, hb2⟩
          have hK2 := HK.out.below hb2
          have hf2 : Fr F w w2 := hF.trans (Fr.of_below hb2 (Nat.le_refl _)) (fun _ q => q.elim)
          have hlt := HK.out.fb
          go_wp2_with fail
          go_ret2
          refine ⟨v2, by rw [HE.out]; rfl, ⟨_, by rw [HE.out]; exact hK2, grew_more _ _ _, fun k hk => ⟨?_, fun q => ?_⟩⟩, by rw [HE.out]; exact hr2, hf2⟩
          · have := ho2 k hk; omega
          · have := ho2 k hk; have := hlt k q; omega
      · rw [hxp] at hcp
        have HE := hid (prep_again HNN.out HG.out hxp)
        go_wp2_with fail
        go_ret2
        exact ⟨.slice none 0 0, by rw [HE.out]; rfl, ⟨F, by rw [HE.out]; exact HAT.out, Grew.refl _ _, fun k hk => by simp [Value.ownBlock] at hk⟩, by rw [HE.out]; exact ChRow.none_ _, Fr.refl _ _⟩
end Go.Proofs.YtdejbinmnoabeaaGreat.K
namespace Go.Mine
theorem setVs_keep : ∀ (l : List Ch) (s : KS), (l.foldl setV s).ws = s.ws ∧ (l.foldl setV s).lk = s.lk
  | [], _ => ⟨rfl, rfl⟩
  | c :: cs, s => setVs_keep cs (setV s c)
theorem commit_low {s : KS} {n : Int} (h : n < 1) : s.commit n = (1, s) := by simp [KS.commit, h]
theorem commit_do {s : KS} {n : Int} (h : ¬ n < 1) : s.commit n = (0, ((s.listOf n).foldl setV s).gone n) := by simp [KS.commit, h]
end Go.Mine
namespace Go.Proofs.YtdejbinmnoabeaaGreat.K
variable {Pz : List Value}
open Go.RowKit Go.Mine Go.Proofs.YtdejbinmnoabeaaGreatW.PrintWords
open Go.ChangeMaps (setBlock)
set_option linter.unusedVariables false
set_option linter.unusedSimpArgs false
set_option maxRecDepth 100000 in
set_option maxHeartbeats 4000000 in
theorem commit_any {F : Nat → Prop} {w : World} {b0 : Nat} {s : KS} (h : KvAt Pz F w b0 s) (n : Int) :
    Calls Tryz.prog 48 #[.pointer (some ⟨b0, 0, none⟩), .int .i64 n] w (SPost Pz F w b0 (s.commit n).1 (s.commit n).2) := by
  have hgone := gone_any h n
  have hat := h
  obtain ⟨hok, I, L, mo, lo, h, hws⟩ := h
  have hl := run_lookupO Tryz.underlying69 key3 h.map (zero117 w) n false
  simp only [Bool.false_eq_true, if_false] at hl
  rw [mget_ws h n] at hl
  have hg := aget_ws n I
  rw [← hws] at hg
  have hc : w.cell? ⟨b0, 32, none⟩ = some (.map mo) := by rw [cell_of_row w b0 32 _ _ _ h.blk]; exact sc32 h.lv h.lth mo lo
  have HOK := hid hok
  have HW := hid hws
  have HAT := hid hat
  have HGN := hid hgone
  have H := hid h
  clear hok hws hat hgone h
  go_enter Tryz.func48, Tryz.ntmps48
  go_wp2_with fail
  refine (fit_any _ _ _).mono ?_
  rintro e w1 ⟨rfl, rfl⟩
  by_cases hn : n < 1
  · have HE := hid (commit_low (s := s) hn)
    simp only [reduceCtorEq, if_false, hn, if_true]
    go_wp2_with fail
    go_ret
    exact ⟨by rw [HE.out]; rfl, ⟨F, by rw [HE.out]; exact HAT.out, Grew.refl _ _⟩, Fr.refl _ _⟩
  · simp only [reduceCtorEq, if_false, hn]
    have HE := hid (commit_do (s := s) hn)
    clear hn
    cases hf : I.find? (fun x => decide (x.n = n)) with
    | none =>
      rw [hf] at hl hg
      simp only [Option.map_none, Option.getD_none] at hl hg
      have hlo : s.listOf n = [] := by simp [KS.listOf, hg]
      have HLO := hid hlo
      clear hf hg hlo
      go_wp2_with fail
      refine HGN.out.mono ?_
      rintro e w2 ⟨rfl, h2, f2⟩
      go_wp2_with fail
      go_ret
      exact ⟨by rw [HE.out]; rfl, by rw [HE.out, HLO.out]; exact h2, f2⟩
    | some x =>
      obtain ⟨I1, I2, hI, hxn⟩ := find_split hf
      have hxI : x ∈ I := by rw [hI]; simp
      have hx := H.out.wk x hxI
      rw [hf] at hl hg
      simp only [Option.map_some, Option.getD_some] at hl hg
      have hlo : s.listOf n = x.l := by simp [KS.listOf, hg]
      have hcl : w.cell? ⟨x.wb, 0, none⟩ = some x.v := by rw [cell_of_row w x.wb 0 _ _ _ hx.2.1]; rfl
      obtain ⟨A, c, hv, hAc, hch⟩ := hx.2.2.1.at_
      have hrw : RW x.l := HOK.out.chs _ (aget_mem hg)
      have hlen := hrw.len
      have hne : ∀ b off, A = some ⟨b, off, none⟩ → b ≠ b0 := by
        intro b off he
        have : x.v.ownBlock = some b := by rw [hv, he]; rfl
        exact (H.out.row_ne hxI this).1
      rw [hv] at hcl
      have HRW := hid hrw
      have HCH := hid hch
      have HNE := hid hne
      rw [hlo] at HE
      clear hf hg hx hv hrw hch hlo hI hne hxI HGN
      go_wp2_with fail
      go_loopg [29] (x.l.length + 1) (fun m v wr => ∃ i : Nat, v = .int .i64 i ∧ i ≤ x.l.length ∧ m = x.l.length + 1 - i ∧ KvR Pz F wr b0 ((x.l.take i).foldl setV s).vs ((x.l.take i).foldl setV s).th s.lk I L mo lo ∧ Fr (fun j => j = b0) w wr)
      case atStart => exact ⟨0, rfl, Nat.zero_le _, rfl, H.out, Fr.refl _ _⟩
      case round =>
        obtain ⟨i, rfl, hi, hm, hR, hfr⟩ := hrel
        have HN := hid hm
        have HR := hid hR
        clear hm hR
        by_cases h1 : i < x.l.length
        · obtain ⟨y, hy⟩ : ∃ y, x.l[i]? = some y := ⟨_, List.getElem?_eq_getElem h1⟩
          obtain ⟨b, off, hA, hb1, hcc⟩ := HCH.out i y hy
          have hbn := HNE.out b off hA
          subst hA
          have k0 : wr.cell? ⟨b, off + i * 3, none⟩ = some (.int .i64 y.kind) := hfr.cell (hcc 0 _ rfl) hbn
          have k1 := hfr.cell (hcc 1 _ rfl) hbn
          have k2 := hfr.cell (hcc 2 _ rfl) hbn
          have hyk := (chOk_iff y).1 (HRW.out.1 y (List.mem_of_getElem? hy))
          obtain ⟨k, hk⟩ := Int.eq_ofNat_of_zero_le hyk.2.1
          have hk16 : (k : Int) < 16 := by rw [← hk]; exact hyk.2.2
          have hk0 : (0 : Int) ≤ k := by omega
          rw [hk] at k1
          have htk : x.l.take (i + 1) = x.l.take i ++ [y] := by
            rw [List.take_succ_eq_append_getElem h1]
            have : x.l[i] = y := by rw [List.getElem?_eq_getElem h1] at hy; exact Option.some.inj hy
            rw [this]
          have HTK := hid htk
          have HK := hid hk
          clear hcc hy hyk htk hk
          go_wp2_with fail
          have HRa := hid (HR.out.fr ((Fr.refl (fun _ => False) wr).alloc (.cells #[.int .i64 y.kind, .int .i64 k, .int .u64 y.val] 90)) (fun _ _ => id))
          have hfa := hfr.alloc (.cells #[.int .i64 y.kind, .int .i64 k, .int .u64 y.val] 90)
          have hbx : (wr.alloc (.cells #[.int .i64 y.kind, .int .i64 k, .int .u64 y.val] 90)).heap[wr.heap.size]? = some (.cells #[.int .i64 y.kind, .int .i64 k, .int .u64 y.val] 90 (0, 0)) := (MapKept.heap_alloc wr _).1
          have hb0n : b0 ≠ wr.heap.size := by have := HR.out.fb _ HR.out.b; omega
          clear k0 k1 k2 HR hfr
          generalize wr.alloc (.cells #[.int .i64 y.kind, .int .i64 k, .int .u64 y.val] 90) = wz at *
          have k0 : wz.cell? ⟨wr.heap.size, 0, none⟩ = some (.int .i64 y.kind) := by rw [cell_of_row wz _ 0 _ _ _ hbx]; rfl
          have k1 : wz.cell? ⟨wr.heap.size, 1, none⟩ = some (.int .i64 k) := by rw [cell_of_row wz _ 1 _ _ _ hbx]; rfl
          have k2 : wz.cell? ⟨wr.heap.size, 2, none⟩ = some (.int .u64 y.val) := by rw [cell_of_row wz _ 2 _ _ _ hbx]; rfl
          obtain ⟨q0, q1⟩ := HRa.out.bcells k (by omega)
          have z0 : wz.frozen? ⟨b0, k, none⟩ = false := by simp [World.frozen?, HRa.out.blk]
          have z1 : wz.frozen? ⟨b0, 16 + k, none⟩ = false := by simp [World.frozen?, HRa.out.blk]
          have e1 := blk_set HRa.out.blk k (.int .u64 y.val)
          rw [setv HRa.out.lv HRa.out.lth _ _ k (by omega)] at e1
          have e2 := blk_set e1 (16 + k) (.bool (y.kind == 1))
          rw [sett (by simp [HRa.out.lv]) HRa.out.lth _ _ k (by omega)] at e2
          have fz : Fr (fun j => j = b0) wz (((wz.setCell ⟨b0, k, none⟩ (.int .u64 y.val)).setCell ⟨b0, 16 + k, none⟩ (.bool (y.kind == 1))).drew) := (Fr.setCell (S := fun j => j = b0) (p := ⟨b0, 16 + k, none⟩) (Fr.setCell (S := fun j => j = b0) (p := ⟨b0, k, none⟩) (Fr.refl _ wz) (.inl rfl) _) (.inl rfl) _).drew
          have hV := HRa.out.vals fz (by simp [HRa.out.lv]) (by simp [HRa.out.lth]) (show (((wz.setCell ⟨b0, k, none⟩ (.int .u64 y.val)).setCell ⟨b0, 16 + k, none⟩ (.bool (y.kind == 1))).drew).heap[b0]? = _ from e2)
          have hsv : (x.l.take (i + 1)).foldl setV s = setV ((x.l.take i).foldl setV s) y := by rw [HTK.out, List.foldl_append]; rfl
          have HSV := hid hsv
          have HV := hid hV
          have hff := hfa.trans fz (fun j hj => .inl hj)
          have HFF := hid hff
          clear e1 e2 hV hsv fz hff
          go_region
          all_goals
            go_wp2_with fail
            go_roundg (x.l.length + 1 - (i + 1))
            case measure => rw [HN.out]; omega
            case rel =>
              refine ⟨i + 1, by go_num, by omega, rfl, ?_, HFF.out⟩
              rw [HSV.out]
              have hkk : y.key.toNat = k := by rw [HK.out]; rfl
              simp only [setV, hkk]
              exact HV.out
        · have : i = x.l.length := by omega
          subst this
          rw [List.take_length] at HR
          have hk2 := setVs_keep x.l s
          have hok2 := KS.Ok.setVs x.l HOK.out (fun c hc => HRW.out.1 c hc)
          have hat2 : KvAt Pz F wr b0 (x.l.foldl setV s) := ⟨hok2, I, L, mo, lo, by rw [hk2.2]; exact HR.out, by rw [hk2.1]; exact HW.out⟩
          have hgn := hid (gone_any hat2 n)
          have hfF : Fr F w wr := hfr.mono (fun j hj => by rw [hj]; exact H.out.b)
          clear hk2 hok2 hat2 hc hl
          go_wp2_with fail
          refine hgn.out.mono ?_
          rintro e w2 ⟨rfl, ⟨F', h2, g2⟩, f2⟩
          go_wp2_with fail
          go_ret
          exact ⟨by rw [HE.out]; rfl, ⟨F', by rw [HE.out]; exact h2, fun j hj => (g2 j hj).imp id (fun q => Nat.le_trans hfF.size q)⟩, hfF.trans f2 (fun j hj => .inl hj)⟩
end Go.Proofs.YtdejbinmnoabeaaGreat.K
namespace Go.Proofs.YtdejbinmnoabeaaGreat.K
variable {Pz : List Value}
open Go.RowKit Go.Mine Go.Proofs.YtdejbinmnoabeaaGreatW.PrintWords
open Go.ChangeMaps (setBlock)
set_option linter.unusedVariables false
set_option linter.unusedSimpArgs false
def bcells (sb : List Bool) : Array Value := (sb.map Value.bool).toArray
theorem bcells_get {sb : List Bool} {k : Nat} (h : k < sb.length) : (bcells sb)[k]? = some (.bool (sb.getD k false)) := by
  simp [bcells, List.getD_eq_getElem?_getD, h]
theorem bcells_set (sb : List Bool) (k : Nat) (x : Bool) : (bcells sb).setIfInBounds k (.bool x) = bcells (sb.set k x) := by
  simp [bcells, List.setIfInBounds_toArray, List.map_set]
theorem right_step {l : List Ch} {i : Nat} {y : Ch} {sn : List Int} (hy : l[i]? = some y) : rightL (l.drop i) sn = (chOk y && !sn.contains y.key && rightL (l.drop (i + 1)) (y.key :: sn)) := by
  have h1 := (List.getElem?_eq_some_iff.1 hy).1
  have h2 := (List.getElem?_eq_some_iff.1 hy).2
  rw [List.drop_eq_getElem_cons h1, h2, rightL]
set_option maxRecDepth 100000 in
set_option maxHeartbeats 4000000 in
theorem right_any (A : Option Addr) (l : List Ch) (c B : Nat) (w : World) (hl : ChAt w B A l) (hB : B ≤ w.heap.size) (hn : l.length ≤ 1000000000000) :
    Calls Tryz.prog 90 #[.slice A l.length c] w fun e w' => e = .returned (.bool (rightL l [])) ∧ Below w.heap.size w w' := by
  go_enter Tryz.func90, Tryz.ntmps90
  go_wp2_with fail
  have hbx : (w.alloc (.cells (bcells (List.replicate 16 false)) 68)).heap[w.heap.size]? = some (.cells (bcells (List.replicate 16 false)) 68 (0, 0)) := (MapKept.heap_alloc w _).1
  have hb0 : Below w.heap.size w (w.alloc (.cells (bcells (List.replicate 16 false)) 68)) := (Below.refl _ _).alloc (Nat.le_refl _) _
  go_loopg [8] (l.length + 1) (fun m v wr => ∃ (i : Nat) (sb : List Bool) (sn : List Int), v = .int .i64 i ∧ i ≤ l.length ∧ m = l.length + 1 - i ∧ rightL l [] = rightL (l.drop i) sn ∧ sb.length = 16 ∧ (∀ k : Nat, k < 16 → sb.getD k false = sn.contains (k : Int)) ∧ wr.heap[w.heap.size]? = some (.cells (bcells sb) 68 (0, 0)) ∧ Below w.heap.size w wr)
  case atStart => exact ⟨0, List.replicate 16 false, [], rfl, Nat.zero_le _, rfl, rfl, rfl, fun k hk => (by rw [List.getD_eq_getElem?_getD, List.getElem?_replicate, if_pos hk]; rfl), hbx, hb0⟩
  case round =>
    obtain ⟨i, sb, sn, rfl, hi, hm, hr, hsl, hsn, hx, hb⟩ := hrel
    have HN := hid hm
    have HSN := hid hsn
    have HX := hid hx
    have HR := hid hr
    clear hm hsn hx hr hbx hb0
    by_cases h1 : i < l.length
    · obtain ⟨y, hy⟩ : ∃ y, l[i]? = some y := ⟨_, List.getElem?_eq_getElem h1⟩
      obtain ⟨b, off, rfl, hbb, hcc⟩ := (hl.below (hb.mono hB)) i y hy
      have k0 : wr.cell? ⟨b, off + i * 3, none⟩ = some (.int .i64 y.kind) := hcc 0 _ rfl
      have k1 := hcc 1 _ rfl
      have k2 := hcc 2 _ rfl
      have hst := right_step (sn := sn) hy
      have HST := hid (HR.out.trans hst)
      clear hcc hy hst hl
      have hba : Below w.heap.size w (wr.alloc (.cells #[.int .i64 y.kind, .int .i64 y.key, .int .u64 y.val] 90)) := hb.alloc hb.size _
      have hxa : (wr.alloc (.cells #[.int .i64 y.kind, .int .i64 y.key, .int .u64 y.val] 90)).heap[w.heap.size]? = some (.cells (bcells sb) 68 (0, 0)) := blk_alloc HX.out _
      have HXA := hid hxa
      have hfalse : chOk y = false ∨ sn.contains y.key = true → rightL l [] = false := by
        intro q
        rw [HST.out]
        rcases q with q | q
        · rw [q]; rfl
        · rw [q]; simp
      have HF := hid hfalse
      clear hxa hfalse
      by_cases hkd : y.kind = 1 ∨ (y.kind = 2 ∧ y.val = 0)
      · have hok : (y.kind != 1) = false ∨ ((y.kind != 1) = true ∧ (y.kind != 2) = false ∧ (y.val != 0) = false) := by
          rcases hkd with q | ⟨q, r⟩
          · exact .inl (by simp [q])
          · exact .inr ⟨by rw [q]; decide, by simp [q], by simp [r]⟩
        by_cases hk1 : y.key < 0
        · have hbad : chOk y = false := by
            cases hq : chOk y with
            | false => rfl
            | true => have := (chOk_iff y).1 hq; omega
          have HBAD := hid (HF.out (.inl hbad))
          clear hbad hkd
          rcases hok with ha | ⟨ha, hb2, hc2⟩
          all_goals
            go_wp2_with fail
            go_ret
            exact ⟨by rw [HBAD.out]; rfl, hba⟩
        · by_cases hk2 : 16 ≤ y.key
          · have hbad : chOk y = false := by
              cases hq : chOk y with
              | false => rfl
              | true => have := (chOk_iff y).1 hq; omega
            have HBAD := hid (HF.out (.inl hbad))
            clear hbad hkd
            rcases hok with ha | ⟨ha, hb2, hc2⟩
            all_goals
              go_wp2_with fail
              go_ret
              exact ⟨by rw [HBAD.out]; rfl, hba⟩
          · obtain ⟨k, hk⟩ := Int.eq_ofNat_of_zero_le (show 0 ≤ y.key by omega)
            have hk16 : (k : Int) < 16 := by omega
            have hk0 : (0 : Int) ≤ k := by omega
            have hchk : chOk y = true := (chOk_iff y).2 ⟨hkd, by omega, by omega⟩
            have HCHK := hid hchk
            have HK := hid hk
            have hcell : (wr.alloc (.cells #[.int .i64 y.kind, .int .i64 k, .int .u64 y.val] 90)).cell? ⟨w.heap.size, k, none⟩ = some (.bool (sb.getD k false)) := by
              rw [← hk, cell_of_row _ _ k _ _ _ HXA.out]; exact bcells_get (by omega)
            have hz : (wr.alloc (.cells #[.int .i64 y.kind, .int .i64 k, .int .u64 y.val] 90)).frozen? ⟨w.heap.size, k, none⟩ = false := by
              rw [← hk]; simp [World.frozen?, HXA.out]
            rw [hk] at k1 hba HXA
            have hsk := HSN.out k (by omega)
            have HSK := hid hsk
            clear hkd hchk hk hk1 hk2 hsk
            generalize hsv : sb.getD k false = sv at *
            have HSV := hid hsv
            clear hsv
            cases sv
            · have e3 := blk_set HXA.out k (.bool true)
              rw [bcells_set] at e3
              have hb3 : Below w.heap.size w ((wr.alloc (.cells #[.int .i64 y.kind, .int .i64 k, .int .u64 y.val] 90)).setCell ⟨w.heap.size, k, none⟩ (.bool true)) := hba.trans ⟨rfl, rfl, rfl, by simp [World.setCell], fun j hj => Below.heap_setCell _ _ _ _ (by show j ≠ w.heap.size; omega)⟩
              have hrr : rightL l [] = rightL (l.drop (i + 1)) (y.key :: sn) := by
                rw [HST.out, HCHK.out, HK.out, ← HSK.out]; rfl
              have hnew : ∀ j : Nat, j < 16 → (sb.set k true).getD j false = (y.key :: sn).contains (j : Int) := by
                intro j hj
                rw [HK.out, List.getD_eq_getElem?_getD, List.getElem?_set]
                by_cases e : k = j
                · subst e; simp [hsl, hj]
                · rw [if_neg e]
                  have := HSN.out j hj
                  rw [List.getD_eq_getElem?_getD] at this
                  rw [this]
                  have hne : ¬ ((j : Int) = (k : Int)) := fun q => e (by omega)
                  simp [hne]
              have HE3 := hid e3
              have HB3 := hid hb3
              have HRR := hid hrr
              have HNEW := hid hnew
              clear e3 hb3 hrr hnew
              rcases hok with ha | ⟨ha, hb2, hc2⟩
              all_goals
                go_wp2_with fail
                go_roundg (l.length + 1 - (i + 1))
                case measure => rw [HN.out]; omega
                case rel => exact ⟨i + 1, sb.set k true, y.key :: sn, by go_num, by omega, rfl, HRR.out, by simp [hsl], HNEW.out, HE3.out, HB3.out⟩
            · have HBAD := hid (HF.out (.inr (by rw [HK.out, ← HSK.out])))
              rcases hok with ha | ⟨ha, hb2, hc2⟩
              all_goals
                go_wp2_with fail
                go_ret
                exact ⟨by rw [HBAD.out]; rfl, hba⟩
      · have hbad : chOk y = false := by
          cases hq : chOk y with
          | false => rfl
          | true => exact absurd ((chOk_iff y).1 hq).1 hkd
        have HBAD := hid (HF.out (.inl hbad))
        have ha : (y.kind != 1) = true := by
          cases hq : (y.kind != 1) with
          | true => rfl
          | false => exact absurd (.inl (by simpa using hq)) hkd
        have hno : (y.kind != 2) = true ∨ ((y.kind != 2) = false ∧ (y.val != 0) = true) := by
          cases hq : (y.kind != 2) with
          | true => exact .inl rfl
          | false =>
            refine .inr ⟨rfl, ?_⟩
            cases hq2 : (y.val != 0) with
            | true => rfl
            | false => exact absurd (.inr ⟨by simpa using hq, by simpa using hq2⟩) hkd
        clear hbad hkd
        rcases hno with hb2 | ⟨hb2, hc2⟩
        all_goals
          go_wp2_with fail
          go_ret
          exact ⟨by rw [HBAD.out]; rfl, hba⟩
    · have : i = l.length := by omega
      subst this
      have HT : Hid (rightL l [] = true) := hid (by rw [HR.out, List.drop_length]; rfl)
      go_wp2_with fail
      go_ret
      exact ⟨by rw [HT.out]; rfl, hb⟩
end Go.Proofs.YtdejbinmnoabeaaGreat.K
namespace Go.Mine
theorem krest_low {s : KS} {n : Int} {l : List Ch} (h : n < 1) : s.restore n l = (1, s) := by simp [KS.restore, h]
theorem krest_bad {s : KS} {n : Int} {l : List Ch} (h : ¬ n < 1) (hr : rightL l [] = false) : s.restore n l = (1, s) := by simp [KS.restore, h, hr]
theorem krest_there {s : KS} {n : Int} {l : List Ch} (h : ¬ n < 1) (hr : rightL l [] = true) (hg : (aget n s.ws).isSome = true) : s.restore n l = (7, s) := by simp [KS.restore, h, hr, hg]
theorem rest_lock {s : KS} {n : Int} {l : List Ch} (h : ¬ n < 1) (hr : rightL l [] = true) (hg : aget n s.ws = none) (ht : (takeAll n l s.lk).1 ≠ 0) : s.restore n l = ((takeAll n l s.lk).1, { s with lk := dropA n (takeAll n l s.lk).2 }) := by simp [KS.restore, h, hr, hg, ht]
theorem krest_do {s : KS} {n : Int} {l : List Ch} (h : ¬ n < 1) (hr : rightL l [] = true) (hg : aget n s.ws = none) (ht : (takeAll n l s.lk).1 = 0) : s.restore n l = (0, ⟨s.vs, s.th, if l = [] then s.ws else s.ws ++ [(n, ⟨l, true⟩)], (takeAll n l s.lk).2⟩) := by simp [KS.restore, h, hr, hg, ht]
theorem takeAll_step {n : Int} {l : List Ch} {i : Nat} {y : Ch} {A : LTab} (hy : l[i]? = some y) : takeAll n (l.drop i) A = if (takeA A n y.key true).1 ≠ 0 then ((takeA A n y.key true).1, A) else takeAll n (l.drop (i + 1)) (takeA A n y.key true).2 := by
  have h1 := (List.getElem?_eq_some_iff.1 hy).1
  have h2 := (List.getElem?_eq_some_iff.1 hy).2
  rw [List.drop_eq_getElem_cons h1, h2, takeAll]
end Go.Mine
namespace Go.Proofs.YtdejbinmnoabeaaGreat.K
variable {Pz : List Value}
open Go.RowKit Go.Mine Go.Proofs.YtdejbinmnoabeaaGreatW.PrintWords
open Go.ChangeMaps (setBlock)
set_option linter.unusedVariables false
set_option linter.unusedSimpArgs false
def Beside (F : Nat → Prop) (w : World) (A : Option Addr) : Prop := ∀ b off, A = some ⟨b, off, none⟩ → ¬ F b ∧ b < w.heap.size
theorem ChAt.fr {F : Nat → Prop} {w w' : World} {B : Nat} {A : Option Addr} {l : List Ch} (h : ChAt w B A l) (hf : Fr F w w') (hA : l ≠ [] → Beside F w A) : ChAt w' B A l := by
  intro i x hx
  obtain ⟨b, off, e, hlt, hc⟩ := h i x hx
  exact ⟨b, off, e, hlt, fun j v hv => hf.cell (hc j v hv) (hA (fun q => by rw [q] at hx; simp at hx) b off e).1⟩
set_option maxRecDepth 100000 in
set_option maxHeartbeats 4000000 in
theorem restore_any {F : Nat → Prop} {w : World} {b0 : Nat} {s : KS} (h : KvAt Pz F w b0 s) (n : Int) (A : Option Addr) (l : List Ch) (c : Nat) (hl : ChAt w w.heap.size A l) (hA : l ≠ [] → Beside F w A) (hn : l.length ≤ 1000000) (hc : l.length ≤ c) :
    Calls Tryz.prog 61 #[.pointer (some ⟨b0, 0, none⟩), .int .i64 n, .slice A l.length c] w (SPost Pz F w b0 (s.restore n l).1 (s.restore n l).2) := by
  have hright := right_any A l c _ w hl (Nat.le_refl _) (by omega)
  have HRI := hid hright
  have H := hid h
  clear hright
  go_enter Tryz.func61, Tryz.ntmps61
  go_wp2_with fail
  refine (fit_any _ _ _).mono ?_
  rintro e w1 ⟨rfl, rfl⟩
  by_cases hn1 : n < 1
  · have HE := hid (krest_low (s := s) (l := l) hn1)
    simp only [reduceCtorEq, if_false, hn1, if_true]
    go_wp2_with fail
    go_ret
    exact ⟨by rw [HE.out]; rfl, ⟨F, by rw [HE.out]; exact H.out, Grew.refl _ _⟩, Fr.refl _ _⟩
  · simp only [reduceCtorEq, if_false, hn1]
    have HN1 := hid hn1
    clear hn1
    go_wp2_with fail
    refine HRI.out.mono ?_
    rintro e w1 ⟨rfl, f1⟩
    have f1r : Fr (fun _ => False) w w1 := Fr.of_below f1 (Nat.le_refl _)
    have h1 := h.below f1
    have hl1 := (hl.below f1).up f1.size
    have hA1 : l ≠ [] → Beside F w1 A := fun hne b off e => ⟨(hA hne b off e).1, Nat.lt_of_lt_of_le (hA hne b off e).2 f1.size⟩
    have fr1 : Fr F w w1 := f1r.mono (fun _ q => q.elim)
    clear HRI hl hA h f1r
    cases hr : rightL l []
    · have HE := hid (krest_bad (s := s) (n := n) (by have := HN1.out; omega) hr)
      go_wp2_with fail
      go_ret
      exact ⟨by rw [HE.out]; rfl, ⟨F, by rw [HE.out]; exact h1, Grew.refl _ _⟩, fr1⟩
    · have HRT := hid hr
      clear hr
      have hat := h1
      obtain ⟨hok, I, L, mo, lo, hR, hws⟩ := h1
      have hlk := run_lookupO Tryz.underlying69 key3 hR.map (zero117 w1) n false
      simp only [Bool.false_eq_true, if_false] at hlk
      rw [mget_ws hR n] at hlk
      have hg := aget_ws n I
      rw [← hws] at hg
      have hcm : w1.cell? ⟨b0, 32, none⟩ = some (.map mo) := by rw [cell_of_row w1 b0 32 _ _ _ hR.blk]; exact sc32 hR.lv hR.lth mo lo
      have HOK := hid hok
      have HW := hid hws
      have HAT := hid hat
      have HR := hid hR
      clear hok hws hat hR
      cases hf : I.find? (fun x => decide (x.n = n)) with
      | some x =>
        rw [hf] at hlk hg
        simp only [Option.map_some, Option.getD_some] at hlk hg
        have HE := hid (krest_there (n := n) (by have := HN1.out; omega) HRT.out (by rw [hg]; rfl))
        clear hf hg
        go_wp2_with fail
        go_ret
        exact ⟨by rw [HE.out]; rfl, ⟨F, by rw [HE.out]; exact HAT.out, Grew.refl _ _⟩, fr1⟩
      | none =>
        rw [hf] at hlk hg
        simp only [Option.map_none, Option.getD_none] at hlk hg
        have HG := hid hg
        have HF := hid hf
        clear hg hf
        go_wp2_with fail
        clear hlk hcm
        go_loopg [29] (l.length + 1) (fun m v wr => ∃ (i : Nat) (Ai : LTab) (lo' : Option Nat) (F' : Nat → Prop), v = .int .i64 i ∧ i ≤ l.length ∧ m = l.length + 1 - i ∧ takeAll n l s.lk = takeAll n (l.drop i) Ai ∧ Right Ai ∧ KvR Pz F' wr b0 s.vs s.th Ai I L mo lo' ∧ Grew F F' w1 ∧ Fr F w1 wr)
        case atStart => exact ⟨0, s.lk, lo, F, rfl, Nat.zero_le _, rfl, rfl, HOK.out.rk, HR.out, Grew.refl _ _, Fr.refl _ _⟩
        case round =>
          obtain ⟨i, Ai, lo', F', rfl, hi, hm, hta, hri, hRi, hgr, hfr⟩ := hrel
          have HN := hid hm
          have HTA := hid hta
          have HRI := hid hri
          have HRi := hid hRi
          clear hm hta hri hRi
          by_cases hil : i < l.length
          · obtain ⟨y, hy⟩ : ∃ y, l[i]? = some y := ⟨_, List.getElem?_eq_getElem hil⟩
            obtain ⟨b, off, rfl, hbb, hcc⟩ := (hl1.fr hfr hA1) i y hy
            have k0 : wr.cell? ⟨b, off + i * 3, none⟩ = some (.int .i64 y.kind) := hcc 0 _ rfl
            have k1 := hcc 1 _ rfl
            have k2 := hcc 2 _ rfl
            have HST := hid (HTA.out.trans (takeAll_step (A := Ai) hy))
            clear hcc hy
            go_wp2_with fail
            have fa : Fr (fun _ => False) wr (wr.alloc (.cells #[.int .i64 y.kind, .int .i64 y.key, .int .u64 y.val] 90)) := (Fr.refl _ wr).alloc _
            have HRa := hid (HRi.out.fr fa (fun _ _ => id))
            have hfa := hfr.trans fa (fun _ q => q.elim)
            have hbx : (wr.alloc (.cells #[.int .i64 y.kind, .int .i64 y.key, .int .u64 y.val] 90)).heap[wr.heap.size]? = some (.cells #[.int .i64 y.kind, .int .i64 y.key, .int .u64 y.val] 90 (0, 0)) := (MapKept.heap_alloc wr _).1
            clear k0 k1 k2 HRi fa
            generalize wr.alloc (.cells #[.int .i64 y.kind, .int .i64 y.key, .int .u64 y.val] 90) = wa at *
            have k1 : wa.cell? ⟨wr.heap.size, 1, none⟩ = some (.int .i64 y.key) := by rw [cell_of_row wa _ 1 _ _ _ hbx]; rfl
            go_still_tail 6, (by kernel_rfl)
            change wpList _ _ _ _ _ wa.drew
            have fz : Fr (fun _ => False) wa wa.drew := (Fr.refl _ wa).drew
            have HRz := hid (HRa.out.fr fz (fun _ _ => id))
            have hfz := hfa.trans fz (fun _ q => q.elim)
            clear k1 HRa fz hfa hbx
            generalize wa.drew = wz at *
            have HT := hid (take_A HRz.out.lt n y.key true)
            go_wp2_with fail
            refine HT.out.mono ?_
            rintro e w2 ⟨rfl, ht2, hf2⟩
            obtain ⟨lo2, h2⟩ := HRz.out.locks ht2 hf2
            have hfF : Fr F' wz w2 := hf2.mono (fun j hj => hj.elim (fun q => q ▸ HRz.out.b) (fun q => HRz.out.lF j q))
            have hfr2 : Fr F w1 w2 := hfz.trans hfF (fun j hj => hgr j hj)
            have hgr2 : Grew F (more F' wz w2) w1 := hgr.trans (grew_more F' wz w2) hfz.size
            cases hz : ((takeA Ai n y.key true).1 != 0)
            · have h0 : (takeA Ai n y.key true).1 = 0 := by simpa using hz
              have hst := HST.out
              rw [if_neg (by simp [h0])] at hst
              have HS2 := hid hst
              have HRk := hid (HRI.out.take n y.key true)
              have H2 := hid h2
              clear h0 hst h2 ht2 hf2 hfF hfz HRz HT
              go_wp2_with fail
              go_roundg (l.length + 1 - (i + 1))
              case measure => rw [HN.out]; omega
              case rel => exact ⟨i + 1, _, lo2, _, by go_num, by omega, rfl, HS2.out, HRk.out, H2.out, hgr2, hfr2⟩
            · have hne : (takeA Ai n y.key true).1 ≠ 0 := by simpa using hz
              have hst := HST.out
              rw [if_pos hne] at hst
              have htn : (takeAll n l s.lk).1 ≠ 0 := by rw [hst]; exact hne
              have HE := hid (rest_lock (n := n) (by have := HN1.out; omega) HRT.out HG.out htn)
              have HS2 := hid hst
              rw [takeA_keep hne] at h2
              have H2 := hid h2
              have HD := hid (drop_A h2.lt (by have := HRI.out.len; omega) n)
              clear hne hst htn h2 ht2 hf2 hfF hfz HRz HT
              go_wp2_with fail
              refine HD.out.mono ?_
              rintro e w3 ⟨rfl, ht3, hf3⟩
              have h3 := H2.out.locks' ht3 hf3
              have hfr3 : Fr F w w3 := fr1.trans (hfr2.trans (hf3.mono (fun j hj => H2.out.lF j hj)) (fun j hj => hgr2 j hj)) (fun j hj => .inl hj)
              have H3 := hid h3
              have hok3 := (HOK.out.restore n l)
              have HOK3 := hid hok3
              clear h3 ht3 hf3 hok3 hfr2
              go_wp2_with fail
              go_ret
              refine ⟨by rw [HE.out, HS2.out]; rfl, ⟨_, ⟨HOK3.out, I, L, mo, lo2, ?_, by rw [HE.out]; exact HW.out⟩, fun j hj => (hgr2 j hj).imp id (fun q => Nat.le_trans fr1.size q)⟩, hfr3⟩
              rw [HE.out, HS2.out]
              exact H3.out
          · have : i = l.length := by omega
            subst this
            have hta := HTA.out
            rw [List.drop_length] at hta
            have hz : (takeAll n l s.lk).1 = 0 := by rw [hta]; rfl
            have HE := hid (krest_do (n := n) (by have := HN1.out; omega) HRT.out HG.out hz)
            have HTT := hid hta
            have HOK3 := hid (HOK.out.restore n l)
            clear hta hz
            have hfrw : Fr F w wr := fr1.trans hfr (fun j hj => .inl hj)
            by_cases hl0 : l = []
            · have hll : (l.length : Int) = 0 := by simp [hl0]
              have HL0 := hid hl0
              clear hl0
              go_wp2_with fail
              go_ret
              refine ⟨by rw [HE.out]; rfl, ⟨F', ⟨HOK3.out, I, L, mo, lo', ?_, ?_⟩, fun j hj => (hgr j hj).imp id (fun q => Nat.le_trans fr1.size q)⟩, hfrw⟩
              · rw [HE.out, HTT.out]; exact HRi.out
              · rw [HE.out]; simp only [HL0.out, if_true]; exact HW.out
            · have hlp : (0 : Int) < l.length := by
                have : l.length ≠ 0 := fun q => hl0 (List.eq_nil_of_length_eq_zero q)
                omega
              have HL0 := hid hl0
              have HCL := hid (clone_any A l c _ wr (hl1.fr hfr hA1) (by omega) hc)
              clear hl0
              go_wp2_with fail
              refine HCL.out.mono ?_
              rintro e w2 ⟨v2, rfl, hr2, ho2, hb2⟩
              have f2 : Fr (fun _ => False) wr w2 := Fr.of_below hb2 (Nat.le_refl _)
              have h2 := HRi.out.fr f2 (fun _ _ => id)
              have hset := set_any n w2.heap.size b0 s.vs s.th mo lo' L (w2.alloc (.cells #[v2, .bool true] 133)) h2.lv h2.lth ((Below.heap_alloc _ _ _ (blk_lt h2.blk)).trans h2.blk) (h2.map.fr ((Fr.refl (fun _ => False) w2).alloc _) (fun _ _ => id))
              have HS := hid hset
              have HNW := hid (MapKept.heap_alloc w2 (.cells #[v2, .bool true] 133)).1
              obtain ⟨A2, c2, hv2, _, _⟩ := hr2.at_
              subst hv2
              have HR2 := hid hr2
              have HO2 := hid ho2
              have H2 := hid h2
              clear hset h2 hr2 ho2
              go_wp2_with fail
              refine HS.out.mono ?_
              rintro e w3 ⟨rfl, mo', L', hb', hm', hk', hmo', hf'⟩
              have hkv : kv L' = (I ++ [(⟨n, w2.heap.size, .slice A2 l.length c2, l, true⟩ : WI)]).map (fun x => (x.n, x.wb)) := by
                have hn : aget n (kv L) = none := by rw [← kv_get, mget_ws HRi.out, HF.out]; rfl
                rw [hk', aput, hn, HRi.out.kvL]
                simp
              have hlt := HRi.out.fb
              have hnb : ∀ k, wr.heap.size ≤ k → ¬ (k = b0 ∨ mo = some k) := by
                rintro k hk (q | q)
                · have := hlt _ HRi.out.b; omega
                · have := hlt _ (HRi.out.mF _ q); omega
              have hf3 : Fr (fun i => i = b0 ∨ mo = some i) wr w3 := ((f2.mono (fun _ q => q.elim)).alloc _).trans hf' (fun i hi => .inl hi)
              have h3 := hf'.at_ HNW.out (hnb _ f2.size)
              have hr3 : ChRow w3 (.slice A2 l.length c2) l := HR2.out.move (fun k hk => (hf'.block k (by have := HR2.out.lt k hk; simp; omega) (hnb _ (HO2.out k hk))).trans (Below.heap_alloc _ _ _ (HR2.out.lt k hk)))
              have h4 := HRi.out.add (x := ⟨n, w2.heap.size, .slice A2 l.length c2, l, true⟩) hb' hm' (hmo'.imp id (fun q b hb => Nat.le_trans (Nat.le_trans f2.size (by simp)) (q b hb))) hf3 hkv f2.size (fun k hk => HO2.out k hk) h3 hr3
              have H4 := hid h4
              have hfr4 : Fr F w w3 := hfrw.trans hf3 (fun j hj => by
                have hq : F' j := hj.elim (fun q => q ▸ HRi.out.b) (fun q => HRi.out.mF j q)
                exact (hgr j hq).imp id (fun q => Nat.le_trans fr1.size q))
              have hgr4 : Grew F (more F' wr w3) w := fun j hj => (((hgr.trans (grew_more F' wr w3) hfr.size) j hj).imp id (fun q => Nat.le_trans fr1.size q))
              clear h4 hr3 h3 hf3 hnb hlt hkv hk' hm' hb' hf' hmo'
              go_wp2_with fail
              go_ret
              refine ⟨by rw [HE.out]; rfl, ⟨more F' wr w3, ⟨HOK3.out, I ++ [(⟨n, w2.heap.size, .slice A2 l.length c2, l, true⟩ : WI)], L', mo', lo', ?_, ?_⟩, hgr4⟩, hfr4⟩
              rotate_left
              · rw [HE.out]; simp only [HL0.out, if_false]; rw [HW.out]; exact (by simp [wsOf] : wsOf I ++ [(n, (⟨l, true⟩ : KW))] = wsOf (I ++ [(⟨n, w2.heap.size, .slice A2 l.length c2, l, true⟩ : WI)]))
              · rw [HE.out, HTT.out]; exact H4.out
end Go.Proofs.YtdejbinmnoabeaaGreat.K
