/- Texts of this seat, put together: QuJ, QuK, QuL, QuO. -/
import Derived.Test.YtdejbinmnoabeaaGreatBm7
import Derived.RangeFuncNested
import Derived.RangeFuncBound
import Derived.RangeFuncCalls
import Derived.RangeFuncLeaves
import Derived.RangeFuncBox
import Derived.Shelf.Abstract
import Derived.Shelf.RegionOpen
import Derived.OwnWalkIn
import Derived.TacticsInMore
import Derived.LoopNIn
import Derived.LoopIn
import Derived.Sort.LoopGhostIn
import Derived.Sort.QuietIn
namespace Go.Mine
def QS.put (s : QS) (n v : Int) : Int × QS :=
  if s.fit n ≠ 0 then (s.fit n, s) else if s.room < 1 then (5, s) else (0, ⟨s.its, noteW n ⟨3, 0, v⟩ s.ws, s.gv⟩)
def QS.prepare (s : QS) (n : Int) : (List Ch × Int) × QS :=
  if s.fit n ≠ 0 then (([], s.fit n), s)
  else match aget n s.ws with
    | none => (([], 0), s)
    | some v => ((v.l, 0), ⟨s.its, aput n ⟨v.l, true⟩ s.ws, s.gv⟩)
def freeI (n : Int) (x : It) : It := if x.by_ == n then ⟨x.num, x.val, 0⟩ else x
def QS.backout (s : QS) (n : Int) : Int × QS :=
  if n < 1 then (1, s) else (0, ⟨s.its.map (freeI n), adel n s.ws, s.gv⟩)
def mixI {α : Type} (f : α → α) (L : List α) (i : Nat) : List α := (L.take i).map f ++ L.drop i
theorem mixI_len {α : Type} (f : α → α) (L : List α) (i : Nat) : (mixI f L i).length = L.length := by simp [mixI]; omega
theorem mixI_get {α : Type} (f : α → α) {L : List α} {i : Nat} {x : α} (hx : L[i]? = some x) : (mixI f L i)[i]? = some x := by
  have h1 := (List.getElem?_eq_some_iff.1 hx).1
  unfold mixI
  rw [List.getElem?_append_right (by simp; omega), List.getElem?_drop]
  simp only [List.length_map, List.length_take]
  rw [Nat.min_eq_left (by omega), Nat.sub_self, Nat.add_zero, hx]
theorem mixI_step {α : Type} (f : α → α) {L : List α} {i : Nat} {x : α} (hx : L[i]? = some x) : mixI f L (i + 1) = (mixI f L i).set i (f x) := by
  have h1 := (List.getElem?_eq_some_iff.1 hx).1
  have h2 := (List.getElem?_eq_some_iff.1 hx).2
  unfold mixI
  rw [List.take_succ_eq_append_getElem h1, h2, List.map_append, List.set_append_right _ _ (by simp; omega)]
  have hl : ((L.take i).map f).length = i := by simp; omega
  rw [hl, Nat.sub_self, List.drop_eq_getElem_cons h1, h2]
  simp
theorem mixI_same {α : Type} (f : α → α) {L : List α} {i : Nat} {x : α} (hx : L[i]? = some x) (hf : f x = x) : mixI f L (i + 1) = mixI f L i := by
  rw [mixI_step f hx, hf]
  apply List.ext_getElem?
  intro j
  rw [List.getElem?_set]
  by_cases h : i = j
  · subst h
    rw [if_pos rfl, mixI_get f hx, mixI_len, if_pos (List.getElem?_eq_some_iff.1 hx).1]
  · rw [if_neg h]
theorem mixI_all {α : Type} (f : α → α) (L : List α) : mixI f L L.length = L.map f := by simp [mixI]
end Go.Mine
namespace Go.Proofs.YtdejbinmnoabeaaGreat.Q
variable {Zz : QZ}
open Go.RowKit Go.Mine Go.Proofs.YtdejbinmnoabeaaGreatW.PrintWords
set_option linter.unusedVariables false
set_option linter.unusedSimpArgs false
theorem ChAt.row {w : World} {B : Nat} {A : Option Addr} {l : List Ch} (h : ChAt w B A l) (hn : l.length ≤ 1000000000000) : eCh.kd.C w A l.length l := by
  refine ⟨rfl, by omega, fun hp => ?_⟩
  obtain ⟨b, off, e, _, _⟩ := h 0 l[0] (List.getElem?_eq_getElem hp)
  refine ⟨⟨b, off, none⟩, e, fun j p hj => ⟨encCh p, rfl, rfl, fun i u hu => ?_⟩⟩
  obtain ⟨b', off', e', _, hc⟩ := h j p hj
  rw [e] at e'
  cases e'
  have := hc i u hu
  rw [Nat.add_assoc] at this
  have ea : ∀ m, (⟨b, off, none⟩ : Addr).add m = ⟨b, off + m, none⟩ := fun m => by
    unfold Addr.add
    split
    · rename_i h0; subst h0; rfl
    · rfl
  rw [ea]
  exact this
theorem clone_any (A : Option Addr) (l : List Ch) (c B : Nat) (w : World) (hl : ChAt w B A l) (hn : l.length ≤ 1000000000) (hc : l.length ≤ c) :
    Calls Tryz.prog 84 #[.slice A l.length c] w fun e w' => ∃ v, e = .returned v ∧ ChRow w' v l ∧ (∀ k, v.ownBlock = some k → w.heap.size ≤ k) ∧ Below w.heap.size w w' := by
  cases A with
  | none =>
    have hl0 : l = [] := by
      cases l with
      | nil => rfl
      | cons x xs => obtain ⟨b, off, e, _⟩ := hl 0 x rfl; cases e
    subst hl0
    have hnil : ∀ w', (binOp .eql 40 (.slice none 0 c) (.slice none 0 0)).run Tryz.prog w' = .ok (.bool true) w' := fun w' => Lib.run_eql_slice_nil (P := Tryz.prog) w' 40 90 _ _ _ _ _ Tryz.underlying40
    go_enter Tryz.func84, Tryz.ntmps84
    go_wp2_with fail
    go_ret
    exact ⟨.slice none 0 0, rfl, FR.nil _ _ _, fun k hk => by simp [Value.ownBlock] at hk, Below.refl _ _⟩
  | some a =>
    have hrow := ChAt.row hl (by omega)
    have HR := hid hrow
    clear hl hrow
    have hnil : ∀ w', (binOp .eql 40 (.slice (some a) l.length c) (.slice none 0 0)).run Tryz.prog w' = .ok (.bool false) w' := fun w' => Lib.run_eql_slice_nil (P := Tryz.prog) w' 40 90 _ _ _ _ _ Tryz.underlying40
    go_enter Tryz.func84, Tryz.ntmps84
    go_wp2_with (first
      | ((with_reducible refine gate_dst (N := 5) rfl ?_); go_loud (refine Kd.R_lit eCh.kd w.heap.size 90 rfl (N := 5) rfl (xs := ([] : List Ch)) (inner := []) (ok := fun _ => True) (okp := fun _ => True) ?hr ?hp (fun _ hk => hk) trivial (Below.refl _ _) (Nat.le_refl _) (by simp) ?_); (case hr => first | (go_simp; done) | (go_simp; rfl)); (case hp => exact (Reps.none _ _)); intro v5 w5 ho5 hb5 hg5 hnew5; have HO5 := hid ho5; have HB5 := hid hb5; clear ho5 hb5 hg5 hnew5)
      | (at_builtin; go_loud (refine Kd.R_append_rows eCh.kd (Rr := fun x cs => cs = encCh x) (w0 := w) w.heap.size rfl (.tmp 5) (.tmp 6) 40 90 _ 24 rfl Tryz.underlying40 info90 (by rfl) (by decide) (by decide) v5 [] l _ _ _ (fun _ => True) (fun _ => False) rfl rfl HO5.out (ReadsRow.imp_ HR.out HB5.out (fun _ _ h => h)) (fun _ _ h => h) (fun _ h => h.elim) (fun _ _ => trivial) HB5.out HB5.out.size (by simp; omega) ?_); intro v7 w7 ho7 hb7 hg7 hat7; have HO7 := hid ho7; have HB7 := hid hb7; clear ho7 hb7 hg7 hat7))
    go_ret
    refine ⟨v7, rfl, ?_, fun k hk => Kd.R_base HO7.out k hk, HB7.out⟩
    have := Kd.R_lower HO7.out (Nat.zero_le _)
    simpa using this
theorem put_any {F : Nat → Prop} {w : World} {b : Nat} {s : QS} (h : QAt Zz F w b s) (hb : s.Bd) (n v : Int) :
    Calls Tryz.prog 52 #[.pointer (some ⟨b, 34, none⟩), .int .i64 n, .int .u64 v] w (SPost Zz F w b (s.put n v).1 (s.put n v).2) := by
  have hf := fit_any h (by have := hb.ws; omega) n
  have hr := room_any h hb
  have HF := hid hf
  have HRM := hid hr
  have H := hid h
  have HB := hid hb
  clear hf hr h hb
  go_enter Tryz.func52, Tryz.ntmps52
  by_cases h1 : s.fit n = 0
  · by_cases h2 : s.room < 1
    · have HE := hid (show s.put n v = (5, s) from by unfold QS.put; rw [if_neg (by simp [h1]), if_pos h2])
      go_wp2_with fail
      refine HF.out.mono ?_
      rintro e w1 ⟨rfl, rfl⟩
      rw [h1]
      go_wp2_with fail
      refine HRM.out.mono ?_
      rintro e w2 ⟨rfl, f2⟩
      go_wp2_with fail
      go_ret
      exact ⟨by rw [HE.out]; rfl, ⟨F, by rw [HE.out]; exact H.out.below f2, Grew.refl _ _⟩, (Fr.of_below f2 (Nat.le_refl _)).mono (fun _ q => q.elim)⟩
    · have HE := hid (show s.put n v = (0, ⟨s.its, noteW n ⟨3, 0, v⟩ s.ws, s.gv⟩) from by unfold QS.put; rw [if_neg (by simp [h1]), if_neg h2])
      go_wp2_with fail
      refine HF.out.mono ?_
      rintro e w1 ⟨rfl, rfl⟩
      rw [h1]
      go_wp2_with fail
      refine HRM.out.mono ?_
      rintro e w2 ⟨rfl, f2⟩
      have HNT := hid (note_any (H.out.below f2) HB.out n ⟨3, 0, v⟩)
      go_wp2_with fail
      refine HNT.out.mono ?_
      rintro e w3 ⟨rfl, ⟨F3, h3, g3⟩, f3⟩
      go_wp2_with fail
      go_ret
      exact ⟨by rw [HE.out]; rfl, ⟨F3, by rw [HE.out]; exact h3, g3.up f2.size⟩, ((Fr.of_below f2 (Nat.le_refl _)).mono (fun _ q => q.elim)).trans f3 (fun i hi => .inl hi)⟩
  · have HE := hid (show s.put n v = (s.fit n, s) from by unfold QS.put; rw [if_pos h1])
    have hz : (s.fit n == 0) = false := by simpa using h1
    go_wp2_with fail
    refine HF.out.mono ?_
    rintro e w1 ⟨rfl, rfl⟩
    go_wp2_with fail
    go_ret
    exact ⟨by rw [HE.out]; rfl, ⟨F, by rw [HE.out]; exact H.out, Grew.refl _ _⟩, Fr.refl _ _⟩
def PrepPost (Zz : QZ) (F : Nat → Prop) (w : World) (b : Nat) (R : (List Ch × Int) × QS) (e : Ending) (w' : World) : Prop :=
  ∃ v, e = .returned (.tuple #[v, .int .i64 R.1.2]) ∧ (∃ F', QAt Zz F' w' b R.2 ∧ Grew F F' w ∧ (∀ k, v.ownBlock = some k → w.heap.size ≤ k ∧ ¬ F' k)) ∧ ChRow w' v R.1.1 ∧ Fr F w w'
set_option maxRecDepth 100000 in
set_option maxHeartbeats 4000000 in
theorem prepare_any {F : Nat → Prop} {w : World} {b : Nat} {s : QS} (h : QAt Zz F w b s) (hb : s.Bd) (n : Int) :
    Calls Tryz.prog 54 #[.pointer (some ⟨b, 34, none⟩), .int .i64 n] w (PrepPost Zz F w b (s.prepare n)) := by
  have hf := fit_any h (by have := hb.ws; omega) n
  have HF := hid hf
  have H := hid h
  obtain ⟨I, iv, qv, hR, hws⟩ := h
  have hIl : I.length ≤ 1000 := by have := hb.ws; rw [hws] at this; simpa [wsOf] using this
  have hfd := find_any hR (by omega) n
  have hg := aget_ws n I
  rw [← hws] at hg
  unfold findB at hfd
  have HR := hid hR
  have HWS := hid hws
  have HB := hid hb
  clear hf hR hws hb
  go_enter Tryz.func54, Tryz.ntmps54
  by_cases h1 : s.fit n = 0
  · cases hq : I.find? (fun x => decide (x.n = n)) with
    | none =>
      rw [hq] at hfd hg
      simp only [Option.map_none] at hfd hg
      have HE := hid (show s.prepare n = (([], 0), s) from by unfold QS.prepare; rw [if_neg (by simp [h1]), hg])
      have HFD := hid hfd
      clear hfd hg hq
      go_wp2_with fail
      refine HF.out.mono ?_
      rintro e w1 ⟨rfl, rfl⟩
      rw [h1]
      go_wp2_with fail
      refine HFD.out.mono ?_
      rintro e w2 ⟨rfl, rfl⟩
      simp only [Option.map_none]
      go_wp2_with fail
      go_ret2
      unfold PrepPost
      rw [HE.out]
      exact ⟨.slice none 0 0, rfl, ⟨F, H.out, Grew.refl _ _, fun k hk => by simp [Value.ownBlock] at hk⟩, FR.nil _ _ _, Fr.refl _ _⟩
    | some x =>
      obtain ⟨J1, J2, hJ, hxn, _⟩ := find_split hq
      have hxw := HR.out.wk x (List.mem_of_find?_eq_some hq)
      have hxle : x.l.length ≤ 1000 := HB.out.ls (x.n, ⟨x.l, x.p⟩) (by rw [HWS.out]; exact List.mem_map.2 ⟨x, List.mem_of_find?_eq_some hq, rfl⟩)
      obtain ⟨A, cp, hv, hAc, hat⟩ := hxw.2.2.1.at_
      have c2 : w.cell? ⟨x.wb, 2, none⟩ = some (.bool x.p) := by rw [cell_of_row _ _ 2 _ _ _ hxw.2.1]; rfl
      have hz1 : w.frozen? ⟨x.wb, 2, none⟩ = false := by simp [World.frozen?, hxw.2.1]
      rw [hq] at hfd hg
      simp only [Option.map_some] at hfd hg
      have HE := hid (show s.prepare n = ((x.l, 0), ⟨s.its, aput n ⟨x.l, true⟩ s.ws, s.gv⟩) from by unfold QS.prepare; rw [if_neg (by simp [h1]), hg])
      have HFD := hid hfd
      subst hJ
      have hf1 : Fr (fun i => i = x.wb ∨ x.v.ownBlock = some i) w (w.setCell ⟨x.wb, 2, none⟩ (.bool true)) := Fr.setCell (p := ⟨x.wb, 2, none⟩) (Fr.refl _ w) (.inl (.inl rfl)) _
      have hb1 : (w.setCell ⟨x.wb, 2, none⟩ (.bool true)).heap[x.wb]? = some (.cells #[.int .i64 x.n, x.v, .bool true] 138 (0, 0)) := blk_set' hxw.2.1 2 _
      have hr1 : ChRow (w.setCell ⟨x.wb, 2, none⟩ (.bool true)) x.v x.l := hxw.2.2.1.move (fun k hk => Below.heap_setCell _ _ _ _ (fun q => by
        have q' : k = x.wb := q
        subst q'
        exact types_ne (hxw.2.2.1.typed hk) ⟨_, hxw.2.1⟩ (by decide)))
      have hK := HR.out.work hf1 hb1 hr1 (.inl rfl)
      have hfr : Fr F w (w.setCell ⟨x.wb, 2, none⟩ (.bool true)) := hf1.mono (fun j hj => by
        rcases hj with q | q
        · rw [q]; exact hxw.1
        · exact hxw.2.2.2 j q)
      have hcl1 : (w.setCell ⟨x.wb, 2, none⟩ (.bool true)).cell? ⟨x.wb, 1, none⟩ = some (.slice A x.l.length cp) := by
        rw [cell_of_row _ _ 1 _ _ _ hb1, ← hv]; rfl
      have hch : ChAt (w.setCell ⟨x.wb, 2, none⟩ (.bool true)) (w.setCell ⟨x.wb, 2, none⟩ (.bool true)).heap.size A x.l := by
        obtain ⟨A', cp', hv', _, hat'⟩ := hr1.at_
        rw [hv] at hv'
        injection hv' with q1 q2 q3
        rw [q1]
        exact hat'
      have HCL := hid (clone_any A x.l cp _ _ hch (by omega) hAc)
      have HK := hid hK
      have HFR := hid hfr
      clear hfd hg hq hat hxw hf1 hb1 hr1 hK hfr hch hv
      go_wp2_with fail
      refine HF.out.mono ?_
      rintro e w1 ⟨rfl, rfl⟩
      rw [h1]
      go_wp2_with fail
      refine HFD.out.mono ?_
      rintro e w2 ⟨rfl, rfl⟩
      simp only [Option.map_some]
      go_wp2_with fail
      refine HCL.out.mono ?_
      rintro e w3 ⟨v3, rfl, hr3, ho3, hb3⟩
      go_wp2_with fail
      go_ret2
      unfold PrepPost
      rw [HE.out]
      have hfb := HK.out.fb
      refine ⟨v3, rfl, ⟨_, ⟨_, _, _, HK.out.below hb3, ?_⟩, grew_more _ _ _, fun k hk => ⟨Nat.le_trans HFR.out.size (ho3 k hk), fun q => ?_⟩⟩, hr3, HFR.out.trans ((Fr.of_below hb3 (Nat.le_refl _)).mono (fun _ q => q.elim)) (fun i hi => .inl hi)⟩
      · exact aput_ws HB.out.keys HWS.out hxn _ _ _
      · have := ho3 k hk; have := hfb k q; omega
  · have HE := hid (show s.prepare n = (([], s.fit n), s) from by unfold QS.prepare; rw [if_pos h1])
    have hz : (s.fit n == 0) = false := by simpa using h1
    clear hfd hg
    go_wp2_with fail
    refine HF.out.mono ?_
    rintro e w1 ⟨rfl, rfl⟩
    go_wp2_with fail
    go_ret2
    unfold PrepPost
    rw [HE.out]
    exact ⟨.slice none 0 0, rfl, ⟨F, H.out, Grew.refl _ _, fun k hk => by simp [Value.ownBlock] at hk⟩, FR.nil _ _ _, Fr.refl _ _⟩
set_option maxRecDepth 100000 in
set_option maxHeartbeats 4000000 in
theorem backout_any {F : Nat → Prop} {w : World} {b : Nat} {s : QS} (h : QAt Zz F w b s) (hb : s.Bd) (n : Int) :
    Calls Tryz.prog 89 #[.pointer (some ⟨b, 34, none⟩), .int .i64 n] w (SPost Zz F w b (s.backout n).1 (s.backout n).2) := by
  have H := hid h
  obtain ⟨I, iv, qv, hR, hws⟩ := h
  have hIl : s.its.length ≤ 100 := hb.its
  have hwl : s.ws.length ≤ 1000 := hb.ws
  have HWS := hid hws
  obtain ⟨A0, c0, rfl, hc0, _⟩ := hR.it.at_
  have HR := hid hR
  clear hR hws hb
  by_cases h1 : n < 1
  · have HE := hid (show s.backout n = (1, s) from by unfold QS.backout; rw [if_pos h1])
    go_enter Tryz.func89, Tryz.ntmps89
    go_wp2_with fail
    refine (decided_any _ _ _).mono ?_
    rw [if_pos h1]
    rintro e w1 ⟨rfl, rfl⟩
    go_wp2_with fail
    go_ret
    exact ⟨by rw [HE.out]; rfl, ⟨F, by rw [HE.out]; exact H.out, Grew.refl _ _⟩, Fr.refl _ _⟩
  · have HE := hid (show s.backout n = (0, ⟨s.its.map (freeI n), adel n s.ws, s.gv⟩) from by unfold QS.backout; rw [if_neg h1])
    have hk0 : w.cell? ⟨b, 34, none⟩ = some (.slice A0 s.its.length c0) := by rw [cell_of_row w b 34 _ _ _ HR.out.blk]; exact qget0 _ _ _ _
    go_enter Tryz.func89, Tryz.ntmps89
    go_wp2_with fail
    refine (decided_any _ _ _).mono ?_
    rw [if_neg (by omega)]
    rintro e w1 ⟨rfl, rfl⟩
    go_wp2_with fail
    clear hk0
    go_loopg [18] (s.its.length + 1) (fun m v wr => ∃ (i : Nat) (F' : Nat → Prop), v = .int .i64 i ∧ i ≤ s.its.length ∧ m = s.its.length + 1 - i ∧ QR Zz eIt T0 F' wr b (mixI (freeI n) s.its i) I s.gv (.slice A0 s.its.length c0) qv ∧ Grew F F' w ∧ Fr F w wr)
    case atStart => exact ⟨0, F, rfl, Nat.zero_le _, rfl, by simpa [mixI] using HR.out, Grew.refl _ _, Fr.refl _ _⟩
    case round =>
      obtain ⟨i, F', rfl, hi, hm, hQ, hgr, hfr⟩ := hrel
      have HN := hid hm
      have HGR := hid hgr
      have HFR := hid hfr
      clear hm hgr hfr
      have k0 : wr.cell? ⟨b, 34, none⟩ = some (.slice A0 s.its.length c0) := by rw [cell_of_row wr b 34 _ _ _ hQ.blk]; exact qget0 _ _ _ _
      by_cases h2 : i < s.its.length
      · obtain ⟨x, hx⟩ : ∃ x, s.its[i]? = some x := ⟨_, List.getElem?_eq_getElem h2⟩
        have hxm := mixI_get (freeI n) hx
        have hlen := mixI_len (freeI n) s.its i
        obtain ⟨g, rfl⟩ := hQ.it.form (by rw [hlen]; omega)
        obtain ⟨co, hcl, hcM, hcc, hcz⟩ := Kd.R_elem hQ.it x (i : Int) (by omega) (by omega)
        have hco : co = encIt x := by
          have : co = encIt ((mixI (freeI n) s.its i).getD (i : Int).toNat x) := hcM
          rw [this]
          simp [List.getD_eq_getElem?_getD, hxm]
        subst hco
        have k1 : wr.cell? ⟨g, i * 3 + 2, none⟩ = some (.int .i64 x.by_) := hcc 2 _ rfl
        have hz : wr.frozen? ⟨g, i * 3 + 2, none⟩ = false := hcz 2
        have hi1 : (i : Int) < s.its.length := by omega
        have hi0 : (0 : Int) ≤ i := by omega
        have HX := hid hx
        have HQ := hid hQ
        have HCC := hid hcc
        cases hq : (x.by_ == n)
        · have hs := mixI_same (freeI n) hx (by unfold freeI; rw [hq]; rfl)
          have HS := hid hs
          clear hs hx hxm hQ hcc hcM hcz hlen
          go_wp2_with fail
          go_roundg (s.its.length + 1 - (i + 1))
          case measure => rw [HN.out]; omega
          case rel => exact ⟨i + 1, F', by go_num, by omega, rfl, by rw [HS.out]; exact HQ.out, HGR.out, HFR.out⟩
        · have hs := mixI_step (freeI n) hx
          have hfx : freeI n x = ⟨x.num, x.val, 0⟩ := by unfold freeI; rw [hq]; rfl
          rw [hfx] at hs
          have HS := hid hs
          have hseg := Kd.R_seg HQ.out.it (i : Int) (by omega) (by omega) (j := 2) (seg := [.int .i64 0]) (x' := ⟨x.num, x.val, 0⟩) hcl HCC.out (by simp [eIt, Enc.kd]) (okp := fun _ => False) rfl (fun _ q => q.elim)
          have hw : wr.setCells g (Int.toNat (i : Int) * eIt.kd.sz + 2) [.int .i64 0] = wr.setCell ⟨g, i * 3 + 2, none⟩ (.int .i64 0) := rfl
          rw [hw] at hseg
          have HSEG := hid hseg
          clear hs hx hxm hQ hcc hcM hcz hlen hseg hw hfx
          go_wp2_with fail
          go_roundg (s.its.length + 1 - (i + 1))
          case measure => rw [HN.out]; omega
          case rel =>
            have hf8 : Fr (fun k => k = g) wr (wr.setCell ⟨g, i * 3 + 2, none⟩ (.int .i64 0)) := (Fr.of_grown HSEG.out.2).mono (fun k hk => by cases hk; rfl)
            have hgne : g ≠ b := fun q => HQ.out.iv_ne.1 (by rw [← q]; rfl)
            have hi8 : FR eIt 127 (wr.setCell ⟨g, i * 3 + 2, none⟩ (.int .i64 0)) (.slice (some ⟨g, 0, none⟩) s.its.length c0) (mixI (freeI n) s.its (i + 1)) := by
              rw [HS.out]
              exact HSEG.out.1
            have hfin := HQ.out.turn (hf8.mono (fun k hk => .inr (.inl (by rw [hk]; rfl)))) (hf8.at_ HQ.out.blk (fun q => hgne q.symm)) hi8 (HQ.out.wp.move (fun k hk => hf8.block k (HQ.out.wp.lt hk) (fun q => HQ.out.iv_ne.2.2 g rfl (by rw [hk, q])))) (List.Sublist.refl _) (fun j hj => .inl hj) (fun j hj => .inl hj)
            exact ⟨i + 1, _, by go_num, by omega, rfl, hfin, HGR.out.trans (grew_more _ _ _) HFR.out.size, HFR.out.trans hf8 (fun j hj => HGR.out j (by rw [hj]; exact HQ.out.iF _ rfl))⟩
      · have hil : i = s.its.length := by omega
        have ht : mixI (freeI n) s.its i = s.its.map (freeI n) := by rw [hil]; exact mixI_all _ _
        rw [ht] at hQ
        have HG := hid (gone_any (s := ⟨s.its.map (freeI n), s.ws, s.gv⟩) ⟨I, _, qv, hQ, HWS.out⟩ (by show s.ws.length ≤ _; omega) n)
        clear hQ ht
        go_wp2_with fail
        refine HG.out.mono ?_
        rintro e w3 ⟨rfl, ⟨F3, h3, g3⟩, f3⟩
        go_wp2_with fail
        go_ret
        exact ⟨by rw [HE.out]; rfl, ⟨F3, by rw [HE.out]; exact h3, HGR.out.trans g3 HFR.out.size⟩, HFR.out.trans f3 (fun j hj => HGR.out j hj)⟩
end Go.Proofs.YtdejbinmnoabeaaGreat.Q
namespace Go.Mine
def newI : List Ch → Int → List It
  | [], _ => []
  | c :: cs, g => if c.kind == 3 then ⟨g + 1, c.val, 0⟩ :: newI cs (g + 1) else newI cs g
theorem newI_snoc (l : List Ch) (c : Ch) : ∀ g : Int, newI (l ++ [c]) g = newI l g ++ (if c.kind == 3 then [⟨g + putsL l + 1, c.val, 0⟩] else []) := by
  induction l with
  | nil => intro g; simp [newI, putsL]
  | cons x l ih =>
    intro g
    simp only [List.cons_append, newI, putsL]
    split
    · rw [ih]
      simp only [List.cons_append]
      congr 2
      split
      · congr 2; push_cast; omega
      · rfl
    · rw [ih]
      simp
theorem newI_len (l : List Ch) : ∀ g : Int, (newI l g).length = putsL l := by
  induction l with
  | nil => intro g; rfl
  | cons x l ih =>
    intro g
    simp only [newI, putsL]
    split
    · rw [List.length_cons, ih]; omega
    · rw [ih]; omega
def keptI (n : Int) (its : List It) : List It := its.filter (fun x => !(x.by_ == n))
def QS.commit (s : QS) (n : Int) : Int × QS :=
  if n < 1 then (1, s) else (0, ⟨keptI n s.its ++ newI (listOfW n s.ws) s.gv, adel n s.ws, s.gv + putsL (listOfW n s.ws)⟩)
end Go.Mine
namespace Go.Proofs.YtdejbinmnoabeaaGreat.Q
variable {Zz : QZ}
open Go.RowKit Go.Mine Go.Proofs.YtdejbinmnoabeaaGreatW.PrintWords
set_option linter.unusedVariables false
set_option linter.unusedSimpArgs false
set_option maxRecDepth 100000 in
set_option maxHeartbeats 8000000 in
theorem commit_any {F : Nat → Prop} {w : World} {b : Nat} {s : QS} (h : QAt Zz F w b s) (hb : s.Bd) (n : Int) :
    Calls Tryz.prog 88 #[.pointer (some ⟨b, 34, none⟩), .int .i64 n] w (SPost Zz F w b (s.commit n).1 (s.commit n).2) := by
  have hb0 : Below w.heap.size w (w.alloc (.cells #[.int .i64 n] 3)) := (Below.refl _ _).alloc (Nat.le_refl _) _
  have hx0 : (w.alloc (.cells #[.int .i64 n] 3)).heap[w.heap.size]? = some (.cells #[.int .i64 n] 3 (0, 0)) := (MapKept.heap_alloc w _).1
  have ha0 := h.below hb0
  obtain ⟨I, iv, qv, hR, hws⟩ := h
  have hIl : I.length ≤ 1000 := by have := hb.ws; rw [hws] at this; simpa [wsOf] using this
  have hitl := hb.its
  have hg0 := hb.g0
  have hgt := hb.gt
  have ha := hR.below hb0
  have hbx : ¬ F w.heap.size := fun q => by have := hR.fb _ q; omega
  have hfw : Fr F w (w.alloc (.cells #[.int .i64 n] 3)) := (Fr.refl _ w).alloc _
  have hcx : (w.alloc (.cells #[.int .i64 n] 3)).cell? ⟨w.heap.size, 0, none⟩ = some (.int .i64 n) := by rw [cell_of_row _ _ 0 _ _ _ hx0]; rfl
  have hc : (w.alloc (.cells #[.int .i64 n] 3)).cell? ⟨b, 34, none⟩ = some iv := by rw [cell_of_row _ b 34 _ _ _ ha.blk]; exact qget0 _ _ _ _
  have hdel := del_it iv s.its n w.heap.size _ ha.it hcx (fun q => hbx (ha.iF _ q)) (by omega)
  have HDEL := hid hdel
  have HA := hid ha
  have HA0 := hid ha0
  have HFW := hid hfw
  have HWS := hid hws
  have HX0 := hid hx0
  have HBX := hid hbx
  have HSZ : Hid ((w.alloc (.cells #[.int .i64 n] 3)).heap.size = w.heap.size + 1) := hid (by simp)
  have HB := hid hb
  clear hb0 hx0 hR ha hfw hdel hws hbx ha0 hb
  go_enter Tryz.func88, Tryz.ntmps88
  go_wp2_with fail
  generalize w.alloc (.cells #[.int .i64 n] 3) = wa at *
  generalize w.heap.size = bx at *
  by_cases h1 : n < 1
  · have HE := hid (show s.commit n = (1, s) from by unfold QS.commit; rw [if_pos h1])
    refine (decided_any _ _ _).mono ?_
    rw [if_pos h1]
    rintro e w1 ⟨rfl, rfl⟩
    go_wp2_with fail
    go_ret
    exact ⟨by rw [HE.out]; rfl, ⟨F, by rw [HE.out]; exact HA0.out, Grew.refl _ _⟩, HFW.out⟩
  · have HE := hid (show s.commit n = (0, ⟨keptI n s.its ++ newI (listOfW n s.ws) s.gv, adel n s.ws, s.gv + putsL (listOfW n s.ws)⟩) from by unfold QS.commit; rw [if_neg h1])
    refine (decided_any _ _ _).mono ?_
    rw [if_neg (by omega)]
    rintro e w1 ⟨rfl, rfl⟩
    clear HA0
    go_wp2_with fail
    refine HDEL.out.mono ?_
    rintro e w2 ⟨v', rfl, hr2, ho2, hf2⟩
    obtain ⟨A2, c2, rfl, hc2, _⟩ := hr2.at_
    have hx2 : w2.heap[b]? = some (.cells (qCells Zz (iv) (qv) (s.gv)) 82 (0, 0)) := hf2.at_ HA.out.blk HA.out.iv_ne.1
    have hz2 : w2.frozen? ⟨b, 34, none⟩ = false := by simp [World.frozen?, hx2]
    have hcc2 : w2.cell? ⟨b, 34, none⟩ = some iv := by rw [cell_of_row w2 _ 34 _ _ _ hx2]; exact qget0 _ _ _ _
    have hkn : keptI n s.its = s.its.filter (fun x => !(x.by_ == n)) := rfl
    rw [← hkn] at hr2 hc2 ho2 ⊢
    have hkl : (keptI n s.its).length ≤ 100 := by have := List.length_filter_le (fun x => !(x.by_ == n)) s.its; rw [← hkn] at this; omega
    have hf3 : Fr (fun i => i = b ∨ iv.ownBlock = some i) wa (w2.setCell ⟨b, 34, none⟩ (.slice A2 (keptI n s.its).length c2)) := Fr.setCell (p := ⟨b, 34, none⟩) (hf2.mono (fun i hi => .inr hi)) (.inl (.inl rfl)) _
    have hi3 : FR eIt 127 (w2.setCell ⟨b, 34, none⟩ (.slice A2 (keptI n s.its).length c2)) (.slice A2 (keptI n s.its).length c2) (keptI n s.its) := hr2.move (fun k hk => Below.heap_setCell _ _ _ _ (fun q => by
      have q' : k = b := q
      subst q'
      rw [ho2] at hk
      exact HA.out.iv_ne.1 hk))
    have hq3 : FR eWI 119 (w2.setCell ⟨b, 34, none⟩ (.slice A2 (keptI n s.its).length c2)) qv I := HA.out.wp.move (fun k hk => hf3.block k (HA.out.wp.lt hk) (fun q => by
      rcases q with q | q
      · exact HA.out.iv_ne.2.1 (by rw [hk, q])
      · exact HA.out.iv_ne.2.2 k q hk))
    have hQ3 := HA.out.turn (hf3.mono (fun i hi => hi.imp id (fun q => .inl q))) (blk_q0 hx2 _) hi3 hq3 (List.Sublist.refl _) (fun j hj => .inl (ho2 ▸ hj)) (fun j hj => .inl hj)
    have hbx3 := hf3.at_ HX0.out (fun q => by
      rcases q with q | q
      · exact HBX.out (by rw [q]; exact HA.out.bF)
      · exact HBX.out (HA.out.iF _ q))
    have hfr3 : Fr F w (w2.setCell ⟨b, 34, none⟩ (.slice A2 (keptI n s.its).length c2)) := HFW.out.trans hf3 (fun i hi => .inl (by
      rcases hi with q | q
      · rw [q]; exact HA.out.bF
      · exact HA.out.iF _ q))
    have hgr3 := (grew_more F wa (w2.setCell ⟨b, 34, none⟩ (.slice A2 (keptI n s.its).length c2))).up HFW.out.size
    have hcx3 : (w2.setCell ⟨b, 34, none⟩ (.slice A2 (keptI n s.its).length c2)).cell? ⟨bx, 0, none⟩ = some (.int .i64 n) := by rw [cell_of_row _ _ 0 _ _ _ hbx3]; rfl
    have hfd := find_any hQ3 (by omega) n
    have hg := aget_ws n I
    rw [← HWS.out] at hg
    unfold findB at hfd
    have hnf3 : ¬ more F wa (w2.setCell ⟨b, 34, none⟩ (.slice A2 (keptI n s.its).length c2)) bx := fun q => q.elim HBX.out (fun q => by have h1 := q.1; have h2 := HSZ.out; omega)
    have HNF3 := hid hnf3
    have HQ3 := hid hQ3
    have HFR3 := hid hfr3
    have HGR3 := hid hgr3
    clear hx2 hkn hf3 hi3 hq3 hQ3 hnf3 hfr3 hgr3 hr2 ho2 hf2 HDEL HA HX0
    cases hq : I.find? (fun x => decide (x.n = n)) with
    | none =>
      rw [hq] at hfd hg
      simp only [Option.map_none] at hfd hg
      have hl0 : listOfW n s.ws = [] := by unfold listOfW; rw [hg]; rfl
      have HL0 := hid hl0
      have HFD := hid hfd
      have HG := hid (gone_any (s := ⟨keptI n s.its, s.ws, s.gv⟩) ⟨I, _, qv, HQ3.out, HWS.out⟩ (by show s.ws.length ≤ _; have := HB.out.ws; omega) n)
      clear hfd hg hq hl0
      go_wp2_with fail
      refine HFD.out.mono ?_
      rintro e w4 ⟨rfl, rfl⟩
      simp only [Option.map_none]
      go_wp2_with fail
      refine HG.out.mono ?_
      rintro e w5 ⟨rfl, ⟨F5, h5, g5⟩, f5⟩
      go_wp2_with fail
      go_ret
      refine ⟨by rw [HE.out]; rfl, ⟨F5, ?_, HGR3.out.trans g5 HFR3.out.size⟩, HFR3.out.trans f5 (fun j hj => HGR3.out j hj)⟩
      rw [HE.out, HL0.out]
      simpa [newI, putsL] using h5
    | some x =>
      have hxI := List.mem_of_find?_eq_some hq
      have hxle : x.l.length ≤ 1000 := HB.out.ls (x.n, ⟨x.l, x.p⟩) (by rw [HWS.out]; exact List.mem_map.2 ⟨x, hxI, rfl⟩)
      obtain ⟨A, cp, hv, hAc, _⟩ := (HQ3.out.wk x hxI).2.2.1.at_
      rw [hq] at hfd hg
      simp only [Option.map_some] at hfd hg
      have hl0 : listOfW n s.ws = x.l := by unfold listOfW; rw [hg]; rfl
      rw [hl0] at HE
      have HFD := hid hfd
      have HV := hid hv
      have HXI := hid hxI
      have kx : (w2.setCell ⟨b, 34, none⟩ (.slice A2 (keptI n s.its).length c2)).cell? ⟨x.wb, 1, none⟩ = some (.slice A x.l.length cp) := by rw [cell_of_row _ _ 1 _ _ _ (HQ3.out.wk x hxI).2.1, ← hv]; rfl
      clear hfd hg hq hl0 hv hxI
      go_wp2_with fail
      refine HFD.out.mono ?_
      rintro e w4 ⟨rfl, rfl⟩
      simp only [Option.map_some]
      go_wp2_with fail
      generalize (more F wa (w2.setCell ⟨b, 34, none⟩ (.slice A2 (keptI n s.its).length c2))) = F3 at *
      generalize w2.setCell ⟨b, 34, none⟩ (.slice A2 (keptI n s.its).length c2) = w3 at *
      have hp1000 : putsL x.l ≤ 1000 := by have := putsL_le x.l; omega
      clear kx hz2 hcc2 hc hcx HFD hcx3
      go_loopg [34] (x.l.length + 1) (fun m v wr => ∃ (i : Nat) (F' : Nat → Prop) (iv' : Value), v = .int .i64 i ∧ i ≤ x.l.length ∧ m = x.l.length + 1 - i ∧ QR Zz eIt T0 F' wr b (keptI n s.its ++ newI (x.l.take i) s.gv) I (s.gv + putsL (x.l.take i)) iv' qv ∧ Grew F F' w ∧ Fr F w wr ∧ wr.heap[bx]? = some (.cells #[.int .i64 n] 3 (0, 0)) ∧ ¬ F' bx)
      case atStart => exact ⟨0, F3, _, rfl, Nat.zero_le _, rfl, by simpa [newI, putsL] using HQ3.out, HGR3.out, HFR3.out, hbx3, HNF3.out⟩
      case round =>
        obtain ⟨i, F', iv', rfl, hi, hm, hQ, hgr, hfr, hbxr, hnf⟩ := hrel
        have HN := hid hm
        have HGR := hid hgr
        have HFR := hid hfr
        have HBXR := hid hbxr
        have HNF := hid hnf
        clear hm hgr hfr hbxr hnf HQ3 HFR3 HGR3 hbx3 HNF3
        by_cases h2 : i < x.l.length
        · obtain ⟨y, hy⟩ : ∃ y, x.l[i]? = some y := ⟨_, List.getElem?_eq_getElem h2⟩
          have hwk := hQ.wk x HXI.out
          obtain ⟨A', cp', hv', _, hat⟩ := hwk.2.2.1.at_
          rw [HV.out] at hv'
          injection hv' with q1 q2 q3
          rw [← q1] at hat
          obtain ⟨b', off, he, hbb, hcc⟩ := hat i y hy
          subst he
          have k0 : wr.cell? ⟨b', off + i * 3, none⟩ = some (.int .i64 y.kind) := hcc 0 _ rfl
          have k1 : wr.cell? ⟨b', off + i * 3 + 1, none⟩ = some (.int .i64 y.key) := hcc 1 _ rfl
          have k2 : wr.cell? ⟨b', off + i * 3 + 2, none⟩ = some (.int .u64 y.val) := hcc 2 _ rfl
          have hst : x.l.take (i + 1) = x.l.take i ++ [y] := by
            rw [List.take_succ_eq_append_getElem h2]
            congr 2
            exact (List.getElem?_eq_some_iff.1 hy).2
          have hns := newI_snoc (x.l.take i) y s.gv
          rw [← hst] at hns
          have hpt := putsL_take hy
          have hple : putsL (x.l.take i) ≤ 1000 := by have := putsL_le (x.l.take i); rw [List.length_take] at this; omega
          have hnl := newI_len (x.l.take i) s.gv
          have hba : Below wr.heap.size wr (wr.alloc (.cells #[.int .i64 y.kind, .int .i64 y.key, .int .u64 y.val] 90)) := (Below.refl _ _).alloc (Nat.le_refl _) _
          have hxa : (wr.alloc (.cells #[.int .i64 y.kind, .int .i64 y.key, .int .u64 y.val] 90)).heap[wr.heap.size]? = some (.cells #[.int .i64 y.kind, .int .i64 y.key, .int .u64 y.val] 90 (0, 0)) := (MapKept.heap_alloc wr _).1
          have hQa := hQ.below hba
          have hbxa := (hba.block _ (blk_lt HBXR.out)).trans HBXR.out
          have hfra := HFR.out.alloc (.cells #[.int .i64 y.kind, .int .i64 y.key, .int .u64 y.val] 90)
          have HQA := hid hQa
          have HNS := hid hns
          have HPT := hid hpt
          have HNL := hid hnl
          have HXA := hid hxa
          have HBXA := hid hbxa
          have HFRA := hid hfra
          clear hcc hy hat hwk q1 q2 q3 hst hns hpt hnl hba hxa hQa hbxa hfra
          have hblt := hQ.fb _ hQ.bF
          clear hQ
          generalize putsL (x.l.take i) = P at *
          generalize newI (x.l.take i) s.gv = NI at *
          cases q : (y.kind == 3)
          · go_wp2_with fail
            go_roundg (x.l.length + 1 - (i + 1))
            case measure => rw [HN.out]; omega
            case rel => exact ⟨i + 1, F', _, by go_num, by omega, rfl, by rw [HNS.out, HPT.out, q]; simpa using HQA.out, HGR.out, HFRA.out, HBXA.out, HNF.out⟩
          · have kg : (wr.alloc (.cells #[.int .i64 y.kind, .int .i64 y.key, .int .u64 y.val] 90)).cell? ⟨b, 36, none⟩ = some (.int .i64 (s.gv + P)) := by rw [cell_of_row _ b 36 _ _ _ HQA.out.blk]; exact qget2 _ _ _ _
            have hzg : (wr.alloc (.cells #[.int .i64 y.kind, .int .i64 y.key, .int .u64 y.val] 90)).frozen? ⟨b, 36, none⟩ = false := by simp [World.frozen?, HQA.out.blk]
            have ww : IntKind.i64.wrap (s.gv + (P : Int) + 1) = s.gv + P + 1 := wr64 (by omega) (by omega)
            have hf1 : Fr (fun k => k = b) (wr.alloc (.cells #[.int .i64 y.kind, .int .i64 y.key, .int .u64 y.val] 90)) ((wr.alloc (.cells #[.int .i64 y.kind, .int .i64 y.key, .int .u64 y.val] 90)).setCell ⟨b, 36, none⟩ (.int .i64 (s.gv + P + 1))) := Fr.setCell (S := fun k => k = b) (p := ⟨b, 36, none⟩) (Fr.refl _ _) (.inl rfl) _
            have hQ1 := HQA.out.turn (hf1.mono (fun k hk => .inl hk)) (blk_q2 HQA.out.blk (.int .i64 (s.gv + P + 1))) (HQA.out.it.move (fun k hk => hf1.block k (HQA.out.it.lt hk) (fun q => HQA.out.iv_ne.1 (by rw [hk, q])))) (HQA.out.wp.move (fun k hk => hf1.block k (HQA.out.wp.lt hk) (fun q => HQA.out.iv_ne.2.1 (by rw [hk, q])))) (List.Sublist.refl _) (fun j hj => .inl hj) (fun j hj => .inl hj)
            have hxz := hf1.at_ HXA.out (fun q => by omega)
            have hbz := hf1.at_ HBXA.out (fun q => HNF.out (by rw [q]; exact HQA.out.bF))
            have hnf2 : ¬ more F' (wr.alloc (.cells #[.int .i64 y.kind, .int .i64 y.key, .int .u64 y.val] 90)) ((wr.alloc (.cells #[.int .i64 y.kind, .int .i64 y.key, .int .u64 y.val] 90)).setCell ⟨b, 36, none⟩ (.int .i64 (s.gv + P + 1))) bx := fun q => q.elim HNF.out (fun q => by
              have h1 := q.1
              have h2 : (wr.alloc (.cells #[.int .i64 y.kind, .int .i64 y.key, .int .u64 y.val] 90)).heap.size = wr.heap.size + 1 := by simp
              have h3 := blk_lt HBXR.out
              omega)
            have hcm : ((wr.alloc (.cells #[.int .i64 y.kind, .int .i64 y.key, .int .u64 y.val] 90)).setCell ⟨b, 36, none⟩ (.int .i64 (s.gv + P + 1))) = ((wr.setCell ⟨b, 36, none⟩ (.int .i64 (s.gv + P + 1))).alloc (.cells #[.int .i64 y.kind, .int .i64 y.key, .int .u64 y.val] 90)) := World.setCell_alloc_past (.cells #[.int .i64 y.kind, .int .i64 y.key, .int .u64 y.val] 90) b 36 (.int .i64 (s.gv + P + 1)) hblt
            have hfz := HFRA.out.trans hf1 (fun j hj => HGR.out j (by rw [hj]; exact HQA.out.bF))
            have hgz := HGR.out.trans ((grew_more F' (wr.alloc (.cells #[.int .i64 y.kind, .int .i64 y.key, .int .u64 y.val] 90)) ((wr.alloc (.cells #[.int .i64 y.kind, .int .i64 y.key, .int .u64 y.val] 90)).setCell ⟨b, 36, none⟩ (.int .i64 (s.gv + P + 1)))).up (by simp : wr.heap.size ≤ (wr.alloc (.cells #[.int .i64 y.kind, .int .i64 y.key, .int .u64 y.val] 90)).heap.size)) HFR.out.size
            rw [hcm] at hQ1 hxz hbz hfz hgz hnf2
            have HNF2 := hid hnf2
            have HQ1 := hid hQ1
            have HXZ := hid hxz
            have HBZ := hid hbz
            have HFZ := hid hfz
            have HGZ := hid hgz
            clear hf1 hQ1 hxz hbz hfz hgz hnf2 hcm HXA HBXA HFRA
            go_wp2_with fail
            generalize (more F' (wr.alloc (.cells #[.int .i64 y.kind, .int .i64 y.key, .int .u64 y.val] 90)) ((wr.setCell ⟨b, 36, none⟩ (.int .i64 (s.gv + P + 1))).alloc (.cells #[.int .i64 y.kind, .int .i64 y.key, .int .u64 y.val] 90))) = F2 at *
            generalize ((wr.setCell ⟨b, 36, none⟩ (.int .i64 (s.gv + P + 1))).alloc (.cells #[.int .i64 y.kind, .int .i64 y.key, .int .u64 y.val] 90)) = wz at *
            generalize wr.heap.size = bo at *
            obtain ⟨A3, c3, hv3, hc3, _⟩ := HQ1.out.it.at_
            subst hv3
            have hll : (keptI n s.its ++ NI).length ≤ 2000 := by rw [List.length_append, HNL.out]; omega
            generalize hL : keptI n s.its ++ NI = L at *
            have z0 : wz.cell? ⟨b, 34, none⟩ = some (.slice A3 L.length c3) := by rw [cell_of_row _ b 34 _ _ _ HQ1.out.blk]; exact qget0 _ _ _ _
            have z2 : wz.cell? ⟨b, 36, none⟩ = some (.int .i64 (s.gv + P + 1)) := by rw [cell_of_row _ b 36 _ _ _ HQ1.out.blk]; exact qget2 _ _ _ _
            have zo : wz.cell? ⟨bo, 2, none⟩ = some (.int .u64 y.val) := by rw [cell_of_row _ bo 2 _ _ _ HXZ.out]; rfl
            have z0a : (wz.alloc (.cells #[.int .i64 (s.gv + P + 1), .int .u64 y.val, .int .i64 0] 127)).cell? ⟨b, 34, none⟩ = some (.slice A3 L.length c3) := by rw [World.cell?_alloc_lt _ _ _ (World.block_lt_of_cell? _ _ z0)]; exact z0
            have HQD := hid (HQ1.out.below (bd1 wz))
            go_region_law (refine Kd.R_append_step eIt.kd (w0 := wz.drew) 0 (by rfl) (.tmp 52) (.tmp 60) 75 127 _ 24 rfl Tryz.underlying75 info127 (by rfl) (by decide) (by decide) (.slice A3 L.length c3) L ⟨s.gv + P + 1, y.val, 0⟩ (encIt ⟨s.gv + P + 1, y.val, 0⟩) (fun _ => True) (fun _ => False) (by simp [Act.eval, Act.put]) (by simp [Act.eval, Act.put]) rfl (fun _ q => q.elim) (fun _ _ => trivial) HQD.out.it (Below.refl _ _) (Nat.zero_le _) (by omega) ?_; intro v5 w5 ho5 hb5 hg5 hat5; have hb5' : w5.heap[b]? = some (.cells (qCells Zz (.slice A3 L.length c3) (qv) ((s.gv + P + 1))) 82 (0, 0)) := (hg5.block _ (HQD.out.fb _ HQD.out.bF) (fun q => HQD.out.iv_ne.1 q.symm)).trans HQD.out.blk; have hc5 : w5.cell? ⟨b, 34, none⟩ = some (.slice A3 L.length c3) := (by rw [cell_of_row w5 b 34 _ _ _ hb5']; exact qget0 _ _ _ _); have hz5 : w5.frozen? ⟨b, 34, none⟩ = false := (by simp [World.frozen?, hb5']); have HO5 := hid ho5; have HG5 := hid hg5; have HT5 := hid hat5; have HB5 := hid hb5'; clear ho5 hg5 hat5 hb5'; obtain ⟨A5, c5, hv5⟩ := Kd.R_slice HO5.out; rw [List.length_append, List.length_singleton] at hv5; subst hv5)
            all_goals
              have hf6 : Fr (fun k => k = b ∨ (Value.slice A3 L.length c3).ownBlock = some k) wz.drew (w5.setCell ⟨b, 34, none⟩ (.slice A5 (L.length + 1) c5)) := Fr.setCell (p := ⟨b, 34, none⟩) ((Fr.of_grown HG5.out).mono (fun j hj => .inr hj)) (.inl (.inl rfl)) _
              have hi6 : FR eIt 127 (w5.setCell ⟨b, 34, none⟩ (.slice A5 (L.length + 1) c5)) (.slice A5 (L.length + 1) c5) (L ++ [⟨s.gv + P + 1, y.val, 0⟩]) := FR.move HO5.out (fun j hj => Below.heap_setCell _ _ _ _ (fun q => FR.ne HO5.out HB5.out (by decide) (by rw [hj]; exact congrArg some q)))
              have hq6 : FR eWI 119 (w5.setCell ⟨b, 34, none⟩ (.slice A5 (L.length + 1) c5)) qv I := HQD.out.wp.move (fun k hk => hf6.block k (HQD.out.wp.lt hk) (fun q => by
                rcases q with q | q
                · exact HQD.out.iv_ne.2.1 (by rw [hk, q])
                · exact HQD.out.iv_ne.2.2 k q hk))
              have hfin := HQD.out.turn (hf6.mono (fun k hk => hk.imp id (fun q => .inl q))) (blk_q0 HB5.out (.slice A5 (L.length + 1) c5)) hi6 hq6 (List.Sublist.refl _) (fun j hj => by
                rcases HT5.out with q | ⟨b', q, hb⟩
                · exact .inl (q ▸ hj)
                · rw [hj] at q; cases q; exact .inr hb) (fun j hj => .inl hj)
              have hbf := hf6.at_ (show wz.drew.heap[bx]? = _ from HBZ.out) (fun q => HNF2.out (by
                rcases q with q | q
                · rw [q]; exact HQD.out.bF
                · exact HQD.out.iF _ q))
              have hff := HFZ.out.drew.trans hf6 (fun j hj => HGZ.out j (by
                rcases hj with q | q
                · rw [q]; exact HQD.out.bF
                · exact HQD.out.iF _ q))
              have hgf := HGZ.out.trans (grew_more F2 wz.drew (w5.setCell ⟨b, 34, none⟩ (.slice A5 (L.length + 1) c5))) HFZ.out.size
              have HFIN := hid hfin
              have HBF := hid hbf
              have HFF := hid hff
              have HGF := hid hgf
              clear hf6 hi6 hq6 hfin hbf hff hgf
              go_wp2_with fail
              go_roundg (x.l.length + 1 - (i + 1))
              case measure => rw [HN.out]; omega
              case rel => exact ⟨i + 1, _, _, by go_num, by omega, rfl, by
                rw [HNS.out, HPT.out, q, ← List.append_assoc, hL]
                have h9 := HFIN.out
                simpa [Int.add_assoc] using h9, HGF.out, HFF.out, HBF.out, fun q => q.elim HNF2.out (fun q => by have h1 := q.1; have h3 := blk_lt HBZ.out; have h4 : wz.drew.heap.size = wz.heap.size := rfl; omega)⟩
        · have hil : i = x.l.length := by omega
          subst hil
          rw [List.take_length] at hQ
          have kbx : wr.cell? ⟨bx, 0, none⟩ = some (.int .i64 n) := by rw [cell_of_row _ _ 0 _ _ _ HBXR.out]; rfl
          have HG := hid (gone_any (s := ⟨keptI n s.its ++ newI x.l s.gv, s.ws, s.gv + putsL x.l⟩) ⟨I, _, qv, hQ, HWS.out⟩ (by show s.ws.length ≤ _; have := HB.out.ws; omega) n)
          clear hQ
          go_wp2_with fail
          refine HG.out.mono ?_
          rintro e w5 ⟨rfl, ⟨F5, h5, g5⟩, f5⟩
          go_wp2_with fail
          go_ret
          exact ⟨by rw [HE.out]; rfl, ⟨F5, by rw [HE.out]; exact h5, HGR.out.trans g5 HFR.out.size⟩, HFR.out.trans f5 (fun j hj => HGR.out j hj)⟩
end Go.Proofs.YtdejbinmnoabeaaGreat.Q
namespace Go.Proofs.YtdejbinmnoabeaaGreat.Q
open Go.RowKit Go.Mine Go.Shelf Go.Proofs.YtdejbinmnoabeaaGreatW.PrintWords
attribute [local go_sem] Oper.semAt_some
set_option linter.unusedVariables false
set_option linter.unusedSimpArgs false
section
variable {F : Fence} {n : Nat} {P : Program} {g : Operand} {ps : Array Tmp} {assign body : Code} {Q : Exit → Act → World → Prop} {a : Act} {w : World}
theorem below_put {B : Nat} {w W : World} (hb : Below B w W) (hB : B ≤ W.heap.size) {l : Nat} (hl : B ≤ l) (o : Obj) : Below B w (W.putObj l o) :=
  hb.grown (grownBy_putObj' W _ _) hB (fun k e => by cases e; omega)
theorem range_none (hro : F.round = none) (h1 : 1 ≤ n) {gf : Nat} {lb : Array Value} (hg : a.eval g = .func (.func gf) #[] lb) (hFg : F.fn gf) (eg : ∀ args w, (callFunc gf args).run P w = .ok (.enter gf args) w)
    (hseq : ∀ (l : Nat) (W : World), Below w.heap.size w W → CallsIn F (n - 1) P gf (#[.func (.yield l) #[] #[]] ++ lb) W fun e W' => (∃ v, e = .returned v) ∧ Below W.heap.size W W')
    (hdone : ∀ W : World, Below w.heap.size w W → W.heap[w.heap.size]? = some (.deferred (some [])) → Q .normal { a with defers := { target := .collected w.heap.size, args := #[] } :: a.defers } W) :
    (Code.rangeFunc g ps assign body).wpIn F n P Q a w := by
  refine wpIn_rangeFunc ?_
  intro fn hfn
  rw [hro]
  obtain ⟨rec, hrec⟩ : ∃ rec : LoopState → Option Code → Loop, rec = fun st pe => { state := st, pending := pe, fn, tmps := a.tmps, params := ps, assign, body, defers := w.heap.size } := ⟨_, rfl⟩
  obtain ⟨W1, hW1⟩ : ∃ W1, (w.alloc (.deferred (some []))).alloc (.loop (rec .ready none)) = W1 := ⟨_, rfl⟩
  have hL1 : W1.heap[w.heap.size + 1]? = some (.loop (rec .ready none)) := by
    rw [← hW1]; have := World.alloc_heap_new (w.alloc (.deferred (some []))) (.loop (rec .ready none)); rwa [World.size_alloc] at this
  have hD1 : W1.heap[w.heap.size]? = some (.deferred (some [])) := by
    rw [← hW1]; exact (Below.heap_alloc _ _ _ (by simp)).trans (World.alloc_heap_new w _)
  have hB1 : Below w.heap.size w W1 := by
    rw [← hW1]; exact ((Below.refl _ _).alloc (Nat.le_refl _) _).alloc (by simp) _
  have hs1 : w.heap.size + 1 < W1.heap.size := (Array.getElem?_eq_some_iff.1 hL1).1
  refine ⟨w.heap.size + 1, [{ target := .collected w.heap.size, args := #[] }], W1, { target := .fn (.func gf) lb, args := #[.func (.yield (w.heap.size + 1)) #[] #[]] }, W1, gf,
    #[.func (.yield (w.heap.size + 1)) #[] #[]] ++ lb, W1, ?_, ?_, ?_, ?_, fun _ => h1, ?_⟩
  · rw [← hW1, hrec]; exact run_enterLoop_outer _ _ _ _ _
  · simp only [resolve, hg]
    simp [go_sem]
  · intro f' hf'; simp [Target.leads] at hf'; subst hf'; exact hFg
  · simp [invoke, go_sem, eg]
  · refine (hseq (w.heap.size + 1) W1 hB1).mono ?_
    rintro e W2 ⟨⟨v, rfl⟩, hb⟩
    have hl := (hb.block _ hs1).trans hL1
    have hd := (hb.block _ (by omega)).trans hD1
    have he := run_endLoop (P := P) hl (by rw [hrec]; simp)
    rw [hrec] at he
    have hs2 := hb.size
    exact ⟨none, _, he, hdone _ (below_put (hB1.trans (hb.mono hB1.size)) (by omega) (by omega) _) ((World.putObj_heap_other (by omega)).trans hd)⟩
theorem range_first (hro : F.round = none) (h1 : 1 ≤ n) {gf : Nat} {lb : Array Value} (hg : a.eval g = .func (.func gf) #[] lb) (hFg : F.fn gf) (eg : ∀ args w, (callFunc gf args).run P w = .ok (.enter gf args) w)
    {enc : Array Value} (hps : enc.size = ps.size) (id : Nat)
    (hseq : ∀ (l : Nat) (W : World) (R : World → Prop), Below w.heap.size w W → (∀ W1, Below W.heap.size W W1 → YieldAt F (n - 1 - 1) P l enc W1 fun e W' => e = .returned (.bool false) ∧ R W') →
      CallsIn F (n - 1) P gf (#[.func (.yield l) #[] #[]] ++ lb) W fun e W'' => (∃ v, e = .returned v) ∧ ∃ W', R W' ∧ Below W'.heap.size W' W'')
    (I : World → Prop) (hIb : ∀ (W : World) (o o' : Obj), W.heap[w.heap.size + 1]? = some o → o.isCells = false → I W → I (W.putObj (w.heap.size + 1) o')) (hIc : ∀ W W' : World, Below W.heap.size W W' → I W → I W')
    (a₁ : Act)
    (hassign : ∀ (l : Nat) (W : World) (K : Act → World → Prop), K a₁ W →
      assign.wpIn (F.inRound l) (n - 1 - 1) P (Exit.then K (fun _ _ _ => False)) { tmps := (ps.zip enc).foldl (fun t (p, v) => t.setIfInBounds p v) a.tmps, defers := [] } W)
    (hbody : ∀ (l : Nat) (W : World), Below w.heap.size w W → w.heap.size + 2 ≤ W.heap.size → body.wpIn (F.inRound l) (n - 1 - 1) P (fun e _ W' => e = .exit id ∧ (∀ k, w.heap.size ≤ k → k < W.heap.size → W'.heap[k]? = W.heap[k]?) ∧ I W') a₁ W)
    (hstop : ∀ W : World, I W → W.heap[w.heap.size]? = some (.deferred (some [])) → (Code.exit id).wpIn F n P Q { a with defers := { target := .collected w.heap.size, args := #[] } :: a.defers } W) :
    (Code.rangeFunc g ps assign body).wpIn F n P Q a w := by
  refine wpIn_rangeFunc ?_
  intro fn hfn
  rw [hro]
  obtain ⟨rec, hrec⟩ : ∃ rec : LoopState → Option Code → Loop, rec = fun st pe => { state := st, pending := pe, fn, tmps := a.tmps, params := ps, assign, body, defers := w.heap.size } := ⟨_, rfl⟩
  obtain ⟨W1, hW1⟩ : ∃ W1, (w.alloc (.deferred (some []))).alloc (.loop (rec .ready none)) = W1 := ⟨_, rfl⟩
  have hL1 : W1.heap[w.heap.size + 1]? = some (.loop (rec .ready none)) := by
    rw [← hW1]; have := World.alloc_heap_new (w.alloc (.deferred (some []))) (.loop (rec .ready none)); rwa [World.size_alloc] at this
  have hD1 : W1.heap[w.heap.size]? = some (.deferred (some [])) := by
    rw [← hW1]; exact (Below.heap_alloc _ _ _ (by simp)).trans (World.alloc_heap_new w _)
  have hB1 : Below w.heap.size w W1 := by
    rw [← hW1]; exact ((Below.refl _ _).alloc (Nat.le_refl _) _).alloc (by simp) _
  have hs1 : w.heap.size + 1 < W1.heap.size := (Array.getElem?_eq_some_iff.1 hL1).1
  refine ⟨w.heap.size + 1, [{ target := .collected w.heap.size, args := #[] }], W1, { target := .fn (.func gf) lb, args := #[.func (.yield (w.heap.size + 1)) #[] #[]] }, W1, gf,
    #[.func (.yield (w.heap.size + 1)) #[] #[]] ++ lb, W1, ?_, ?_, ?_, ?_, fun _ => h1, ?_⟩
  · rw [← hW1, hrec]; exact run_enterLoop_outer _ _ _ _ _
  · simp only [resolve, hg]
    simp [go_sem]
  · intro f' hf'; simp [Target.leads] at hf'; subst hf'; exact hFg
  · simp [invoke, go_sem, eg]
  · refine (hseq (w.heap.size + 1) W1 (fun W => I W ∧ W.heap[w.heap.size + 1]? = some (.loop (rec .done (some (.exit id)))) ∧ W.heap[w.heap.size]? = some (.deferred (some []))) hB1 ?_).mono ?_
    · intro W hb
      have hl := (hb.block _ hs1).trans hL1
      have hd := (hb.block _ (by omega)).trans hD1
      have hs2 := hb.size
      have hlt : w.heap.size + 1 < W.heap.size := by omega
      have hy := run_yield (P := P) (args := enc) hl (by rw [hrec]; exact hps)
      rw [hrec] at hy
      refine ⟨fn, _, assign, body, hy, roundIn_of_wpIn hfn (hassign _ W _ ⟨_, run_beginRound hl (by rw [hrec]), ?_⟩)⟩
      have hl2 : (W.putObj (w.heap.size + 1) (.loop { rec .ready none with state := .busy })).heap[w.heap.size + 1]? = some (.loop { rec .ready none with state := .busy }) := World.putObj_heap_same hlt
      have hd2 : (W.putObj (w.heap.size + 1) (.loop { rec .ready none with state := .busy })).heap[w.heap.size]? = some (.deferred (some [])) := (World.putObj_heap_other (by omega)).trans hd
      refine wpIn_mono (hbody _ _ (below_put (hB1.trans (hb.mono hB1.size)) (by omega) (by omega) _) (by simp; omega)) ?_
      rintro e a3 W3 ⟨rfl, hk3, hi3⟩
      have hl3 := (hk3 _ (by omega) (by simp; omega)).trans hl2
      have hd3 := (hk3 _ (by omega) (by simp; omega)).trans hd2
      have hr := run_endRound (P := P) (some (.exit id)) hl3
      rw [hrec] at hr
      refine ⟨_, _, hr, rfl, hIb _ _ _ hl3 rfl hi3, ?_, (World.putObj_heap_other (by omega)).trans hd3⟩
      rw [hrec]
      exact World.putObj_heap_same (Array.getElem?_eq_some_iff.1 hl3).1
    · rintro e W2 ⟨⟨v, rfl⟩, W', ⟨hi, hl, hd⟩, hb⟩
      have hl' := (hb.block _ (Array.getElem?_eq_some_iff.1 hl).1).trans hl
      have hd' := (hb.block _ (Array.getElem?_eq_some_iff.1 hd).1).trans hd
      have he := run_endLoop (P := P) hl' (by rw [hrec]; simp)
      rw [hrec] at he
      exact ⟨some (.exit id), _, he, hstop _ (hIb _ _ _ hl' rfl (hIc _ _ hb hi)) ((World.putObj_heap_other (by omega)).trans hd')⟩
end
end Go.Proofs.YtdejbinmnoabeaaGreat.Q
namespace Go.Proofs.YtdejbinmnoabeaaGreat.Q
variable {Zz : QZ}
open Go.RowKit Go.Mine Go.Shelf Go.Proofs.YtdejbinmnoabeaaGreatW.PrintWords
attribute [local go_sem] Oper.semAt_some
set_option linter.unusedVariables false
set_option linter.unusedSimpArgs false
theorem others_any (b : Nat) (n : Int) (w : World) :
    Calls Tryz.prog 87 #[.pointer (some ⟨b, 34, none⟩), .int .i64 n] w fun e w' => e = .returned (.func (.func 111) #[] #[.pointer (some ⟨w.heap.size, 0, none⟩), .pointer (some ⟨w.heap.size + 1, 0, none⟩)]) ∧
      w' = (w.alloc (.cells #[.pointer (some ⟨b, 34, none⟩)] 118)).alloc (.cells #[.int .i64 n] 3) := by
  go_enter Tryz.func87, Tryz.ntmps87
  go_wp2
  go_ret
  exact ⟨rfl, rfl⟩
theorem drewN_two (w : World) (a b : Nat) : ((w.drewN a).drewN b) = w.drewN (a + b) := by
  simp [World.drewN, Nat.add_assoc]
set_option maxRecDepth 100000 in
set_option maxHeartbeats 4000000 in
theorem seq_none (n : Int) (bq bn b l m : Nat) (hm : 1 ≤ m) (W : World) (A : Option Addr) (L : List It) (c : Nat) (hq : W.cell? ⟨bq, 0, none⟩ = some (.pointer (some ⟨b, 34, none⟩))) (hn : W.cell? ⟨bn, 0, none⟩ = some (.int .i64 n)) (hb : W.cell? ⟨b, 34, none⟩ = some (.slice A L.length c)) (hat : RowAt encIt 3 W W.heap.size A L) (hl : L.length ≤ 1000000)
    (hall : ∀ y ∈ L, (y.by_ == n) = true) :
    CallsIn Fence.wide m Tryz.prog 111 (#[.func (.yield l) #[] #[]] ++ #[.pointer (some ⟨bq, 0, none⟩), .pointer (some ⟨bn, 0, none⟩)]) W fun e W' => (∃ v, e = .returned v) ∧ Below W.heap.size W W' := by
  refine callsIn_wide.2 ?_
  simp only [List.append_toArray, List.cons_append, List.nil_append]
  go_enter Tryz.func111, Tryz.ntmps111
  go_wp2_with fail
  go_loopg [10] (L.length + 1) (fun mm v wr => ∃ j : Nat, v = .int .i64 j ∧ j ≤ L.length ∧ mm = L.length + 1 - j ∧ Below W.heap.size W wr)
  case atStart => exact ⟨0, rfl, Nat.zero_le _, rfl, Below.refl _ _⟩
  case round =>
    obtain ⟨j, rfl, hj, hmm, hbl⟩ := hrel
    have HN := hid hmm
    have q1 := (hbl.cell (World.block_lt_of_cell? _ _ hq)).trans hq
    have q2 := (hbl.cell (World.block_lt_of_cell? _ _ hn)).trans hn
    have q3 := (hbl.cell (World.block_lt_of_cell? _ _ hb)).trans hb
    clear hmm
    by_cases h1 : j < L.length
    · obtain ⟨y, hy⟩ : ∃ y, L[j]? = some y := ⟨_, List.getElem?_eq_getElem h1⟩
      obtain ⟨b', off, rfl, hbb, hcc⟩ := (hat.below hbl) j y hy
      have k2 : wr.cell? ⟨b', off + j * 3 + 2, none⟩ = some (.int .i64 y.by_) := hcc 2 _ rfl
      have hyn := hall y (List.mem_of_getElem? hy)
      have hne : (y.by_ != n) = false := by simpa [bne] using hyn
      clear hcc hy
      go_wp2_with fail
      go_quiet (fail)
      go_wp2_with fail
      go_roundg (L.length + 1 - (j + 1))
      case measure => rw [HN.out]; omega
      case rel => exact ⟨j + 1, by go_num, by omega, rfl, hbl.trans ((bdN wr _).mono hbl.size)⟩
    · go_wp2_with fail
      go_end0
      exact ⟨⟨_, rfl⟩, hbl⟩
set_option maxRecDepth 100000 in
set_option maxHeartbeats 4000000 in
theorem seq_first (n : Int) (bq bn b l m : Nat) (hm : 1 ≤ m) (W : World) (g : Nat) (L : List It) (c : Nat) (hq : W.cell? ⟨bq, 0, none⟩ = some (.pointer (some ⟨b, 34, none⟩))) (hn : W.cell? ⟨bn, 0, none⟩ = some (.int .i64 n)) (hb : W.cell? ⟨b, 34, none⟩ = some (.slice (some ⟨g, 0, none⟩) L.length c)) (hat : RowAt encIt 3 W W.heap.size (some ⟨g, 0, none⟩) L) (hl : L.length ≤ 1000000)
    (i : Nat) (x : It) (hx : L[i]? = some x) (hxn : (x.by_ == n) = false) (hpre : ∀ j y, j < i → L[j]? = some y → (y.by_ == n) = true) (R : World → Prop)
    (hY : ∀ W1, Below W.heap.size W W1 → YieldAt Fence.wide (m - 1) Tryz.prog l #[.pointer (some ⟨g, i * 3, none⟩)] W1 fun e W' => e = .returned (.bool false) ∧ R W') :
    CallsIn Fence.wide m Tryz.prog 111 (#[.func (.yield l) #[] #[]] ++ #[.pointer (some ⟨bq, 0, none⟩), .pointer (some ⟨bn, 0, none⟩)]) W fun e W'' => (∃ v, e = .returned v) ∧ ∃ W', R W' ∧ Below W'.heap.size W' W'' := by
  have hil := (List.getElem?_eq_some_iff.1 hx).1
  have HX := hid hx
  have HPRE := hid hpre
  have HY := hid hY
  clear hx hpre hY
  refine callsIn_wide.2 ?_
  simp only [List.append_toArray, List.cons_append, List.nil_append]
  go_enter Tryz.func111, Tryz.ntmps111
  go_wp2_with fail
  go_loopg [10] (L.length + 1) (fun mm v wr => ∃ j : Nat, v = .int .i64 j ∧ j ≤ i ∧ mm = L.length + 1 - j ∧ Below W.heap.size W wr)
  case atStart => exact ⟨0, rfl, Nat.zero_le _, rfl, Below.refl _ _⟩
  case round =>
    obtain ⟨j, rfl, hj, hmm, hbl⟩ := hrel
    have HN := hid hmm
    have q1 := (hbl.cell (World.block_lt_of_cell? _ _ hq)).trans hq
    have q2 := (hbl.cell (World.block_lt_of_cell? _ _ hn)).trans hn
    have q3 := (hbl.cell (World.block_lt_of_cell? _ _ hb)).trans hb
    clear hmm
    have hjl : j < L.length := by omega
    by_cases h1 : j < i
    · obtain ⟨y, hy⟩ : ∃ y, L[j]? = some y := ⟨_, List.getElem?_eq_getElem hjl⟩
      obtain ⟨b', off, he, hbb, hcc⟩ := (hat.below hbl) j y hy
      cases he
      have k2 : wr.cell? ⟨g, 0 + j * 3 + 2, none⟩ = some (.int .i64 y.by_) := hcc 2 _ rfl
      rw [Nat.zero_add] at k2
      have hyn := HPRE.out j y h1 hy
      have hne : (y.by_ != n) = false := by simpa [bne] using hyn
      clear hcc hy
      go_wp2_with fail
      go_quiet (fail)
      go_wp2_with fail
      go_roundg (L.length + 1 - (j + 1))
      case measure => rw [HN.out]; omega
      case rel => exact ⟨j + 1, by go_num, by omega, rfl, hbl.trans ((bdN wr _).mono hbl.size)⟩
    · have hji : j = i := by omega
      subst hji
      obtain ⟨b', off, he, hbb, hcc⟩ := (hat.below hbl) j x HX.out
      cases he
      have k2 : wr.cell? ⟨g, 0 + j * 3 + 2, none⟩ = some (.int .i64 x.by_) := hcc 2 _ rfl
      rw [Nat.zero_add] at k2
      have hne : (x.by_ != n) = true := by simpa [bne] using hxn
      clear hcc
      go_wp2_with fail
      have hmx : Tryz.prog.follows .mixedOrders = true := by kernel_rfl
      obtain ⟨fn, tmps, assign, body, hy1, hR⟩ := HY.out wr.drew (hbl.trans ((bd1 wr).mono hbl.size))
      refine (wpIn_wide (n := m)).1 ?_
      gi_region_with_o (refine hR.mono ?_; rintro e W3 ⟨rfl, hR3⟩)
      all_goals
        go_wp2_with fail
        refine bodyPost_ret (results_none rfl _ _ _) rfl ?_
        exact ⟨⟨_, rfl⟩, _, hR3, Below.refl _ _⟩
end Go.Proofs.YtdejbinmnoabeaaGreat.Q
