/- Walks of the queue: Clone, Put, Prepare, Backout. Conditions: the queue reads as QAt Zz says. -/
import Derived.Test.YtdejbinmnoabeaaQuI
namespace Go.Mine
def QS.put (s : QS) (n v : Int) : Int × QS :=
  if s.fit n ≠ 0 then (s.fit n, s) else if s.room < 1 then (5, s) else (0, ⟨s.its, noteW n ⟨3, 0, v⟩ s.ws, s.gv⟩)
def QS.prepare (s : QS) (n : Int) : (List Ch × Int) × QS :=
  if s.fit n ≠ 0 then (([], s.fit n), s)
  else match aget n s.ws with
    | none => (([], 0), s)
    | some v => ((v.l, 0), ⟨s.its, aput n ⟨v.l, true⟩ s.ws, s.gv⟩)
def freeI (n : Int) (x : It) : It := if x.by_ == n then ⟨x.num, x.val, 0⟩ else x
def QS.backout (s : QS) (n : Int) : Int × QS :=
  if n < 1 then (1, s) else (0, ⟨s.its.map (freeI n), adel n s.ws, s.gv⟩)
def mixI {α : Type} (f : α → α) (L : List α) (i : Nat) : List α := (L.take i).map f ++ L.drop i
theorem mixI_len {α : Type} (f : α → α) (L : List α) (i : Nat) : (mixI f L i).length = L.length := by simp [mixI]; omega
theorem mixI_get {α : Type} (f : α → α) {L : List α} {i : Nat} {x : α} (hx : L[i]? = some x) : (mixI f L i)[i]? = some x := by
  have h1 := (List.getElem?_eq_some_iff.1 hx).1
  unfold mixI
  rw [List.getElem?_append_right (by simp; omega), List.getElem?_drop]
  simp only [List.length_map, List.length_take]
  rw [Nat.min_eq_left (by omega), Nat.sub_self, Nat.add_zero, hx]
theorem mixI_step {α : Type} (f : α → α) {L : List α} {i : Nat} {x : α} (hx : L[i]? = some x) : mixI f L (i + 1) = (mixI f L i).set i (f x) := by
  have h1 := (List.getElem?_eq_some_iff.1 hx).1
  have h2 := (List.getElem?_eq_some_iff.1 hx).2
  unfold mixI
  rw [List.take_succ_eq_append_getElem h1, h2, List.map_append, List.set_append_right _ _ (by simp; omega)]
  have hl : ((L.take i).map f).length = i := by simp; omega
  rw [hl, Nat.sub_self, List.drop_eq_getElem_cons h1, h2]
  simp
theorem mixI_same {α : Type} (f : α → α) {L : List α} {i : Nat} {x : α} (hx : L[i]? = some x) (hf : f x = x) : mixI f L (i + 1) = mixI f L i := by
  rw [mixI_step f hx, hf]
  apply List.ext_getElem?
  intro j
  rw [List.getElem?_set]
  by_cases h : i = j
  · subst h
    rw [if_pos rfl, mixI_get f hx, mixI_len, if_pos (List.getElem?_eq_some_iff.1 hx).1]
  · rw [if_neg h]
theorem mixI_all {α : Type} (f : α → α) (L : List α) : mixI f L L.length = L.map f := by simp [mixI]
end Go.Mine
namespace Go.Proofs.Ytdejbinmnoabeaa.Q
variable {Zz : QZ}
open Go.RowKit Go.Mine Go.Proofs.YtdejbinmnoabeaaW.PrintWords
set_option linter.unusedVariables false
set_option linter.unusedSimpArgs false
theorem ChAt.row {w : World} {B : Nat} {A : Option Addr} {l : List Ch} (h : ChAt w B A l) (hn : l.length ≤ 1000000000000) : eCh.kd.C w A l.length l := by
  refine ⟨rfl, by omega, fun hp => ?_⟩
  obtain ⟨b, off, e, _, _⟩ := h 0 l[0] (List.getElem?_eq_getElem hp)
  refine ⟨⟨b, off, none⟩, e, fun j p hj => ⟨encCh p, rfl, rfl, fun i u hu => ?_⟩⟩
  obtain ⟨b', off', e', _, hc⟩ := h j p hj
  rw [e] at e'
  cases e'
  have := hc i u hu
  rw [Nat.add_assoc] at this
  have ea : ∀ m, (⟨b, off, none⟩ : Addr).add m = ⟨b, off + m, none⟩ := fun m => by
    unfold Addr.add
    split
    · rename_i h0; subst h0; rfl
    · rfl
  rw [ea]
  exact this
theorem clone_any (A : Option Addr) (l : List Ch) (c B : Nat) (w : World) (hl : ChAt w B A l) (hn : l.length ≤ 1000000000) (hc : l.length ≤ c) :
    Calls Try.prog 64 #[.slice A l.length c] w fun e w' => ∃ v, e = .returned v ∧ ChRow w' v l ∧ (∀ k, v.ownBlock = some k → w.heap.size ≤ k) ∧ Below w.heap.size w w' := by
  cases A with
  | none =>
    have hl0 : l = [] := by
      cases l with
      | nil => rfl
      | cons x xs => obtain ⟨b, off, e, _⟩ := hl 0 x rfl; cases e
    subst hl0
    have hnil : ∀ w', (binOp .eql 22 (.slice none 0 c) (.slice none 0 0)).run Try.prog w' = .ok (.bool true) w' := fun w' => Lib.run_eql_slice_nil (P := Try.prog) w' 22 62 _ _ _ _ _ Try.underlying22
    go_enter Try.func64, Try.ntmps64
    go_wp2_with fail
    go_ret
    exact ⟨.slice none 0 0, rfl, FR.nil _ _ _, fun k hk => by simp [Value.ownBlock] at hk, Below.refl _ _⟩
  | some a =>
    have hrow := ChAt.row hl (by omega)
    have HR := hid hrow
    clear hl hrow
    have hnil : ∀ w', (binOp .eql 22 (.slice (some a) l.length c) (.slice none 0 0)).run Try.prog w' = .ok (.bool false) w' := fun w' => Lib.run_eql_slice_nil (P := Try.prog) w' 22 62 _ _ _ _ _ Try.underlying22
    go_enter Try.func64, Try.ntmps64
    go_wp2_with (first
      | ((with_reducible refine gate_dst (N := 5) rfl ?_); go_loud (refine Kd.R_lit eCh.kd w.heap.size 62 rfl (N := 5) rfl (xs := ([] : List Ch)) (inner := []) (ok := fun _ => True) (okp := fun _ => True) ?hr ?hp (fun _ hk => hk) trivial (Below.refl _ _) (Nat.le_refl _) (by simp) ?_); (case hr => first | (go_simp; done) | (go_simp; rfl)); (case hp => exact (Reps.none _ _)); intro v5 w5 ho5 hb5 hg5 hnew5; have HO5 := hid ho5; have HB5 := hid hb5; clear ho5 hb5 hg5 hnew5)
      | (at_builtin; go_loud (refine Kd.R_append_rows eCh.kd (Rr := fun x cs => cs = encCh x) (w0 := w) w.heap.size rfl (.tmp 5) (.tmp 6) 22 62 _ 24 rfl Try.underlying22 info62 (by rfl) (by decide) (by decide) v5 [] l _ _ _ (fun _ => True) (fun _ => False) rfl rfl HO5.out (ReadsRow.imp_ HR.out HB5.out (fun _ _ h => h)) (fun _ _ h => h) (fun _ h => h.elim) (fun _ _ => trivial) HB5.out HB5.out.size (by simp; omega) ?_); intro v7 w7 ho7 hb7 hg7 hat7; have HO7 := hid ho7; have HB7 := hid hb7; clear ho7 hb7 hg7 hat7))
    go_ret
    refine ⟨v7, rfl, ?_, fun k hk => Kd.R_base HO7.out k hk, HB7.out⟩
    have := Kd.R_lower HO7.out (Nat.zero_le _)
    simpa using this

theorem put_any {F : Nat → Prop} {w : World} {b : Nat} {s : QS} (h : QAt Zz F w b s) (hb : s.Bd) (n v : Int) :
    Calls Try.prog 44 #[.pointer (some ⟨b, 34, none⟩), .int .i64 n, .int .u64 v] w (SPost Zz F w b (s.put n v).1 (s.put n v).2) := by
  have hf := fit_any h (by have := hb.ws; omega) n
  have hr := room_any h hb
  have HF := hid hf
  have HRM := hid hr
  have H := hid h
  have HB := hid hb
  clear hf hr h hb
  go_enter Try.func44, Try.ntmps44
  by_cases h1 : s.fit n = 0
  · by_cases h2 : s.room < 1
    · have HE := hid (show s.put n v = (5, s) from by unfold QS.put; rw [if_neg (by simp [h1]), if_pos h2])
      go_wp2_with fail
      refine HF.out.mono ?_
      rintro e w1 ⟨rfl, rfl⟩
      rw [h1]
      go_wp2_with fail
      refine HRM.out.mono ?_
      rintro e w2 ⟨rfl, f2⟩
      go_wp2_with fail
      go_ret
      exact ⟨by rw [HE.out]; rfl, ⟨F, by rw [HE.out]; exact H.out.below f2, Grew.refl _ _⟩, (Fr.of_below f2 (Nat.le_refl _)).mono (fun _ q => q.elim)⟩
    · have HE := hid (show s.put n v = (0, ⟨s.its, noteW n ⟨3, 0, v⟩ s.ws, s.gv⟩) from by unfold QS.put; rw [if_neg (by simp [h1]), if_neg h2])
      go_wp2_with fail
      refine HF.out.mono ?_
      rintro e w1 ⟨rfl, rfl⟩
      rw [h1]
      go_wp2_with fail
      refine HRM.out.mono ?_
      rintro e w2 ⟨rfl, f2⟩
      have HNT := hid (note_any (H.out.below f2) HB.out n ⟨3, 0, v⟩)
      go_wp2_with fail
      refine HNT.out.mono ?_
      rintro e w3 ⟨rfl, ⟨F3, h3, g3⟩, f3⟩
      go_wp2_with fail
      go_ret
      exact ⟨by rw [HE.out]; rfl, ⟨F3, by rw [HE.out]; exact h3, g3.up f2.size⟩, ((Fr.of_below f2 (Nat.le_refl _)).mono (fun _ q => q.elim)).trans f3 (fun i hi => .inl hi)⟩
  · have HE := hid (show s.put n v = (s.fit n, s) from by unfold QS.put; rw [if_pos h1])
    have hz : (s.fit n == 0) = false := by simpa using h1
    go_wp2_with fail
    refine HF.out.mono ?_
    rintro e w1 ⟨rfl, rfl⟩
    go_wp2_with fail
    go_ret
    exact ⟨by rw [HE.out]; rfl, ⟨F, by rw [HE.out]; exact H.out, Grew.refl _ _⟩, Fr.refl _ _⟩
theorem put_nil (n v : Int) (w : World) : Calls Try.prog 44 #[.pointer none, .int .i64 n, .int .u64 v] w fun e w' => e = .returned (.int .i64 6) ∧ w = w' := by
  go_enter Try.func44, Try.ntmps44
  go_wp2_with fail
  refine (fit_nil _ _).mono ?_
  rintro e w1 ⟨rfl, rfl⟩
  go_wp2_with fail
  go_ret
  exact ⟨rfl, rfl⟩

def PrepPost (Zz : QZ) (F : Nat → Prop) (w : World) (b : Nat) (R : (List Ch × Int) × QS) (e : Ending) (w' : World) : Prop :=
  ∃ v, e = .returned (.tuple #[v, .int .i64 R.1.2]) ∧ (∃ F', QAt Zz F' w' b R.2 ∧ Grew F F' w ∧ (∀ k, v.ownBlock = some k → w.heap.size ≤ k ∧ ¬ F' k)) ∧ ChRow w' v R.1.1 ∧ Fr F w w'
set_option maxRecDepth 100000 in
set_option maxHeartbeats 4000000 in
theorem prepare_any {F : Nat → Prop} {w : World} {b : Nat} {s : QS} (h : QAt Zz F w b s) (hb : s.Bd) (n : Int) :
    Calls Try.prog 46 #[.pointer (some ⟨b, 34, none⟩), .int .i64 n] w (PrepPost Zz F w b (s.prepare n)) := by
  have hf := fit_any h (by have := hb.ws; omega) n
  have HF := hid hf
  have H := hid h
  obtain ⟨I, iv, qv, hR, hws⟩ := h
  have hIl : I.length ≤ 1000 := by have := hb.ws; rw [hws] at this; simpa [wsOf] using this
  have hfd := find_any hR (by omega) n
  have hg := aget_ws n I
  rw [← hws] at hg
  unfold findB at hfd
  have HR := hid hR
  have HWS := hid hws
  have HB := hid hb
  clear hf hR hws hb
  go_enter Try.func46, Try.ntmps46
  by_cases h1 : s.fit n = 0
  · cases hq : I.find? (fun x => decide (x.n = n)) with
    | none =>
      rw [hq] at hfd hg
      simp only [Option.map_none] at hfd hg
      have HE := hid (show s.prepare n = (([], 0), s) from by unfold QS.prepare; rw [if_neg (by simp [h1]), hg])
      have HFD := hid hfd
      clear hfd hg hq
      go_wp2_with fail
      refine HF.out.mono ?_
      rintro e w1 ⟨rfl, rfl⟩
      rw [h1]
      go_wp2_with fail
      refine HFD.out.mono ?_
      rintro e w2 ⟨rfl, rfl⟩
      simp only [Option.map_none]
      go_wp2_with fail
      go_ret2
      unfold PrepPost
      rw [HE.out]
      exact ⟨.slice none 0 0, rfl, ⟨F, H.out, Grew.refl _ _, fun k hk => by simp [Value.ownBlock] at hk⟩, FR.nil _ _ _, Fr.refl _ _⟩
    | some x =>
      obtain ⟨J1, J2, hJ, hxn, _⟩ := find_split hq
      have hxw := HR.out.wk x (List.mem_of_find?_eq_some hq)
      have hxle : x.l.length ≤ 1000 := HB.out.ls (x.n, ⟨x.l, x.p⟩) (by rw [HWS.out]; exact List.mem_map.2 ⟨x, List.mem_of_find?_eq_some hq, rfl⟩)
      obtain ⟨A, cp, hv, hAc, hat⟩ := hxw.2.2.1.at_
      have c2 : w.cell? ⟨x.wb, 2, none⟩ = some (.bool x.p) := by rw [cell_of_row _ _ 2 _ _ _ hxw.2.1]; rfl
      have hz1 : w.frozen? ⟨x.wb, 2, none⟩ = false := by simp [World.frozen?, hxw.2.1]
      rw [hq] at hfd hg
      simp only [Option.map_some] at hfd hg
      have HE := hid (show s.prepare n = ((x.l, 0), ⟨s.its, aput n ⟨x.l, true⟩ s.ws, s.gv⟩) from by unfold QS.prepare; rw [if_neg (by simp [h1]), hg])
      have HFD := hid hfd
      subst hJ
      have hf1 : Fr (fun i => i = x.wb ∨ x.v.ownBlock = some i) w (w.setCell ⟨x.wb, 2, none⟩ (.bool true)) := Fr.setCell (p := ⟨x.wb, 2, none⟩) (Fr.refl _ w) (.inl (.inl rfl)) _
      have hb1 : (w.setCell ⟨x.wb, 2, none⟩ (.bool true)).heap[x.wb]? = some (.cells #[.int .i64 x.n, x.v, .bool true] 118 (0, 0)) := blk_set' hxw.2.1 2 _
      have hr1 : ChRow (w.setCell ⟨x.wb, 2, none⟩ (.bool true)) x.v x.l := hxw.2.2.1.move (fun k hk => Below.heap_setCell _ _ _ _ (fun q => by
        have q' : k = x.wb := q
        subst q'
        exact types_ne (hxw.2.2.1.typed hk) ⟨_, hxw.2.1⟩ (by decide)))
      have hK := HR.out.work hf1 hb1 hr1 (.inl rfl)
      have hfr : Fr F w (w.setCell ⟨x.wb, 2, none⟩ (.bool true)) := hf1.mono (fun j hj => by
        rcases hj with q | q
        · rw [q]; exact hxw.1
        · exact hxw.2.2.2 j q)
      have hcl1 : (w.setCell ⟨x.wb, 2, none⟩ (.bool true)).cell? ⟨x.wb, 1, none⟩ = some (.slice A x.l.length cp) := by
        rw [cell_of_row _ _ 1 _ _ _ hb1, ← hv]; rfl
      have hch : ChAt (w.setCell ⟨x.wb, 2, none⟩ (.bool true)) (w.setCell ⟨x.wb, 2, none⟩ (.bool true)).heap.size A x.l := by
        obtain ⟨A', cp', hv', _, hat'⟩ := hr1.at_
        rw [hv] at hv'
        injection hv' with q1 q2 q3
        rw [q1]
        exact hat'
      have HCL := hid (clone_any A x.l cp _ _ hch (by omega) hAc)
      have HK := hid hK
      have HFR := hid hfr
      clear hfd hg hq hat hxw hf1 hb1 hr1 hK hfr hch hv
      go_wp2_with fail
      refine HF.out.mono ?_
      rintro e w1 ⟨rfl, rfl⟩
      rw [h1]
      go_wp2_with fail
      refine HFD.out.mono ?_
      rintro e w2 ⟨rfl, rfl⟩
      simp only [Option.map_some]
      go_wp2_with fail
      refine HCL.out.mono ?_
      rintro e w3 ⟨v3, rfl, hr3, ho3, hb3⟩
      go_wp2_with fail
      go_ret2
      unfold PrepPost
      rw [HE.out]
      have hfb := HK.out.fb
      refine ⟨v3, rfl, ⟨_, ⟨_, _, _, HK.out.below hb3, ?_⟩, grew_more _ _ _, fun k hk => ⟨Nat.le_trans HFR.out.size (ho3 k hk), fun q => ?_⟩⟩, hr3, HFR.out.trans ((Fr.of_below hb3 (Nat.le_refl _)).mono (fun _ q => q.elim)) (fun i hi => .inl hi)⟩
      · exact aput_ws HB.out.keys HWS.out hxn _ _ _
      · have := ho3 k hk; have := hfb k q; omega
  · have HE := hid (show s.prepare n = (([], s.fit n), s) from by unfold QS.prepare; rw [if_pos h1])
    have hz : (s.fit n == 0) = false := by simpa using h1
    clear hfd hg
    go_wp2_with fail
    refine HF.out.mono ?_
    rintro e w1 ⟨rfl, rfl⟩
    go_wp2_with fail
    go_ret2
    unfold PrepPost
    rw [HE.out]
    exact ⟨.slice none 0 0, rfl, ⟨F, H.out, Grew.refl _ _, fun k hk => by simp [Value.ownBlock] at hk⟩, FR.nil _ _ _, Fr.refl _ _⟩
theorem prepare_nil (n : Int) (w : World) : Calls Try.prog 46 #[.pointer none, .int .i64 n] w fun e w' => e = .returned (.tuple #[.slice none 0 0, .int .i64 6]) ∧ w = w' := by
  go_enter Try.func46, Try.ntmps46
  go_wp2_with fail
  refine (fit_nil _ _).mono ?_
  rintro e w1 ⟨rfl, rfl⟩
  go_wp2_with fail
  go_ret2
  exact ⟨rfl, rfl⟩

set_option maxRecDepth 100000 in
set_option maxHeartbeats 4000000 in
theorem backout_any {F : Nat → Prop} {w : World} {b : Nat} {s : QS} (h : QAt Zz F w b s) (hb : s.Bd) (n : Int) :
    Calls Try.prog 66 #[.pointer (some ⟨b, 34, none⟩), .int .i64 n] w (SPost Zz F w b (s.backout n).1 (s.backout n).2) := by
  have H := hid h
  obtain ⟨I, iv, qv, hR, hws⟩ := h
  have hIl : s.its.length ≤ 100 := hb.its
  have hwl : s.ws.length ≤ 1000 := hb.ws
  have HWS := hid hws
  obtain ⟨A0, c0, rfl, hc0, _⟩ := hR.it.at_
  have HR := hid hR
  clear hR hws hb
  by_cases h1 : n < 1
  · have HE := hid (show s.backout n = (1, s) from by unfold QS.backout; rw [if_pos h1])
    go_enter Try.func66, Try.ntmps66
    go_wp2_with fail
    refine (decided_any _ _ _).mono ?_
    rw [if_pos h1]
    rintro e w1 ⟨rfl, rfl⟩
    go_wp2_with fail
    go_ret
    exact ⟨by rw [HE.out]; rfl, ⟨F, by rw [HE.out]; exact H.out, Grew.refl _ _⟩, Fr.refl _ _⟩
  · have HE := hid (show s.backout n = (0, ⟨s.its.map (freeI n), adel n s.ws, s.gv⟩) from by unfold QS.backout; rw [if_neg h1])
    have hk0 : w.cell? ⟨b, 34, none⟩ = some (.slice A0 s.its.length c0) := by rw [cell_of_row w b 34 _ _ _ HR.out.blk]; exact qget0 _ _ _ _
    go_enter Try.func66, Try.ntmps66
    go_wp2_with fail
    refine (decided_any _ _ _).mono ?_
    rw [if_neg (by omega)]
    rintro e w1 ⟨rfl, rfl⟩
    go_wp2_with fail
    clear hk0
    go_loopg [18] (s.its.length + 1) (fun m v wr => ∃ (i : Nat) (F' : Nat → Prop), v = .int .i64 i ∧ i ≤ s.its.length ∧ m = s.its.length + 1 - i ∧ QR Zz eIt T0 F' wr b (mixI (freeI n) s.its i) I s.gv (.slice A0 s.its.length c0) qv ∧ Grew F F' w ∧ Fr F w wr)
    case atStart => exact ⟨0, F, rfl, Nat.zero_le _, rfl, by simpa [mixI] using HR.out, Grew.refl _ _, Fr.refl _ _⟩
    case round =>
      obtain ⟨i, F', rfl, hi, hm, hQ, hgr, hfr⟩ := hrel
      have HN := hid hm
      have HGR := hid hgr
      have HFR := hid hfr
      clear hm hgr hfr
      have k0 : wr.cell? ⟨b, 34, none⟩ = some (.slice A0 s.its.length c0) := by rw [cell_of_row wr b 34 _ _ _ hQ.blk]; exact qget0 _ _ _ _
      by_cases h2 : i < s.its.length
      · obtain ⟨x, hx⟩ : ∃ x, s.its[i]? = some x := ⟨_, List.getElem?_eq_getElem h2⟩
        have hxm := mixI_get (freeI n) hx
        have hlen := mixI_len (freeI n) s.its i
        obtain ⟨g, rfl⟩ := hQ.it.form (by rw [hlen]; omega)
        obtain ⟨co, hcl, hcM, hcc, hcz⟩ := Kd.R_elem hQ.it x (i : Int) (by omega) (by omega)
        have hco : co = encIt x := by
          have : co = encIt ((mixI (freeI n) s.its i).getD (i : Int).toNat x) := hcM
          rw [this]
          simp [List.getD_eq_getElem?_getD, hxm]
        subst hco
        have k1 : wr.cell? ⟨g, i * 3 + 2, none⟩ = some (.int .i64 x.by_) := hcc 2 _ rfl
        have hz : wr.frozen? ⟨g, i * 3 + 2, none⟩ = false := hcz 2
        have hi1 : (i : Int) < s.its.length := by omega
        have hi0 : (0 : Int) ≤ i := by omega
        have HX := hid hx
        have HQ := hid hQ
        have HCC := hid hcc
        cases hq : (x.by_ == n)
        · have hs := mixI_same (freeI n) hx (by unfold freeI; rw [hq]; rfl)
          have HS := hid hs
          clear hs hx hxm hQ hcc hcM hcz hlen
          go_wp2_with fail
          go_roundg (s.its.length + 1 - (i + 1))
          case measure => rw [HN.out]; omega
          case rel => exact ⟨i + 1, F', by go_num, by omega, rfl, by rw [HS.out]; exact HQ.out, HGR.out, HFR.out⟩
        · have hs := mixI_step (freeI n) hx
          have hfx : freeI n x = ⟨x.num, x.val, 0⟩ := by unfold freeI; rw [hq]; rfl
          rw [hfx] at hs
          have HS := hid hs
          have hseg := Kd.R_seg HQ.out.it (i : Int) (by omega) (by omega) (j := 2) (seg := [.int .i64 0]) (x' := ⟨x.num, x.val, 0⟩) hcl HCC.out (by simp [eIt, Enc.kd]) (okp := fun _ => False) rfl (fun _ q => q.elim)
          have hw : wr.setCells g (Int.toNat (i : Int) * eIt.kd.sz + 2) [.int .i64 0] = wr.setCell ⟨g, i * 3 + 2, none⟩ (.int .i64 0) := rfl
          rw [hw] at hseg
          have HSEG := hid hseg
          clear hs hx hxm hQ hcc hcM hcz hlen hseg hw hfx
          go_wp2_with fail
          go_roundg (s.its.length + 1 - (i + 1))
          case measure => rw [HN.out]; omega
          case rel =>
            have hf8 : Fr (fun k => k = g) wr (wr.setCell ⟨g, i * 3 + 2, none⟩ (.int .i64 0)) := (Fr.of_grown HSEG.out.2).mono (fun k hk => by cases hk; rfl)
            have hgne : g ≠ b := fun q => HQ.out.iv_ne.1 (by rw [← q]; rfl)
            have hi8 : FR eIt 108 (wr.setCell ⟨g, i * 3 + 2, none⟩ (.int .i64 0)) (.slice (some ⟨g, 0, none⟩) s.its.length c0) (mixI (freeI n) s.its (i + 1)) := by
              rw [HS.out]
              exact HSEG.out.1
            have hfin := HQ.out.turn (hf8.mono (fun k hk => .inr (.inl (by rw [hk]; rfl)))) (hf8.at_ HQ.out.blk (fun q => hgne q.symm)) hi8 (HQ.out.wp.move (fun k hk => hf8.block k (HQ.out.wp.lt hk) (fun q => HQ.out.iv_ne.2.2 g rfl (by rw [hk, q])))) (List.Sublist.refl _) (fun j hj => .inl hj) (fun j hj => .inl hj)
            exact ⟨i + 1, _, by go_num, by omega, rfl, hfin, HGR.out.trans (grew_more _ _ _) HFR.out.size, HFR.out.trans hf8 (fun j hj => HGR.out j (by rw [hj]; exact HQ.out.iF _ rfl))⟩
      · have hil : i = s.its.length := by omega
        have ht : mixI (freeI n) s.its i = s.its.map (freeI n) := by rw [hil]; exact mixI_all _ _
        rw [ht] at hQ
        have HG := hid (gone_any (s := ⟨s.its.map (freeI n), s.ws, s.gv⟩) ⟨I, _, qv, hQ, HWS.out⟩ (by show s.ws.length ≤ _; omega) n)
        clear hQ ht
        go_wp2_with fail
        refine HG.out.mono ?_
        rintro e w3 ⟨rfl, ⟨F3, h3, g3⟩, f3⟩
        go_wp2_with fail
        go_ret
        exact ⟨by rw [HE.out]; rfl, ⟨F3, by rw [HE.out]; exact h3, HGR.out.trans g3 HFR.out.size⟩, HFR.out.trans f3 (fun j hj => HGR.out j hj)⟩
theorem backout_nil (n : Int) (w : World) : Calls Try.prog 66 #[.pointer none, .int .i64 n] w fun e w' => e = .returned (.int .i64 6) ∧ w = w' := by
  go_enter Try.func66, Try.ntmps66
  go_wp2_with fail
  refine (decided_nil _ _).mono ?_
  rintro e w1 ⟨rfl, rfl⟩
  go_wp2_with fail
  go_ret
  exact ⟨rfl, rfl⟩
theorem load_nil (v : Value) (n : Int) (w : World) : Calls Try.prog 50 #[.pointer none, v, .int .i64 n] w fun e w' => e = .returned (.int .i64 6) ∧ w = w' := by
  go_enter Try.func50, Try.ntmps50
  go_wp2_with fail
  go_ret
  exact ⟨rfl, rfl⟩
end Go.Proofs.Ytdejbinmnoabeaa.Q
