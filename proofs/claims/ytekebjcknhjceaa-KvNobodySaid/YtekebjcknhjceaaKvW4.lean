/- Walks of the store of keys: slices.Clone of changes, gone, Backout, Value, Busy, Prepare. Conditions: the store reads as KvAt says. -/
import Derived.Test.YtekebjcknhjceaaKvW3
import Derived.Lib.SliceRun
namespace Go.Proofs.Ytekebjcknhjceaa
open Go.RowKit Go.Mine Go.Proofs.YtekebjcknhjceaaW.PrintWords
open Go.ChangeMaps (setBlock)
set_option linter.unusedVariables false
set_option linter.unusedSimpArgs false

theorem ChAt.row {w : World} {B : Nat} {A : Option Addr} {l : List Ch} (h : ChAt w B A l) (hn : l.length ≤ 1000000000000) : kch.C w A l.length l := by
  refine ⟨rfl, by omega, fun hp => ?_⟩
  obtain ⟨b, off, e, _, _⟩ := h 0 l[0] (List.getElem?_eq_getElem hp)
  refine ⟨⟨b, off, none⟩, e, fun j p hj => ⟨encCh p, rfl, rfl, fun i u hu => ?_⟩⟩
  obtain ⟨b', off', e', _, hc⟩ := h j p hj
  rw [e] at e'
  cases e'
  have : (⟨b, off, none⟩ : Addr).add (j * kch.sz + i) = ⟨b, off + j * 3 + i, none⟩ := by
    show (⟨b, off, none⟩ : Addr).add (j * 3 + i) = _
    unfold Addr.add
    split <;> simp_all [Nat.add_assoc]
  rw [this]
  exact hc i u hu

set_option maxRecDepth 100000 in
set_option maxHeartbeats 2000000 in
theorem clone_any (A : Option Addr) (l : List Ch) (c B : Nat) (w : World) (hl : ChAt w B A l) (hn : l.length ≤ 1000000000) (hc : l.length ≤ c) :
    Calls Try.prog 34 #[.slice A l.length c] w fun e w' => ∃ v, e = .returned v ∧ ChRow w' v l ∧ (∀ k, v.ownBlock = some k → w.heap.size ≤ k) ∧ Below w.heap.size w w' := by
  cases A with
  | none =>
    have hl0 : l = [] := by
      cases l with
      | nil => rfl
      | cons x xs => obtain ⟨b, off, e, _⟩ := hl 0 x rfl; cases e
    subst hl0
    have hnil : ∀ w', (binOp .eql 32 (.slice none 0 c) (.slice none 0 0)).run Try.prog w' = .ok (.bool true) w' := fun w' => Lib.run_eql_slice_nil (P := Try.prog) w' 32 60 _ _ _ _ _ Try.underlying32
    go_enter Try.func34, Try.ntmps34
    go_wp2_with fail
    go_ret
    exact ⟨.slice none 0 0, rfl, ChRow.none_ _, fun k hk => by simp [Value.ownBlock] at hk, Below.refl _ _⟩
  | some a =>
    have hrow := hl.row (by omega)
    have HR := hid hrow
    clear hl hrow
    have hnil : ∀ w', (binOp .eql 32 (.slice (some a) l.length c) (.slice none 0 0)).run Try.prog w' = .ok (.bool false) w' := fun w' => Lib.run_eql_slice_nil (P := Try.prog) w' 32 60 _ _ _ _ _ Try.underlying32
    go_enter Try.func34, Try.ntmps34
    go_wp2_with (first
      | ((with_reducible refine gate_dst (N := 5) rfl ?_); go_loud (refine Kd.R_lit kch w.heap.size 60 rfl (N := 5) rfl (xs := ([] : List Ch)) (inner := []) (ok := fun _ => True) (okp := fun _ => True) ?hr ?hp (fun _ hk => hk) trivial (Below.refl _ _) (Nat.le_refl _) (by simp) ?_); (case hr => first | (go_simp; done) | (go_simp; rfl)); (case hp => exact (Reps.none _ _)); intro v5 w5 ho5 hb5 hg5 hnew5; have HO5 := hid ho5; have HB5 := hid hb5; clear ho5 hb5 hg5 hnew5)
      | (at_builtin; go_loud (refine Kd.R_append_rows kch (Rr := fun x cs => cs = encCh x) (w0 := w) w.heap.size rfl (.tmp 5) (.tmp 6) 32 60 _ 24 rfl Try.underlying32 info60 (by rfl) (by decide) (by decide) v5 [] l _ _ _ (fun _ => True) (fun _ => False) rfl rfl HO5.out (ReadsRow.imp_ HR.out HB5.out (fun _ _ h => h)) (fun _ _ h => h) (fun _ h => h.elim) (fun _ _ => trivial) HB5.out HB5.out.size (by simp; omega) ?_); intro v7 w7 ho7 hb7 hg7 hat7; have HO7 := hid ho7; have HB7 := hid hb7; clear ho7 hb7 hg7 hat7))
    go_ret
    refine ⟨v7, rfl, ?_, fun k hk => Kd.R_base HO7.out k hk, HB7.out⟩
    have := Kd.R_lower HO7.out (Nat.zero_le _)
    simpa using this

theorem adel_ws (n : Int) (I : List WI) : adel n (wsOf I) = wsOf (I.filter (fun x => decide (x.n ≠ n))) := by
  unfold adel wsOf
  rw [List.filter_map]
  rfl
theorem adel_kv (n : Int) (I : List WI) : adel n (I.map (fun x => (x.n, x.wb))) = (I.filter (fun x => decide (x.n ≠ n))).map (fun x => (x.n, x.wb)) := by
  unfold adel
  rw [List.filter_map]
  rfl

set_option maxRecDepth 100000 in
set_option maxHeartbeats 2000000 in
theorem gone_any {F : Nat → Prop} {w : World} {b0 : Nat} {s : KS} (h : KvAt F w b0 s) (n : Int) :
    Calls Try.prog 33 #[.pointer (some ⟨b0, 0, none⟩), .int .i64 n] w fun e w' => e = .returned (.tuple #[]) ∧ (∃ F', KvAt F' w' b0 (s.gone n) ∧ Grew F F' w) ∧ Fr F w w' := by
  have hokg := h.1.gone n
  obtain ⟨hok, I, L, mo, lo, h, hws⟩ := h
  have hd := drop_A h.lt (by have := hok.rk.len; omega) n
  have HD := hid hd
  have HW := hid hws
  have H := hid h
  have HK := hid hokg
  clear hd hws hok h hokg
  go_enter Try.func33, Try.ntmps33
  go_wp2_with fail
  refine HD.out.mono ?_
  rintro e w1 ⟨rfl, ht1, hf1⟩
  have h1 := H.out.locks' ht1 hf1
  have fr1 : Fr F w w1 := hf1.mono (fun i hi => H.out.lF i hi)
  have hc : w1.cell? ⟨b0, 32, none⟩ = some (.map mo) := by rw [cell_of_row w1 b0 32 _ _ _ h1.blk]; exact sc32 h1.lv h1.lth mo lo
  have H1 := hid h1
  have hwsg : (s.gone n).ws = wsOf (I.filter (fun x => decide (x.n ≠ n))) := by
    show adel n s.ws = _
    rw [HW.out, adel_ws]
  have HG := hid hwsg
  clear h1 ht1 hf1 HD hwsg
  cases mo with
  | none =>
    have hL : L = [] := H1.out.map
    have hI : I = [] := by
      have := H1.out.kvL
      rw [hL] at this
      exact List.map_eq_nil_iff.1 this.symm
    have hdel := fun ty => run_delete_nil (ty := ty) Try.underlying64 key3 w1 n
    clear hL
    go_wp2_with fail
    go_end0
    refine ⟨rfl, ⟨F, ⟨HK.out, I, L, none, lo, H1.out, ?_⟩, Grew.refl _ _⟩, fr1⟩
    rw [HG.out, hI]; rfl
  | some b =>
    obtain ⟨cc, hm⟩ := H1.out.map
    obtain ⟨w2, hrun, hm2, f2, s2⟩ := run_delete (P := Try.prog) (ty := 0) Try.underlying64 key3 hm n
    have hb2 := f2.at_ H1.out.blk (fun q => H1.out.mo_ne.1 (by rw [q]))
    have h2 := H1.out.works (mo' := some b) (L' := mdel n L) (I' := I.filter (fun x => decide (x.n ≠ n))) hb2 ⟨cc, hm2⟩ (.inl rfl) (f2.mono (fun i hi => .inr (by rw [hi]))) (by rw [kv_del, H1.out.kvL, adel_kv]) (fun x hx => (List.mem_filter.1 hx).1) (H1.out.apart.filter _)
    have H2 := hid h2
    have fr2 : Fr F w w2 := fr1.trans f2 (fun i hi => .inl (by rw [hi]; exact H.out.mF b rfl))
    clear h2 hb2 hm2 hm s2 f2
    go_wp2_with fail
    go_end0
    exact ⟨rfl, ⟨more F w1 w2, ⟨HK.out, _, _, _, _, H2.out, HG.out⟩, fun i hi => (grew_more F w1 w2 i hi).imp id (fun q => Nat.le_trans fr1.size q)⟩, fr2⟩

def SPost (F : Nat → Prop) (w : World) (b0 : Nat) (r : Int) (s' : KS) (e : Ending) (w' : World) : Prop :=
  e = .returned (.int .i64 r) ∧ (∃ F', KvAt F' w' b0 s' ∧ Grew F F' w) ∧ Fr F w w'

set_option maxHeartbeats 1000000 in
theorem backout_any {F : Nat → Prop} {w : World} {b0 : Nat} {s : KS} (h : KvAt F w b0 s) (n : Int) :
    Calls Try.prog 26 #[.pointer (some ⟨b0, 0, none⟩), .int .i64 n] w (SPost F w b0 (s.backout n).1 (s.backout n).2) := by
  have hg := gone_any h n
  have H := hid h
  have HG := hid hg
  clear hg
  go_enter Try.func26, Try.ntmps26
  go_wp2_with fail
  refine (fit_any _ _ _).mono ?_
  rintro e w1 ⟨rfl, rfl⟩
  by_cases hn : n < 1
  · have e1 : s.backout n = (1, s) := by simp [KS.backout, hn]
    simp only [reduceCtorEq, if_false, hn, if_true]
    go_wp2_with fail
    go_ret
    exact ⟨by rw [e1]; rfl, ⟨F, by rw [e1]; exact H.out, Grew.refl _ _⟩, Fr.refl _ _⟩
  · have e1 : s.backout n = (0, s.gone n) := by simp [KS.backout, hn]
    simp only [reduceCtorEq, if_false, hn]
    go_wp2_with fail
    refine HG.out.mono ?_
    rintro e w2 ⟨rfl, h2, f2⟩
    go_wp2_with fail
    go_ret
    exact ⟨by rw [e1]; rfl, by rw [e1]; exact h2, f2⟩

set_option maxRecDepth 100000 in
set_option maxHeartbeats 1000000 in
theorem value_any {F : Nat → Prop} {w : World} {b0 : Nat} {s : KS} (h : KvAt F w b0 s) (key : Int) :
    Calls Try.prog 17 #[.pointer (some ⟨b0, 0, none⟩), .int .i64 key] w fun e w' => e = .returned (.tuple #[.int .u64 (s.value key).1, .bool (s.value key).2]) ∧ ∃ m, w' = w.drewN m := by
  obtain ⟨hok, I, L, mo, lo, h, hws⟩ := h
  by_cases h1 : key < 0
  · have e1 : s.value key = (0, false) := by simp [KS.value, h1]
    rw [e1]
    clear h
    go_enter Try.func17, Try.ntmps17
    go_wp2_with fail
    go_ret2
    exact ⟨rfl, 0, rfl⟩
  · by_cases h2 : 16 ≤ key
    · have e1 : s.value key = (0, false) := by simp [KS.value, h2]
      rw [e1]
      clear h
      go_enter Try.func17, Try.ntmps17
      go_wp2_with fail
      go_ret2
      exact ⟨rfl, 0, rfl⟩
    · obtain ⟨k, rfl⟩ := Int.eq_ofNat_of_zero_le (show 0 ≤ key by omega)
      have e1 : s.value k = (s.vs.getD k 0, s.th.getD k false) := by
        unfold KS.value
        rw [if_neg (by omega)]
        rfl
      have hc := h.bcells k (by omega)
      obtain ⟨hca, hcb⟩ := hc
      have hki : (k : Int) < 16 := by omega
      rw [e1]
      generalize s.vs.getD k 0 = a at *
      generalize s.th.getD k false = b at *
      clear h e1 hws hok
      go_enter Try.func17, Try.ntmps17
      go_wp2_with fail
      go_quiet (fail)
      go_wp2_with fail
      go_ret2
      exact ⟨rfl, _, rfl⟩
theorem value_nil (key : Int) (w : World) : Calls Try.prog 17 #[.pointer none, .int .i64 key] w fun e w' => e = .returned (.tuple #[.int .u64 0, .bool false]) ∧ w = w' := by
  go_enter Try.func17, Try.ntmps17
  go_wp2_with fail
  go_ret2
  exact ⟨rfl, rfl⟩

set_option maxRecDepth 100000 in
set_option maxHeartbeats 1000000 in
theorem busy_any {F : Nat → Prop} {w : World} {b0 : Nat} {s : KS} (h : KvAt F w b0 s) (n : Int) :
    Calls Try.prog 22 #[.pointer (some ⟨b0, 0, none⟩), .int .i64 n] w fun e w' => e = .returned (.bool (s.busy n)) ∧ w = w' := by
  obtain ⟨hok, I, L, mo, lo, h, hws⟩ := h
  have hl := run_lookupO Try.underlying64 key3 h.map (zero77 w) n false
  simp only [Bool.false_eq_true, if_false] at hl
  rw [mget_ws h n] at hl
  have hg := aget_ws n I
  rw [← hws] at hg
  have hc : w.cell? ⟨b0, 32, none⟩ = some (.map mo) := by rw [cell_of_row w b0 32 _ _ _ h.blk]; exact sc32 h.lv h.lth mo lo
  clear h hws hok
  cases hf : I.find? (fun x => decide (x.n = n)) with
  | none =>
    rw [hf] at hl hg
    simp only [Option.map_none, Option.getD_none] at hl hg
    have e1 : s.busy n = false := by simp [KS.busy, hg]
    rw [e1]
    clear hg hf
    go_enter Try.func22, Try.ntmps22
    go_wp2_with fail
    go_ret
    exact ⟨rfl, rfl⟩
  | some x =>
    rw [hf] at hl hg
    simp only [Option.map_some, Option.getD_some] at hl hg
    have e1 : s.busy n = true := by simp [KS.busy, hg]
    rw [e1]
    clear hg hf
    go_enter Try.func22, Try.ntmps22
    go_wp2_with fail
    go_ret
    exact ⟨rfl, rfl⟩
end Go.Proofs.Ytekebjcknhjceaa
