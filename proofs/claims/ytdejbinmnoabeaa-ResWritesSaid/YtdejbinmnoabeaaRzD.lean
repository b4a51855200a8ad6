/- Walks of the resources' mark and Prepare. Conditions: the resources read as RX or RAt says. -/
import Derived.Test.YtdejbinmnoabeaaRzC
import Derived.Lib.AppendZeros
namespace Go.Proofs.Ytdejbinmnoabeaa
open Go.RowKit Go.Mine Go.Proofs.YtdejbinmnoabeaaW.PrintWords
open Go.ChangeMaps (setBlock)
set_option linter.unusedVariables false
set_option linter.unusedSimpArgs false
theorem mget_put {L : List (Int × Bool × Nat)} {c : Nat} (h : Ok L c) (n m : Int) (v : Bool) (d : Nat) : (mget m (mput n v d L)).getD false = if m = n then v else (mget m L).getD false := by
  rw [kv_get, kv_put, kv_get]
  by_cases q : m = n
  · subst q
    rw [aget_put_self m v (kv_keys h), if_pos rfl]
    rfl
  · rw [aget_put_other v (kv_keys h) q, if_neg q]
theorem aget_adel {α β : Type} [DecidableEq α] (m n : α) (A : List (α × β)) : aget m (adel n A) = if m = n then none else aget m A := by
  by_cases q : m = n
  · subst q
    rw [if_pos rfl, aget_none]
    intro e he
    have := List.mem_filter.1 he
    simpa using this.2
  · rw [if_neg q]
    unfold aget adel
    rw [List.find?_filter]
    congr 2
    funext e
    by_cases h : e.1 = m
    · simp [h, q]
    · simp [h]
theorem mget_del {L : List (Int × Bool × Nat)} (n m : Int) : (mget m (mdel n L)).getD false = ((mget m L).getD false && !(m == n)) := by
  rw [kv_get, kv_del, kv_get, aget_adel]
  by_cases q : m = n
  · subst q; simp
  · simp [q]
def MPost (F : Nat → Prop) (w : World) (b : Nat) (k : KS) (q : QS) (f0 f1 : Int → Bool) (r : Value) (e : Ending) (w' : World) : Prop :=
  e = .returned r ∧ (∃ F', RX F' w' b k q f0 f1 ∧ K.Grew F F' w ∧ ∀ i, F' i → F i ∨ w.heap.size ≤ i) ∧ Fr F w w'
set_option maxRecDepth 100000 in
set_option maxHeartbeats 2000000 in
theorem mark0_any {F : Nat → Prop} {w : World} {b : Nat} {k : KS} {q : QS} {f0 f1 : Int → Bool} (h : RX F w b k q f0 f1) (n : Int) (A : Option Addr) (l : List Ch) (N c : Nat) (hN : l.length = N) :
    Calls Try.prog 47 #[.pointer (some ⟨b, 0, none⟩), .int .i64 0, .int .i64 n, .slice A N c] w (MPost F w b k q (fun m => f0 m || (m == n && !l.isEmpty)) (f1) (.tuple #[])) := by
  by_cases hl : N = 0
  · have hl0 : l = [] := List.eq_nil_of_length_eq_zero (hN.trans hl)
    have H := hid h
    subst hl
    subst hl0
    clear h
    go_enter Try.func47, Try.ntmps47
    go_wp2_with fail
    go_end0
    exact ⟨rfl, ⟨F, H.out.marks (fun m => by simp) (fun m => by simp), K.Grew.refl _ _, fun i hi => .inl hi⟩, Fr.refl _ _⟩
  · have hne : l.isEmpty = false := by
      cases l with
      | nil => exact absurd hN.symm hl
      | cons _ _ => rfl
    have hN' : ((N : Int) == 0) = false := by simpa using hl
    obtain ⟨FK, FQ, I, L, mo, lo, J, iv, qv, m0, m1, L0, L1, h, h0, h1⟩ := h
    have HE : Hid (∀ m, (if m = n then true else (mget m L0).getD false) = (f0 m || (m == n && !l.isEmpty))) := hid (fun m => by
      rw [h0, hne]
      by_cases q : m = n
      · subst q; simp
      · simp [q])
    have hmn := fun w' mo => run_eql_map_nil (P := Try.prog) w' 88 3 4 mo Try.underlying88
    have c0 : w.cell? ⟨b, 37, none⟩ = some (.map m0) := by rw [cell_of_row w b 37 _ _ _ h.kr.blk]; exact sc37 h.kr.lv h.kr.lth
    have z0 : w.frozen? ⟨b, 37, none⟩ = false := by simp [World.frozen?, h.kr.blk]
    have hb0 : b < w.heap.size := h.fb _ (h.fk _ h.kr.b)
    have hFb := h.fk _ h.kr.b
    have hbm : ∀ c, m0 = some c → b ≠ c := fun c hc e => (h.z0 c hc).2.1 (e ▸ h.kr.b)
    have H := hid h
    have H0 := hid h0
    have H1 := hid h1
    clear h h0 h1 hne
    cases m0 with
    | none =>
      have hL : L0 = [] := H.out.a0
      subst hL
      have hmn' := fun w' => hmn w' none
      clear hmn
      have hmm := @run_makeMap Try.prog
      go_enter Try.func47, Try.ntmps47
      have hc3 : (w.alloc (.map #[] 0)).cell? ⟨b, 37, none⟩ = some (.map none) := by rw [World.cell?_alloc_lt _ _ _ (by show b < _; omega)]; exact c0
      have hf3 : (w.alloc (.map #[] 0)).frozen? ⟨b, 37, none⟩ = false := by rw [World.frozen?_alloc_old _ _ _ (by show b ≠ _; omega)]; exact z0
      have hne : b ≠ w.heap.size := by omega
      have a1 := K.setCell_heap (off := 37) H.out.kr.blk (.map (some w.heap.size))
      rw [set37 H.out.kr.lv H.out.kr.lth] at a1
      have hsz : (w.setCell ⟨b, 37, none⟩ (.map (some w.heap.size))).heap.size = w.heap.size := by simp [World.setCell]
      have a2 : ((w.setCell ⟨b, 37, none⟩ (.map (some w.heap.size))).alloc (.map #[] 0)).heap[b]? = _ := (Below.heap_alloc _ _ _ (by omega)).trans a1
      have m1' : ((w.setCell ⟨b, 37, none⟩ (.map (some w.heap.size))).alloc (.map #[] 0)).heap[w.heap.size]? = some (.map #[] 0) := by
        have := (MapKept.heap_alloc (w.setCell ⟨b, 37, none⟩ (.map (some w.heap.size))) (.map #[] 0)).1
        rw [hsz] at this
        exact this
      have m2 : MapAt (Value.int .i64) Value.bool ((w.setCell ⟨b, 37, none⟩ (.map (some w.heap.size))).alloc (.map #[] 0)) w.heap.size [] 0 := ⟨m1', ⟨by simp, by simp, by simp⟩⟩
      have fA : Fr (fun i => i = b) w ((w.setCell ⟨b, 37, none⟩ (.map (some w.heap.size))).alloc (.map #[] 0)) := (Fr.setCell (S := fun i => i = b) (p := ⟨b, 37, none⟩) (Fr.refl _ w) (.inl rfl) _).alloc _
      have c1 : ((w.setCell ⟨b, 37, none⟩ (.map (some w.heap.size))).alloc (.map #[] 0)).cell? ⟨b, 37, none⟩ = some (.map (some w.heap.size)) := by rw [cell_of_row _ b 37 _ _ _ a2]; exact sc37 H.out.kr.lv H.out.kr.lth
      obtain ⟨w5, c5, hu, hm5, f5, s5⟩ := run_update_at Try.underlying88 K.key3 m2 n true
      have hb5 := f5.at_ a2 hne
      have hfr := (fA.trans f5 (fun i hi => .inr (by omega)))
      have hlt : w.heap.size < w5.heap.size := by rw [s5]; simp
      have HM := hid (H.out.map0 (m0' := some w.heap.size) (L0' := mput n true 0 []) (hfr.mono (fun i hi => .inl hi)) hb5 ⟨c5, hm5⟩ (.inr (fun c hc => by cases hc; exact ⟨Nat.le_refl _, hlt⟩)))
      have HFR := hid hfr
      clear hb5 hm5 m2 m1' a2 a1 s5 hsz f5 fA hfr hlt
      go_wp2
      go_end0
      have hok : Ok ([] : List (Int × Bool × Nat)) 0 := Ok.nil 0
      refine ⟨rfl, ⟨_, ⟨FK, FQ, I, L, mo, lo, J, iv, qv, _, m1, _, _, HM.out, fun m => (mget_put hok n m true _).trans (HE.out m), H1.out⟩, fun i hi => hi.imp id (fun q => by cases q; exact Nat.le_refl _), fun i hi => hi.imp id (fun q => by cases q; exact Nat.le_refl _)⟩, HFR.out.mono (fun i hi => by rw [hi]; exact hFb)⟩
    | some bm =>
      obtain ⟨cc, hm⟩ := H.out.a0
      have hmn' := fun w' => hmn w' (some bm)
      obtain ⟨w5, c5, hu, hm5, f5, s5⟩ := run_update_at Try.underlying88 K.key3 hm n true
      have hb5 := f5.at_ H.out.kr.blk (hbm bm rfl)
      have HM := hid (H.out.map0 (f5.mono (fun i hi => .inr (by rw [hi]))) hb5 ⟨c5, hm5⟩ (.inl rfl))
      have HF5 := hid f5
      have hFm := (H.out.z0 bm rfl).1
      have HOK := hid hm.ok
      clear hmn hb5 hm5 s5 f5 hm
      go_enter Try.func47, Try.ntmps47
      go_wp2
      go_end0
      have hok := HOK.out
      refine ⟨rfl, ⟨_, ⟨FK, FQ, I, L, mo, lo, J, iv, qv, _, m1, _, _, HM.out, fun m => (mget_put hok n m true _).trans (HE.out m), H1.out⟩, fun i hi => hi.elim .inl (fun q => by cases q; exact .inl hFm), fun i hi => hi.elim .inl (fun q => by cases q; exact .inl hFm)⟩, HF5.out.mono (fun i hi => by rw [hi]; exact hFm)⟩
set_option maxRecDepth 100000 in
set_option maxHeartbeats 2000000 in
theorem mark1_any {F : Nat → Prop} {w : World} {b : Nat} {k : KS} {q : QS} {f0 f1 : Int → Bool} (h : RX F w b k q f0 f1) (n : Int) (A : Option Addr) (l : List Ch) (N c : Nat) (hN : l.length = N) :
    Calls Try.prog 47 #[.pointer (some ⟨b, 0, none⟩), .int .i64 1, .int .i64 n, .slice A N c] w (MPost F w b k q (f0) (fun m => f1 m || (m == n && !l.isEmpty)) (.tuple #[])) := by
  by_cases hl : N = 0
  · have hl0 : l = [] := List.eq_nil_of_length_eq_zero (hN.trans hl)
    have H := hid h
    subst hl
    subst hl0
    clear h
    go_enter Try.func47, Try.ntmps47
    go_wp2_with fail
    go_end0
    exact ⟨rfl, ⟨F, H.out.marks (fun m => by simp) (fun m => by simp), K.Grew.refl _ _, fun i hi => .inl hi⟩, Fr.refl _ _⟩
  · have hne : l.isEmpty = false := by
      cases l with
      | nil => exact absurd hN.symm hl
      | cons _ _ => rfl
    have hN' : ((N : Int) == 0) = false := by simpa using hl
    obtain ⟨FK, FQ, I, L, mo, lo, J, iv, qv, m0, m1, L0, L1, h, h0, h1⟩ := h
    have HE : Hid (∀ m, (if m = n then true else (mget m L1).getD false) = (f1 m || (m == n && !l.isEmpty))) := hid (fun m => by
      rw [h1, hne]
      by_cases q : m = n
      · subst q; simp
      · simp [q])
    have hmn := fun w' mo => run_eql_map_nil (P := Try.prog) w' 88 3 4 mo Try.underlying88
    have c0 : w.cell? ⟨b, 38, none⟩ = some (.map m1) := by rw [cell_of_row w b 38 _ _ _ h.kr.blk]; exact sc38 h.kr.lv h.kr.lth
    have z0 : w.frozen? ⟨b, 38, none⟩ = false := by simp [World.frozen?, h.kr.blk]
    have hb0 : b < w.heap.size := h.fb _ (h.fk _ h.kr.b)
    have hFb := h.fk _ h.kr.b
    have hbm : ∀ c, m1 = some c → b ≠ c := fun c hc e => (h.z1 c hc).2.1 (e ▸ h.kr.b)
    have H := hid h
    have H0 := hid h0
    have H1 := hid h1
    clear h h0 h1 hne
    cases m1 with
    | none =>
      have hL : L1 = [] := H.out.a1
      subst hL
      have hmn' := fun w' => hmn w' none
      clear hmn
      have hmm := @run_makeMap Try.prog
      go_enter Try.func47, Try.ntmps47
      have hc3 : (w.alloc (.map #[] 0)).cell? ⟨b, 38, none⟩ = some (.map none) := by rw [World.cell?_alloc_lt _ _ _ (by show b < _; omega)]; exact c0
      have hf3 : (w.alloc (.map #[] 0)).frozen? ⟨b, 38, none⟩ = false := by rw [World.frozen?_alloc_old _ _ _ (by show b ≠ _; omega)]; exact z0
      have hne : b ≠ w.heap.size := by omega
      have a1 := K.setCell_heap (off := 38) H.out.kr.blk (.map (some w.heap.size))
      rw [set38 H.out.kr.lv H.out.kr.lth] at a1
      have hsz : (w.setCell ⟨b, 38, none⟩ (.map (some w.heap.size))).heap.size = w.heap.size := by simp [World.setCell]
      have a2 : ((w.setCell ⟨b, 38, none⟩ (.map (some w.heap.size))).alloc (.map #[] 0)).heap[b]? = _ := (Below.heap_alloc _ _ _ (by omega)).trans a1
      have m1' : ((w.setCell ⟨b, 38, none⟩ (.map (some w.heap.size))).alloc (.map #[] 0)).heap[w.heap.size]? = some (.map #[] 0) := by
        have := (MapKept.heap_alloc (w.setCell ⟨b, 38, none⟩ (.map (some w.heap.size))) (.map #[] 0)).1
        rw [hsz] at this
        exact this
      have m2 : MapAt (Value.int .i64) Value.bool ((w.setCell ⟨b, 38, none⟩ (.map (some w.heap.size))).alloc (.map #[] 0)) w.heap.size [] 0 := ⟨m1', ⟨by simp, by simp, by simp⟩⟩
      have fA : Fr (fun i => i = b) w ((w.setCell ⟨b, 38, none⟩ (.map (some w.heap.size))).alloc (.map #[] 0)) := (Fr.setCell (S := fun i => i = b) (p := ⟨b, 38, none⟩) (Fr.refl _ w) (.inl rfl) _).alloc _
      have c1 : ((w.setCell ⟨b, 38, none⟩ (.map (some w.heap.size))).alloc (.map #[] 0)).cell? ⟨b, 38, none⟩ = some (.map (some w.heap.size)) := by rw [cell_of_row _ b 38 _ _ _ a2]; exact sc38 H.out.kr.lv H.out.kr.lth
      obtain ⟨w5, c5, hu, hm5, f5, s5⟩ := run_update_at Try.underlying88 K.key3 m2 n true
      have hb5 := f5.at_ a2 hne
      have hfr := (fA.trans f5 (fun i hi => .inr (by omega)))
      have hlt : w.heap.size < w5.heap.size := by rw [s5]; simp
      have HM := hid (H.out.map1 (m1' := some w.heap.size) (L1' := mput n true 0 []) (hfr.mono (fun i hi => .inl hi)) hb5 ⟨c5, hm5⟩ (.inr (fun c hc => by cases hc; exact ⟨Nat.le_refl _, hlt⟩)))
      have HFR := hid hfr
      clear hb5 hm5 m2 m1' a2 a1 s5 hsz f5 fA hfr hlt
      go_wp2
      go_end0
      have hok : Ok ([] : List (Int × Bool × Nat)) 0 := Ok.nil 0
      refine ⟨rfl, ⟨_, ⟨FK, FQ, I, L, mo, lo, J, iv, qv, m0, _, _, _, HM.out, H0.out, fun m => (mget_put hok n m true _).trans (HE.out m)⟩, fun i hi => hi.imp id (fun q => by cases q; exact Nat.le_refl _), fun i hi => hi.imp id (fun q => by cases q; exact Nat.le_refl _)⟩, HFR.out.mono (fun i hi => by rw [hi]; exact hFb)⟩
    | some bm =>
      obtain ⟨cc, hm⟩ := H.out.a1
      have hmn' := fun w' => hmn w' (some bm)
      obtain ⟨w5, c5, hu, hm5, f5, s5⟩ := run_update_at Try.underlying88 K.key3 hm n true
      have hb5 := f5.at_ H.out.kr.blk (hbm bm rfl)
      have HM := hid (H.out.map1 (f5.mono (fun i hi => .inr (by rw [hi]))) hb5 ⟨c5, hm5⟩ (.inl rfl))
      have HF5 := hid f5
      have hFm := (H.out.z1 bm rfl).1
      have HOK := hid hm.ok
      clear hmn hb5 hm5 s5 f5 hm
      go_enter Try.func47, Try.ntmps47
      go_wp2
      go_end0
      have hok := HOK.out
      refine ⟨rfl, ⟨_, ⟨FK, FQ, I, L, mo, lo, J, iv, qv, m0, _, _, _, HM.out, H0.out, fun m => (mget_put hok n m true _).trans (HE.out m)⟩, fun i hi => hi.elim .inl (fun q => by cases q; exact .inl hFm), fun i hi => hi.elim .inl (fun q => by cases q; exact .inl hFm)⟩, HF5.out.mono (fun i hi => by rw [hi]; exact hFm)⟩
theorem row_fr {F : Nat → Prop} {w w' : World} {A : Option Addr} {l : List Ch} (h : ChAt w w.heap.size A l) (hf : Fr F w w') (hA : ∀ k off, A = some ⟨k, off, none⟩ → ¬ F k) : ChAt w' w'.heap.size A l :=
  (Q.RowAt.fr h hf (fun _ b off e => hA b off e)).up hf.size
def RPrep (F : Nat → Prop) (w : World) (b : Nat) (R : (List Ch × Int) × RM) (e : Ending) (w' : World) : Prop :=
  ∃ A c, e = .returned (.tuple #[.slice A R.1.1.length c, .int .i64 R.1.2]) ∧ (∃ F', RAt F' w' b R.2 ∧ K.Grew F F' w ∧ ∀ k off, A = some ⟨k, off, none⟩ → w.heap.size ≤ k ∧ ¬ F' k) ∧ ChAt w' w'.heap.size A R.1.1 ∧ R.1.1.length ≤ c ∧ Fr F w w'
theorem kprep_len {s : KS} (h : s.Ok) (n : Int) : (s.prepare n).1.1.length ≤ 16 := by
  have hl := (h.listOf n).len
  unfold KS.prepare
  split
  · simp
  · unfold KS.listOf at hl
    cases hg : aget n s.ws with
    | none => simp
    | some v =>
      rw [hg] at hl
      simp only
      split
      · simp
      · split
        · simp
        · exact hl
theorem qlist_len {s : QS} (h : s.Ok) (n : Int) : (listOfW n s.ws).length ≤ 32 := by
  unfold listOfW
  cases ha : aget n s.ws with
  | none => simp
  | some v =>
    have hm := aget_mem ha
    have h1 := putsW_mem hm
    have h2 := h.takes_le hm
    have h3 := h.sz
    have h4 := len_split (h.ch _ hm)
    show v.l.length ≤ 32
    have h5 : v.l.length = putsL v.l + takesL v.l := h4
    have h6 : takesL v.l ≤ s.its.length := h2
    have h7 : putsL v.l ≤ putsW s.ws := h1
    omega
theorem qprep_len {s : QS} (h : s.Ok) (n : Int) : (s.prepare n).1.1.length ≤ 32 := by
  have hl := qlist_len h n
  unfold QS.prepare
  split
  · simp
  · unfold listOfW at hl
    cases hg : aget n s.ws with
    | none => simp
    | some v => rw [hg] at hl; exact hl
theorem own_addr {A : Option Addr} {n c k off : Nat} (h : A = some ⟨k, off, none⟩) : (Value.slice A n c).ownBlock = some k := by subst h; rfl
set_option maxRecDepth 100000 in
set_option maxHeartbeats 4000000 in
theorem prepare_any {F : Nat → Prop} {w : World} {b : Nat} {s : RM} (h : RAt F w b s) (n : Int) :
    Calls Try.prog 23 #[.pointer (some ⟨b, 0, none⟩), .int .i64 n] w (RPrep F w b (s.prepare n)) := by
  have HF := hid (fit_any h n)
  have H := hid h
  clear h
  rcases s.fit_cases n with ⟨hn, he⟩ | ⟨hn, he, hp⟩ | ⟨hn, he, hp0, hp1⟩
  · have HM := hid (show s.prepare n = (([], 1), s) from by unfold RM.prepare; rw [if_pos (by rw [he]; decide), he])
    rw [he] at HF
    go_enter Try.func23, Try.ntmps23
    go_wp2_with fail
    refine HF.out.mono ?_
    rintro e w1 ⟨rfl, rfl⟩
    go_wp2_with fail
    go_ret2
    rw [HM.out]
    exact ⟨none, 0, rfl, ⟨F, H.out, K.Grew.refl _ _, fun k off e => by cases e⟩, fun i x hx => by simp at hx, Nat.le_refl _, Fr.refl _ _⟩
  · have HM := hid (show s.prepare n = (([], 7), s) from by unfold RM.prepare; rw [if_pos (by rw [he]; decide), he])
    rw [he] at HF
    go_enter Try.func23, Try.ntmps23
    go_wp2_with fail
    refine HF.out.mono ?_
    rintro e w1 ⟨rfl, rfl⟩
    go_wp2_with fail
    go_ret2
    rw [HM.out]
    exact ⟨none, 0, rfl, ⟨F, H.out, K.Grew.refl _ _, fun k off e => by cases e⟩, fun i x hx => by simp at hx, Nat.le_refl _, Fr.refl _ _⟩
  · have HM := hid (show s.prepare n = _ from by unfold RM.prepare; rw [if_neg (by rw [he]; simp)])
    rw [he] at HF
    have hkl := kprep_len H.out.kok n
    have hql := qprep_len H.out.qok n
    have HP0 := hid (fun m => prepd_kprep (m := m) H.out.kok hn hp0)
    have HP1 := hid (fun m => prepd_qprep (m := m) H.out.qok hn hp1)
    have hqok := H.out.qok
    have HQOK := hid (hqok.prepare n)
    have HQBD := hid hqok.bd
    obtain ⟨FK, Pz, hsub, hk, hst⟩ := H.out.kv
    have HC := hid (K.prepare_any hk n)
    have HST := hid hst
    have HSUB := hid hsub
    clear he hp0 hp1 hk hst hqok hsub
    rw [HM.out]
    go_enter Try.func23, Try.ntmps23
    go_wp2_with fail
    refine HF.out.mono ?_
    rintro e w1 ⟨rfl, rfl⟩
    go_wp2_with fail
    refine HC.out.mono ?_
    rintro e w1 ⟨v1, rfl, ⟨FK', hk', hg1, ho1⟩, hr1, hf1⟩
    have hx1 := HST.out w1 FK' _ hk' hg1 hf1
    have hF1 : ∀ i, F i → i < w.heap.size := H.out.fb
    obtain ⟨A1, c1, rfl, hc1, hat1⟩ := hr1.at_
    have hb1 : ∀ k off, A1 = some ⟨k, off, none⟩ → w.heap.size ≤ k ∧ k < w1.heap.size ∧ ¬ (F k ∨ FK' k) := fun k off e => by
      have h1 := ho1 k (own_addr e)
      have h2 := hr1.lt k (own_addr e)
      exact ⟨h1.1, h2, fun q => q.elim (fun q => by have := hF1 k q; omega) h1.2⟩
    obtain ⟨FQ, Z, hsq, hq, hqt⟩ := hx1.qu
    have HCQ := hid (Q.prepare_any hq HQBD.out n)
    have HQT := hid hqt
    have HSQ := hid hsq
    have HX1 := hid hx1
    have HG1 := hid hg1
    have HF1 := hid hf1
    have HAT1 := hid hat1
    have HB1 := hid hb1
    generalize hla : (s.k.prepare n).1.1 = la at *
    clear hr1 hk' hx1 hq hqt hsq hg1 hf1 hat1 ho1 hb1 HC HST hF1
    go_wp2_with fail
    refine HCQ.out.mono ?_
    rintro e w2 ⟨v2, rfl, ⟨FQ', hq', hg2, ho2⟩, hr2, hf2⟩
    have hx2 := HQT.out w2 FQ' _ hq' HQOK.out hg2 hf2
    obtain ⟨A2, c2, rfl, hc2, hat2⟩ := hr2.at_
    have hat1' : ChAt w2 w2.heap.size A1 la := row_fr (ChAt.ofK HAT1.out) hf2 (fun k off e q => (HB1.out k off e).2.2 (HSQ.out k q))
    have hb1' : ∀ k off, A1 = some ⟨k, off, none⟩ → w.heap.size ≤ k ∧ k < w2.heap.size ∧ ¬ ((F k ∨ FK' k) ∨ FQ' k) := fun k off e => by
      have h1 := HB1.out k off e
      refine ⟨h1.1, Nat.lt_of_lt_of_le h1.2.1 hf2.size, fun q => q.elim h1.2.2 (fun q => ?_)⟩
      rcases hg2 k q with r | r
      · exact h1.2.2 (HSQ.out k r)
      · omega
    have hfx1 := HX1.out.fb
    have hb2 : ∀ k off, A2 = some ⟨k, off, none⟩ → w1.heap.size ≤ k ∧ k < w2.heap.size ∧ ¬ ((F k ∨ FK' k) ∨ FQ' k) := fun k off e => by
      have h1 := ho2 k (own_addr e)
      exact ⟨h1.1, hr2.lt (own_addr e), fun q => q.elim (fun q => by have := hfx1 k q; omega) h1.2⟩
    have HC3 := hid (mark0_any hx2 n A1 la la.length c1 rfl)
    have HX2 := hid hx2
    have HG2 := hid hg2
    have HF2 := hid hf2
    have HAT1 := hid hat1'
    have HAT2 := hid hat2
    have HB1 := hid hb1'
    have HB2 := hid hb2
    generalize hlb : (s.q.prepare n).1.1 = lb at *
    clear hr2 hq' hx2 hg2 hf2 hat2 ho2 hb1' hb2 hat1' HCQ HQT hfx1
    go_wp2_with fail
    refine HC3.out.mono ?_
    rintro e w3 ⟨rfl, ⟨F3, hx3, hg3, hs3⟩, hf3⟩
    have hat1' : ChAt w3 w3.heap.size A1 la := row_fr HAT1.out hf3 (fun k off e => (HB1.out k off e).2.2)
    have hat2' : ChAt w3 w3.heap.size A2 lb := row_fr HAT2.out hf3 (fun k off e => (HB2.out k off e).2.2)
    have hb1' : ∀ k off, A1 = some ⟨k, off, none⟩ → w.heap.size ≤ k ∧ k < w3.heap.size ∧ ¬ F3 k := fun k off e => by
      have h1 := HB1.out k off e
      refine ⟨h1.1, Nat.lt_of_lt_of_le h1.2.1 hf3.size, fun q => (hs3 k q).elim h1.2.2 (fun q => by omega)⟩
    have hb2' : ∀ k off, A2 = some ⟨k, off, none⟩ → w.heap.size ≤ k ∧ k < w3.heap.size ∧ ¬ F3 k := fun k off e => by
      have h1 := HB2.out k off e
      refine ⟨Nat.le_trans HF1.out.size h1.1, Nat.lt_of_lt_of_le h1.2.1 hf3.size, fun q => (hs3 k q).elim h1.2.2 (fun q => by omega)⟩
    have HC4 := hid (mark1_any hx3 n A2 lb lb.length c2 rfl)
    have HG3 := hid hg3
    have HF3 := hid hf3
    have HAT1 := hid hat1'
    have HAT2 := hid hat2'
    have HB1 := hid hb1'
    have HB2 := hid hb2'
    clear hx3 hg3 hs3 hf3 hat1' hat2' hb1' hb2' HC3
    go_wp2_with fail
    refine HC4.out.mono ?_
    rintro e w4 ⟨rfl, ⟨F4, hx4, hg4, hs4⟩, hf4⟩
    have hat1' : ChAt w4 w4.heap.size A1 la := row_fr HAT1.out hf4 (fun k off e => (HB1.out k off e).2.2)
    have hat2' : ChAt w4 w4.heap.size A2 lb := row_fr HAT2.out hf4 (fun k off e => (HB2.out k off e).2.2)
    have hb1' : ∀ k off, A1 = some ⟨k, off, none⟩ → w.heap.size ≤ k ∧ ¬ F4 k := fun k off e => by
      have h1 := HB1.out k off e
      exact ⟨h1.1, fun q => (hs4 k q).elim h1.2.2 (fun q => by omega)⟩
    obtain ⟨A5, c5, w5, hrun, hc5, hat5, hb5, hA5⟩ := append_full (c2 := c2) hat1' hat2' rfl rfl (Nat.le_refl _) (by omega) (by omega) 22
    have hsz4 : w.heap.size ≤ w4.heap.size := Nat.le_trans HF1.out.size (Nat.le_trans HF2.out.size (Nat.le_trans HF3.out.size hf4.size))
    have hg01 : ∀ i, (F i ∨ FK' i) → F i ∨ w.heap.size ≤ i := fun i hi => hi.elim .inl (fun q => (HG1.out i q).imp (HSUB.out i) id)
    have hf01 : Fr F w w1 := HF1.out.mono HSUB.out
    have hf02 : Fr F w w2 := hf01.trans HF2.out (fun i hi => hg01 i (HSQ.out i hi))
    have hg02 : ∀ i, ((F i ∨ FK' i) ∨ FQ' i) → F i ∨ w.heap.size ≤ i := fun i hi => hi.elim (hg01 i) (fun q => (HG2.out i q).elim (fun r => hg01 i (HSQ.out i r)) (fun r => .inr (Nat.le_trans hf01.size r)))
    have hf03 : Fr F w w3 := hf02.trans HF3.out hg02
    have hg03 : ∀ i, F3 i → F i ∨ w.heap.size ≤ i := fun i hi => (HG3.out i hi).elim (hg02 i) (fun r => .inr (Nat.le_trans hf02.size r))
    have hf04 : Fr F w w4 := hf03.trans hf4 hg03
    have hg04 : ∀ i, F4 i → F i ∨ w.heap.size ≤ i := fun i hi => (hg4 i hi).elim (hg03 i) (fun r => .inr (Nat.le_trans hf03.size r))
    have hx5 := (hx4.marks (fun m => (HP0.out m).symm) (fun m => (HP1.out m).symm)).below hb5
    have hf05 : Fr F w w5 := hf04.trans (Fr.of_below hb5 (Nat.le_refl _)) (fun _ q => q.elim)
    have hA5' : ∀ k off, A5 = some ⟨k, off, none⟩ → w.heap.size ≤ k ∧ ¬ F4 k := fun k off e => by
      rcases hA5 with r | r
      · exact hb1' k off (r ▸ e)
      · rw [r] at e
        cases e
        exact ⟨hsz4, fun q => by have := hx4.fb _ q; omega⟩
    have HRUN := hid hrun
    have HX5 := hid hx5
    have HF5 := hid hf05
    have HA5 := hid hA5'
    have HG4 := hid hg04
    have HAT5 := hid hat5
    clear hrun hx5 hf05 hA5' hg04 hg03 hf04 hf03 hf02 hg02 hf01 hg01 hat5 hb5 hA5 hx4 hg4 hs4 hf4 hat1' hat2' hb1' HC4 HAT1 HAT2 HB1 HB2 HP0 HP1 hsz4
    go_wp2_with (at_builtin; go_loud (refine Go.Lib.wpList_append_run w4 rfl (.tmp 46) (.tmp 47) 22 22 rfl _ _ rfl rfl _ w5 HRUN.out ?_))
    go_ret2
    refine ⟨A5, c5, by rw [List.length_append]; rfl, ⟨F4, HX5.out, HG4.out, HA5.out⟩, HAT5.out, by rw [List.length_append]; exact hc5, HF5.out⟩
end Go.Proofs.Ytdejbinmnoabeaa
