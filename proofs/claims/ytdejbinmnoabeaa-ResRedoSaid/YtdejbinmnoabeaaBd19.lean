/- Texts of this seat, put together: RzT1, RzJ, RzL. -/
import Derived.Test.YtdejbinmnoabeaaBd7
import Derived.Test.YtdejbinmnoabeaaBd18
import Derived.Laws.Rows
import Derived.Deep.DeepCutAuto
import Derived.Deep.CutBlock
import Derived.Test.YtdejbinmnoabeaaBd12
namespace Go.Mine
set_option linter.unusedVariables false
set_option linter.unusedSimpArgs false
theorem QS.Ok.list_len {s : QS} (h : s.Ok) (n : Int) : (listOfW n s.ws).length ≤ 32 ∧ putsL (listOfW n s.ws) ≤ 16 ∧ ∀ c ∈ listOfW n s.ws, (c.kind = 3 ∧ c.key = 0) ∨ c.kind = 4 := by
  unfold listOfW
  cases hg : aget n s.ws with
  | none => simp [putsL]
  | some v =>
    have hm := aget_mem hg
    have h1 := h.sz
    have h5 := h.takes_le hm
    have h6 := len_split (h.ch _ hm)
    have h7 := putsW_mem hm
    simp only [Option.map_some, Option.getD_some]
    simp only at h5 h6 h7
    exact ⟨by omega, by omega, h.ch _ hm⟩
def zeroI (x : It) : It := ⟨x.num, x.val, 0⟩
theorem front_of {its : List It} : ∀ (l : List Ch) (f : Nat), (∀ c ∈ l, (c.kind = 3 ∧ c.key = 0) ∨ c.kind = 4) → takesOf l = ((its.drop f).take (takesL l)).map chOf → (∀ x ∈ its, x.by_ = 0) → frontOk its l f = true
  | [], f, _, _, _ => rfl
  | c :: l, f, h1, h2, h3 => by
    rw [frontOk]
    rcases h1 c (by simp) with ⟨k3, k0⟩ | k4
    · rw [if_pos (by rw [k3, k0]; rfl)]
      have hn : (c.kind == 4) = false := by rw [k3]; rfl
      have e1 : takesL (c :: l) = takesL l := by simp [takesL, hn]
      have e2 : takesOf (c :: l) = takesOf l := by simp [takesOf, List.filter_cons, hn]
      rw [e1, e2] at h2
      exact front_of l f (fun x hx => h1 x (List.mem_cons_of_mem _ hx)) h2 h3
    · have hy : (c.kind == 4) = true := by rw [k4]; rfl
      have e1 : takesL (c :: l) = takesL l + 1 := by simp [takesL, hy]; omega
      have e2 : takesOf (c :: l) = c :: takesOf l := by simp [takesOf, List.filter_cons, hy]
      rw [e1, e2] at h2
      cases hd : its.drop f with
      | nil => rw [hd] at h2; simp at h2
      | cons x xs =>
        rw [hd, List.take_succ_cons, List.map_cons] at h2
        injection h2 with q1 q2
        have hf : f < its.length := by
          apply Classical.byContradiction
          intro hf
          rw [List.drop_eq_nil_of_le (by omega)] at hd
          cases hd
        have hx : its[f]? = some x := by
          have := List.getElem?_drop (xs := its) (i := f) (j := 0)
          rw [hd] at this
          simpa using this.symm
        have hxs : its.drop (f + 1) = xs := by
          have := List.drop_eq_getElem_cons hf
          rw [hd] at this
          injection this with _ q
          exact q.symm
        have hx0 : x.by_ = 0 := h3 x (List.mem_of_getElem? hx)
        have hxe : its[f]? = some ⟨c.key, c.val, 0⟩ := by
          rw [hx, q1]
          obtain ⟨a, b, d⟩ := x
          simp only at hx0
          subst hx0
          rfl
        rw [if_neg (by rw [k4]; intro q; rw [Bool.and_eq_true] at q; exact absurd q.1 (by decide)), if_pos ⟨k4, hxe⟩]
        exact front_of l (f + 1) (fun x hx => h1 x (List.mem_cons_of_mem _ hx)) (by rw [hxs]; exact q2) h3
theorem load_of {s : QS} (h : s.Ok) : QS.new.load (s.its.map (·.val)) (s.gv + 1) = (0, ⟨s.its.map zeroI, [], s.gv⟩) := by
  have h1 := h.sz
  have h2 := h.g0
  have h3 := h.g1
  unfold QS.load
  rw [if_neg (by simp [QS.new]), if_neg (by rw [List.length_map]; omega)]
  congr 1
  have e : loadI (s.its.map (·.val)) (s.gv + 1) = s.its.map zeroI := by
    apply List.ext_getElem?
    intro i
    unfold loadI
    rw [List.length_map, List.getElem?_map, List.getElem?_map]
    by_cases hi : i < s.its.length
    · rw [List.getElem?_range hi]
      have hx : s.its[i]? = some s.its[i] := List.getElem?_eq_getElem hi
      have hn := h.num i _ hx
      rw [hx]
      simp only [Option.map_some]
      congr 1
      unfold zeroI
      rw [hn]
      congr 1
      · omega
      · simp [List.getD_eq_getElem?_getD, hi]
    · rw [List.getElem?_eq_none (by simpa using hi), List.getElem?_eq_none (by omega)]
      rfl
  rw [e]
  simp [QS.new]
structure Restd (s : QS) (n : Int) (l : List Ch) : Prop where
  rest : (⟨s.its.map zeroI, [], s.gv⟩ : QS).restore n l = (0, ⟨mixI (tkI n) (s.its.map zeroI) (takesL l), addW n true l [], s.gv⟩)
  ok : (⟨mixI (tkI n) (s.its.map zeroI) (takesL l), addW n true l [], s.gv⟩ : QS).Ok
  busy : (⟨mixI (tkI n) (s.its.map zeroI) (takesL l), addW n true l [], s.gv⟩ : QS).busy n = decide (0 < l.length)
  vals : (mixI (tkI n) (s.its.map zeroI) (takesL l)).map (·.val) = s.its.map (·.val)
  com : ((⟨mixI (tkI n) (s.its.map zeroI) (takesL l), addW n true l [], s.gv⟩ : QS).commit n).2.its.map (·.val) = (keptI n s.its ++ newI l s.gv).map (·.val) ∧ ((⟨mixI (tkI n) (s.its.map zeroI) (takesL l), addW n true l [], s.gv⟩ : QS).commit n).2.gv = s.gv + putsL l
  back : ((⟨mixI (tkI n) (s.its.map zeroI) (takesL l), addW n true l [], s.gv⟩ : QS).backout n).2.its.map (·.val) = s.its.map (·.val) ∧ ((⟨mixI (tkI n) (s.its.map zeroI) (takesL l), addW n true l [], s.gv⟩ : QS).backout n).2.gv = s.gv
theorem vals_mix (f : It → It) (hf : ∀ x, (f x).val = x.val) (L : List It) (t : Nat) : (mixI f L t).map (·.val) = L.map (·.val) := by
  unfold mixI
  rw [List.map_append, List.map_map]
  have : (L.take t).map ((fun x => x.val) ∘ f) = (L.take t).map (fun x => x.val) := List.map_congr_left (fun x _ => hf x)
  rw [this, ← List.map_append, List.take_append_drop]
theorem vals_map (f : It → It) (hf : ∀ x, (f x).val = x.val) (L : List It) : (L.map f).map (·.val) = L.map (·.val) := by
  rw [List.map_map]
  exact List.map_congr_left (fun x _ => hf x)
theorem rest_of {s : QS} (h : s.Ok) {n : Int} (hn : 1 ≤ n) : Restd s n (listOfW n s.ws) := by
  have hl := h.list_len n
  have hh := h.held n (by omega)
  obtain ⟨A, B, hd, e, hA, hB, hp⟩ := h.front
  have hheld : heldI n s.its = s.its.take (takesL (listOfW n s.ws)) ∧ keptI n s.its = s.its.drop (takesL (listOfW n s.ws)) := by
    have hlen := congrArg List.length hh
    rw [List.length_map, takesOf_len] at hlen
    rw [← hlen, e, held_front hA hB (by omega), kept_front hn hA hB]
    by_cases q : hd = n
    · rw [if_pos q, if_pos q]; simp
    · rw [if_neg q, if_neg q]; simp
  have hz : ∀ x ∈ s.its.map zeroI, x.by_ = 0 := fun x hx => by
    obtain ⟨y, _, rfl⟩ := List.mem_map.1 hx
    rfl
  have htk : takesOf (listOfW n s.ws) = (((s.its.map zeroI).drop 0).take (takesL (listOfW n s.ws))).map chOf := by
    rw [← hh, hheld.1, List.drop_zero, ← List.map_take, List.map_map]
    rfl
  generalize hpl : listOfW n s.ws = l at *
  have hfo : frontOk (s.its.map zeroI) l 0 = true := front_of l 0 hl.2.2 htk hz
  have hpw : putsL l ≤ putsW s.ws := by
    rw [← hpl]
    have := putsW_adel (n := n) h.keys
    omega
  have h1 := h.sz
  have h2 := h.g0
  have h3 := h.g1
  have hr : (⟨s.its.map zeroI, [], s.gv⟩ : QS).right l = true := by
    unfold QS.right
    rw [hfo, Bool.true_and]
    unfold QS.room
    simp only [List.length_map, putsW]
    simp
    omega
  have hrest : (⟨s.its.map zeroI, [], s.gv⟩ : QS).restore n l = (0, ⟨mixI (tkI n) (s.its.map zeroI) (takesL l), addW n true l [], s.gv⟩) := by
    unfold QS.restore
    rw [if_neg (by omega), if_neg (by rw [hr]; simp), if_neg (by simp [QS.busy, aget])]
  have hok2 : (⟨s.its.map zeroI, [], s.gv⟩ : QS).Ok := by
    have := QS.Ok.load QS.Ok.new (s.its.map (·.val)) (s.gv + 1)
    rw [load_of h] at this
    exact this
  have hok3 := hok2.restore n l
  rw [hrest] at hok3
  have hlist : listOfW n (addW n true l []) = l := by rw [listOfW_addW rfl, if_pos rfl]
  refine ⟨hrest, hok3, ?_, ?_, ?_, ?_⟩
  · unfold QS.busy addW
    by_cases q : l = []
    · simp [q, aget]
    · rw [if_neg q]
      have : 0 < l.length := List.length_pos_iff.2 q
      simp [aget, this]
  · rw [vals_mix (tkI n) (fun _ => rfl), vals_map zeroI (fun _ => rfl)]
  · unfold QS.commit
    rw [if_neg (by omega)]
    simp only [hlist]
    refine ⟨?_, trivial⟩
    rw [List.map_append, List.map_append]
    congr 1
    have hk : keptI n (mixI (tkI n) (s.its.map zeroI) (takesL l)) = (s.its.map zeroI).drop (takesL l) := by
      have := kept_front (A := ((s.its.map zeroI).take (takesL l)).map (tkI n)) (B := (s.its.map zeroI).drop (takesL l)) (h := n) hn (fun x hx => by
        obtain ⟨y, _, rfl⟩ := List.mem_map.1 hx
        rfl) (fun x hx => hz x (List.mem_of_mem_drop hx))
      rw [if_pos rfl] at this
      exact this
    rw [hk, hheld.2, ← List.map_drop, vals_map zeroI (fun _ => rfl)]
  · unfold QS.backout
    rw [if_neg (by omega)]
    refine ⟨?_, rfl⟩
    show ((mixI (tkI n) (s.its.map zeroI) (takesL l)).map (freeI n)).map (·.val) = _
    rw [vals_map (freeI n) (fun x => by unfold freeI; split <;> rfl), vals_mix (tkI n) (fun _ => rfl), vals_map zeroI (fun _ => rfl)]
end Go.Mine
namespace Go.Mine
structure ROp where
  kind : Int
  work : Int
  key : Int
  val : Int
  la : Option Addr
  l : List Ch
  lc : Nat
structure RTold where
  v : Int
  t : Bool
  l : List Ch
  e : Int
def callR (s : RM) (o : ROp) : RTold × RM :=
  if o.kind = 0 then (⟨(s.get o.work o.key).1.1, (s.get o.work o.key).1.2.1, [], (s.get o.work o.key).1.2.2⟩, (s.get o.work o.key).2)
  else if o.kind = 1 then (⟨0, false, [], (s.change o.work ⟨1, o.key, o.val⟩).1⟩, (s.change o.work ⟨1, o.key, o.val⟩).2)
  else if o.kind = 2 then (⟨0, false, [], (s.change o.work ⟨2, o.key, 0⟩).1⟩, (s.change o.work ⟨2, o.key, 0⟩).2)
  else if o.kind = 3 then (⟨0, false, [], (s.push o.work o.val).1⟩, (s.push o.work o.val).2)
  else if o.kind = 4 then (⟨(s.pop o.work).1.1, false, [], (s.pop o.work).1.2⟩, (s.pop o.work).2)
  else if o.kind = 5 then (⟨0, false, (s.prepare o.work).1.1, (s.prepare o.work).1.2⟩, (s.prepare o.work).2)
  else if o.kind = 6 then (⟨0, false, [], (s.commit o.work).1⟩, (s.commit o.work).2)
  else if o.kind = 7 then (⟨0, false, [], (s.backout o.work).1⟩, (s.backout o.work).2)
  else if o.kind = 8 then (⟨0, false, [], (s.restore o.work o.l).1⟩, (s.restore o.work o.l).2)
  else (⟨0, false, [], 0⟩, s)
theorem RM.Ok.call {s : RM} (h : s.Ok) (o : ROp) : (callR s o).2.Ok := by
  unfold callR
  split
  · exact h.get _ _
  · split
    · exact h.change _ _ (.inl rfl)
    · split
      · exact h.change _ _ (.inr ⟨rfl, rfl⟩)
      · split
        · exact h.push _ _
        · split
          · exact h.pop _
          · split
            · exact h.prepare _
            · split
              · exact h.commit _
              · split
                · exact h.backout _
                · split
                  · exact h.restore _ _
                  · exact h
end Go.Mine
namespace Go.Proofs.Ytdejbinmnoabeaa
open Go.RowKit Go.Mine Go.Proofs.YtdejbinmnoabeaaW.PrintWords
set_option linter.unusedVariables false
set_option linter.unusedSimpArgs false
def RCall (F : Nat → Prop) (w : World) (b : Nat) (R : RTold × RM) (e : Ending) (w' : World) : Prop :=
  ∃ A c, e = .returned (.agg #[.int .u64 R.1.v, .bool R.1.t, .slice A R.1.l.length c, .int .i64 R.1.e]) ∧ (∃ F', RAt F' w' b R.2 ∧ K.Grew F F' w ∧ ∀ k off, A = some ⟨k, off, none⟩ → w.heap.size ≤ k ∧ ¬ F' k) ∧ ChAt w' w'.heap.size A R.1.l ∧ Fr F w w'
set_option maxRecDepth 100000 in
set_option maxHeartbeats 8000000 in
theorem call_any {F : Nat → Prop} {w : World} {b : Nat} {s : RM} (h : RAt F w b s) (o : ROp) (hl : o.kind = 8 → ChAt w w.heap.size o.la o.l ∧ (o.l ≠ [] → Q.Beside F o.la) ∧ o.l.length ≤ 900 ∧ o.l.length ≤ o.lc) :
    Calls Try.prog 14 #[.pointer (some ⟨b, 0, none⟩), .agg #[.int .i64 o.kind, .int .i64 o.work, .int .i64 o.key, .int .u64 o.val, .slice o.la o.l.length o.lc]] w (RCall F w b (callR s o)) := by
  obtain ⟨wi, hwi⟩ : ∃ wi, wi = (((w.alloc (.cells #[.int .i64 o.kind, .int .i64 o.work, .int .i64 o.key, .int .u64 o.val, .slice o.la o.l.length o.lc] 34)).alloc (.cells #[.int .u64 0, .bool false, .slice none 0 0, .int .i64 0] 37)).alloc (.cells #[.int .u64 0, .bool false, .slice none 0 0, .int .i64 0] 37)) := ⟨_, rfl⟩
  have hba : Below w.heap.size w (w.alloc (.cells #[.int .i64 o.kind, .int .i64 o.work, .int .i64 o.key, .int .u64 o.val, .slice o.la o.l.length o.lc] 34)) := (Below.refl _ _).alloc (Nat.le_refl _) _
  have hbb : Below w.heap.size w ((w.alloc (.cells #[.int .i64 o.kind, .int .i64 o.work, .int .i64 o.key, .int .u64 o.val, .slice o.la o.l.length o.lc] 34)).alloc (.cells #[.int .u64 0, .bool false, .slice none 0 0, .int .i64 0] 37)) := hba.alloc hba.size _
  have hbi : Below w.heap.size w wi := by rw [hwi]; exact hbb.alloc hbb.size _
  have sa : (w.alloc (.cells #[.int .i64 o.kind, .int .i64 o.work, .int .i64 o.key, .int .u64 o.val, .slice o.la o.l.length o.lc] 34)).heap.size = w.heap.size + 1 := by simp
  have sb : ((w.alloc (.cells #[.int .i64 o.kind, .int .i64 o.work, .int .i64 o.key, .int .u64 o.val, .slice o.la o.l.length o.lc] 34)).alloc (.cells #[.int .u64 0, .bool false, .slice none 0 0, .int .i64 0] 37)).heap.size = w.heap.size + 1 + 1 := by simp
  have hx0 : wi.heap[w.heap.size]? = some (.cells #[.int .i64 o.kind, .int .i64 o.work, .int .i64 o.key, .int .u64 o.val, .slice o.la o.l.length o.lc] 34 (0, 0)) := by
    rw [hwi]
    exact ((((Below.refl _ _).alloc (Nat.le_refl _) _ : Below (w.alloc (.cells #[.int .i64 o.kind, .int .i64 o.work, .int .i64 o.key, .int .u64 o.val, .slice o.la o.l.length o.lc] 34)).heap.size (w.alloc (.cells #[.int .i64 o.kind, .int .i64 o.work, .int .i64 o.key, .int .u64 o.val, .slice o.la o.l.length o.lc] 34)) _).alloc (by simp) _).block _ (by simp)).trans (MapKept.heap_alloc w _).1
  have hx1 : wi.heap[w.heap.size + 1]? = some (.cells #[.int .u64 0, .bool false, .slice none 0 0, .int .i64 0] 37 (0, 0)) := by
    rw [hwi, ← sa]
    exact (((Below.refl _ _).alloc (Nat.le_refl _) _ : Below ((w.alloc (.cells #[.int .i64 o.kind, .int .i64 o.work, .int .i64 o.key, .int .u64 o.val, .slice o.la o.l.length o.lc] 34)).alloc (.cells #[.int .u64 0, .bool false, .slice none 0 0, .int .i64 0] 37)).heap.size ((w.alloc (.cells #[.int .i64 o.kind, .int .i64 o.work, .int .i64 o.key, .int .u64 o.val, .slice o.la o.l.length o.lc] 34)).alloc (.cells #[.int .u64 0, .bool false, .slice none 0 0, .int .i64 0] 37)) _).block _ (by simp)).trans (MapKept.heap_alloc _ _).1
  have hx2 : wi.heap[w.heap.size + 1 + 1]? = some (.cells #[.int .u64 0, .bool false, .slice none 0 0, .int .i64 0] 37 (0, 0)) := by
    rw [hwi, ← sb]
    exact (MapKept.heap_alloc _ _).1
  have hsi : wi.heap.size = w.heap.size + 1 + 1 + 1 := by rw [hwi]; simp
  have hlo : ∀ i, F i → i < w.heap.size := h.fb
  have hai : RAt F wi b s := h.below (hbi.mono (Nat.le_refl _))
  have HAI := hid hai
  have HLO := hid hlo
  have HL := hid hl
  clear h hai hlo hl
  have HWI := hid hwi
  have HBI := hid hbi
  have HS := hid hsi
  clear hwi hbi hba hbb sa sb hsi
  go_enter Try.func14, Try.ntmps14
  go_upto_block 0 with (fail)
  rw [← HWI.out]
  have hge1 : Hid (w.heap.size ≤ w.heap.size + 1) := hid (by omega)
  have hge2 : Hid (w.heap.size ≤ w.heap.size + 1 + 1) := hid (by omega)
  have hne : Hid (w.heap.size + 1 ≠ w.heap.size + 1 + 1) := hid (by omega)
  have hlt1 : Hid (w.heap.size + 1 < wi.heap.size) := hid (by rw [HS.out]; omega)
  have hlt2 : Hid (w.heap.size + 1 + 1 < wi.heap.size) := hid (by rw [HS.out]; omega)
  clear HWI HS
  obtain ⟨b0, hb0⟩ : ∃ b0, b0 = w.heap.size := ⟨_, rfl⟩
  generalize w.heap.size + 1 + 1 = b2 at *
  generalize w.heap.size + 1 = b1 at *
  rw [← hb0] at hx0 ⊢
  clear hb0
  have k0 := cell_of_row wi b0 0 _ _ _ hx0
  have k1 := cell_of_row wi b0 1 _ _ _ hx0
  have k2 := cell_of_row wi b0 2 _ _ _ hx0
  have k3 := cell_of_row wi b0 3 _ _ _ hx0
  have k4 := cell_of_row wi b0 4 _ _ _ hx0
  have HX1 := hid hx1
  have HX2 := hid hx2
  clear hx0 hx1 hx2
  go_cut [] (fun wc => ∃ A c, wc.heap[b2]? = some (.cells #[.int .u64 (callR s o).1.v, .bool (callR s o).1.t, .slice A (callR s o).1.l.length c, .int .i64 (callR s o).1.e] 37 (0, 0)) ∧ wc.heap[b1]? = some (.cells #[.int .u64 0, .bool false, .slice none 0 0, .int .i64 0] 37 (0, 0)) ∧ (∃ F1, RAt F1 wc b (callR s o).2 ∧ K.Grew F F1 w ∧ ¬ F1 b1 ∧ ∀ k off, A = some ⟨k, off, none⟩ → w.heap.size ≤ k ∧ ¬ F1 k ∧ k ≠ b1) ∧ ChAt wc wc.heap.size A (callR s o).1.l ∧ Fr F w wc)
  case first =>
    cases q0 : (o.kind == 0)
    · cases q1 : (o.kind == 1)
      · cases q2 : (o.kind == 2)
        · cases q3 : (o.kind == 3)
          · cases q4 : (o.kind == 4)
            · cases q5 : (o.kind == 5)
              · cases q6 : (o.kind == 6)
                · cases q7 : (o.kind == 7)
                  · cases q8 : (o.kind == 8)
                    · have n0 : ¬ o.kind = 0 := by simpa using q0
                      have n1 : ¬ o.kind = 1 := by simpa using q1
                      have n2 : ¬ o.kind = 2 := by simpa using q2
                      have n3 : ¬ o.kind = 3 := by simpa using q3
                      have n4 : ¬ o.kind = 4 := by simpa using q4
                      have n5 : ¬ o.kind = 5 := by simpa using q5
                      have n6 : ¬ o.kind = 6 := by simpa using q6
                      have n7 : ¬ o.kind = 7 := by simpa using q7
                      have n8 : ¬ o.kind = 8 := by simpa using q8
                      have HR := hid (show callR s o = _ from by unfold callR; rw [if_neg n0, if_neg n1, if_neg n2, if_neg n3, if_neg n4, if_neg n5, if_neg n6, if_neg n7, if_neg n8])
                      clear n0 n1 n2 n3 n4 n5 n6 n7 n8
                      go_wp2_with fail
                      go_meet
                      case rel =>
                        rw [HR.out]
                        exact ⟨none, 0, HX2.out, HX1.out, ⟨F, HAI.out, K.Grew.refl _ _, (fun q => by have := HLO.out _ q; have := hge1.out; omega), fun k off e => by cases e⟩, fun i x hx => by simp at hx, (Fr.of_below HBI.out (Nat.le_refl _)).mono (fun _ q => q.elim)⟩
                    · have n0 : ¬ o.kind = 0 := by simpa using q0
                      have n1 : ¬ o.kind = 1 := by simpa using q1
                      have n2 : ¬ o.kind = 2 := by simpa using q2
                      have n3 : ¬ o.kind = 3 := by simpa using q3
                      have n4 : ¬ o.kind = 4 := by simpa using q4
                      have n5 : ¬ o.kind = 5 := by simpa using q5
                      have n6 : ¬ o.kind = 6 := by simpa using q6
                      have n7 : ¬ o.kind = 7 := by simpa using q7
                      have p8 : o.kind = 8 := by simpa using q8
                      have HR := hid (show callR s o = _ from by unfold callR; rw [if_neg n0, if_neg n1, if_neg n2, if_neg n3, if_neg n4, if_neg n5, if_neg n6, if_neg n7, if_pos p8])
                      have HC := hid (restore_any HAI.out o.work o.la o.l o.lc (((HL.out p8).1.below HBI.out).up HBI.out.size) (HL.out p8).2.1 (HL.out p8).2.2.1 (HL.out p8).2.2.2)
                      clear n0 n1 n2 n3 n4 n5 n6 n7 p8
                      go_wp2_with fail
                      refine HC.out.mono ?_
                      rintro e w1 ⟨rfl, ⟨F1, hx1, hg1⟩, hf1⟩
                      have y2 := hf1.at_ HX2.out (fun q => by have := HLO.out _ q; have := hge2.out; omega)
                      have y1 := hf1.at_ HX1.out (fun q => by have := HLO.out _ q; have := hge1.out; omega)
                      have g3 := cell_of_row w1 b2 3 _ _ _ y2
                      have z3 : w1.frozen? ⟨b2, 3, none⟩ = false := by simp [World.frozen?, y2]
                      have Y2 := hid y2
                      have Y1 := hid y1
                      have HX := hid hx1
                      have HG := hid hg1
                      have HF := hid hf1
                      clear y2 y1 hx1 hg1 hf1 HC
                      go_wp2_with fail
                      have e3 := K.setCell_heap (off := 3) (Y2.out) (.int .i64 (s.restore o.work o.l).1)
                      have hfs : Fr (fun i => i = b2) w1 (w1.setCell ⟨b2, 3, none⟩ (.int .i64 (s.restore o.work o.l).1)) := Fr.setCell (S := fun i => i = b2) (p := ⟨b2, 3, none⟩) (Fr.refl _ w1) (.inl rfl) (.int .i64 (s.restore o.work o.l).1)
                      go_meet
                      case rel =>
                        have hF1 : ∀ i, F1 i → i ≠ b2 := fun i hi q => by
                          rcases HG.out i hi with r | r
                          · have := HLO.out i r; have := hge2.out; omega
                          · have := hlt2.out; omega
                        have hfw : Fr F w w1 := ((Fr.of_below HBI.out (Nat.le_refl _)).mono (fun _ q => q.elim)).trans HF.out (fun i hi => .inl hi)
                        have hnb1 : ¬ F1 b1 := fun hi => by
                          rcases HG.out b1 hi with r | r
                          · have := HLO.out b1 r; have := hge1.out; omega
                          · have := hlt1.out; omega
                        rw [HR.out]
                        exact ⟨none, 0, e3, hfs.at_ Y1.out hne.out, ⟨F1, HX.out.fr hfs (fun i hi q => hF1 i hi q), fun i hi => (HG.out i hi).imp id (fun q => Nat.le_trans HBI.out.size q), hnb1, (fun k off e => by cases e)⟩, (fun i x hx => by simp at hx), hfw.trans hfs (fun i hi => .inr (by rw [hi]; exact hge2.out))⟩
                  · have n0 : ¬ o.kind = 0 := by simpa using q0
                    have n1 : ¬ o.kind = 1 := by simpa using q1
                    have n2 : ¬ o.kind = 2 := by simpa using q2
                    have n3 : ¬ o.kind = 3 := by simpa using q3
                    have n4 : ¬ o.kind = 4 := by simpa using q4
                    have n5 : ¬ o.kind = 5 := by simpa using q5
                    have n6 : ¬ o.kind = 6 := by simpa using q6
                    have p7 : o.kind = 7 := by simpa using q7
                    have HR := hid (show callR s o = _ from by unfold callR; rw [if_neg n0, if_neg n1, if_neg n2, if_neg n3, if_neg n4, if_neg n5, if_neg n6, if_pos p7])
                    have HC := hid (backout_any HAI.out o.work)
                    clear n0 n1 n2 n3 n4 n5 n6 p7
                    go_wp2_with fail
                    refine HC.out.mono ?_
                    rintro e w1 ⟨rfl, ⟨F1, hx1, hg1⟩, hf1⟩
                    have y2 := hf1.at_ HX2.out (fun q => by have := HLO.out _ q; have := hge2.out; omega)
                    have y1 := hf1.at_ HX1.out (fun q => by have := HLO.out _ q; have := hge1.out; omega)
                    have g3 := cell_of_row w1 b2 3 _ _ _ y2
                    have z3 : w1.frozen? ⟨b2, 3, none⟩ = false := by simp [World.frozen?, y2]
                    have Y2 := hid y2
                    have Y1 := hid y1
                    have HX := hid hx1
                    have HG := hid hg1
                    have HF := hid hf1
                    clear y2 y1 hx1 hg1 hf1 HC
                    go_wp2_with fail
                    have e3 := K.setCell_heap (off := 3) (Y2.out) (.int .i64 (s.backout o.work).1)
                    have hfs : Fr (fun i => i = b2) w1 (w1.setCell ⟨b2, 3, none⟩ (.int .i64 (s.backout o.work).1)) := Fr.setCell (S := fun i => i = b2) (p := ⟨b2, 3, none⟩) (Fr.refl _ w1) (.inl rfl) (.int .i64 (s.backout o.work).1)
                    go_meet
                    case rel =>
                      have hF1 : ∀ i, F1 i → i ≠ b2 := fun i hi q => by
                        rcases HG.out i hi with r | r
                        · have := HLO.out i r; have := hge2.out; omega
                        · have := hlt2.out; omega
                      have hfw : Fr F w w1 := ((Fr.of_below HBI.out (Nat.le_refl _)).mono (fun _ q => q.elim)).trans HF.out (fun i hi => .inl hi)
                      have hnb1 : ¬ F1 b1 := fun hi => by
                        rcases HG.out b1 hi with r | r
                        · have := HLO.out b1 r; have := hge1.out; omega
                        · have := hlt1.out; omega
                      rw [HR.out]
                      exact ⟨none, 0, e3, hfs.at_ Y1.out hne.out, ⟨F1, HX.out.fr hfs (fun i hi q => hF1 i hi q), fun i hi => (HG.out i hi).imp id (fun q => Nat.le_trans HBI.out.size q), hnb1, (fun k off e => by cases e)⟩, (fun i x hx => by simp at hx), hfw.trans hfs (fun i hi => .inr (by rw [hi]; exact hge2.out))⟩
                · have n0 : ¬ o.kind = 0 := by simpa using q0
                  have n1 : ¬ o.kind = 1 := by simpa using q1
                  have n2 : ¬ o.kind = 2 := by simpa using q2
                  have n3 : ¬ o.kind = 3 := by simpa using q3
                  have n4 : ¬ o.kind = 4 := by simpa using q4
                  have n5 : ¬ o.kind = 5 := by simpa using q5
                  have p6 : o.kind = 6 := by simpa using q6
                  have HR := hid (show callR s o = _ from by unfold callR; rw [if_neg n0, if_neg n1, if_neg n2, if_neg n3, if_neg n4, if_neg n5, if_pos p6])
                  have HC := hid (commit_any HAI.out o.work)
                  clear n0 n1 n2 n3 n4 n5 p6
                  go_wp2_with fail
                  refine HC.out.mono ?_
                  rintro e w1 ⟨rfl, ⟨F1, hx1, hg1⟩, hf1⟩
                  have y2 := hf1.at_ HX2.out (fun q => by have := HLO.out _ q; have := hge2.out; omega)
                  have y1 := hf1.at_ HX1.out (fun q => by have := HLO.out _ q; have := hge1.out; omega)
                  have g3 := cell_of_row w1 b2 3 _ _ _ y2
                  have z3 : w1.frozen? ⟨b2, 3, none⟩ = false := by simp [World.frozen?, y2]
                  have Y2 := hid y2
                  have Y1 := hid y1
                  have HX := hid hx1
                  have HG := hid hg1
                  have HF := hid hf1
                  clear y2 y1 hx1 hg1 hf1 HC
                  go_wp2_with fail
                  have e3 := K.setCell_heap (off := 3) (Y2.out) (.int .i64 (s.commit o.work).1)
                  have hfs : Fr (fun i => i = b2) w1 (w1.setCell ⟨b2, 3, none⟩ (.int .i64 (s.commit o.work).1)) := Fr.setCell (S := fun i => i = b2) (p := ⟨b2, 3, none⟩) (Fr.refl _ w1) (.inl rfl) (.int .i64 (s.commit o.work).1)
                  go_meet
                  case rel =>
                    have hF1 : ∀ i, F1 i → i ≠ b2 := fun i hi q => by
                      rcases HG.out i hi with r | r
                      · have := HLO.out i r; have := hge2.out; omega
                      · have := hlt2.out; omega
                    have hfw : Fr F w w1 := ((Fr.of_below HBI.out (Nat.le_refl _)).mono (fun _ q => q.elim)).trans HF.out (fun i hi => .inl hi)
                    have hnb1 : ¬ F1 b1 := fun hi => by
                      rcases HG.out b1 hi with r | r
                      · have := HLO.out b1 r; have := hge1.out; omega
                      · have := hlt1.out; omega
                    rw [HR.out]
                    exact ⟨none, 0, e3, hfs.at_ Y1.out hne.out, ⟨F1, HX.out.fr hfs (fun i hi q => hF1 i hi q), fun i hi => (HG.out i hi).imp id (fun q => Nat.le_trans HBI.out.size q), hnb1, (fun k off e => by cases e)⟩, (fun i x hx => by simp at hx), hfw.trans hfs (fun i hi => .inr (by rw [hi]; exact hge2.out))⟩
              · have n0 : ¬ o.kind = 0 := by simpa using q0
                have n1 : ¬ o.kind = 1 := by simpa using q1
                have n2 : ¬ o.kind = 2 := by simpa using q2
                have n3 : ¬ o.kind = 3 := by simpa using q3
                have n4 : ¬ o.kind = 4 := by simpa using q4
                have p5 : o.kind = 5 := by simpa using q5
                have HR := hid (show callR s o = _ from by unfold callR; rw [if_neg n0, if_neg n1, if_neg n2, if_neg n3, if_neg n4, if_pos p5])
                have HC := hid (prepare_any HAI.out o.work)
                clear n0 n1 n2 n3 n4 p5
                go_wp2_with fail
                refine HC.out.mono ?_
                rintro e w1 ⟨A5, c5, rfl, ⟨F1, hx1, hg1, ho1⟩, hat1, hcap1, hf1⟩
                have y2 := hf1.at_ HX2.out (fun q => by have := HLO.out _ q; have := hge2.out; omega)
                have y1 := hf1.at_ HX1.out (fun q => by have := HLO.out _ q; have := hge1.out; omega)
                have g2 := cell_of_row w1 b2 2 _ _ _ y2
                have z2 : w1.frozen? ⟨b2, 2, none⟩ = false := by simp [World.frozen?, y2]
                have g3 := cell_of_row w1 b2 3 _ _ _ y2
                have z3 : w1.frozen? ⟨b2, 3, none⟩ = false := by simp [World.frozen?, y2]
                have Y2 := hid y2
                have Y1 := hid y1
                have HX := hid hx1
                have HG := hid hg1
                have HF := hid hf1
                have HO := hid ho1
                have HAT := hid hat1
                clear y2 y1 hx1 hg1 hf1 HC ho1 hat1 hcap1
                go_wp2_with fail
                have e2 := K.setCell_heap (off := 2) (Y2.out) (.slice A5 (s.prepare o.work).1.1.length c5)
                have e3 := K.setCell_heap (off := 3) (e2) (.int .i64 (s.prepare o.work).1.2)
                have hfs : Fr (fun i => i = b2) w1 ((w1.setCell ⟨b2, 2, none⟩ (.slice A5 (s.prepare o.work).1.1.length c5)).setCell ⟨b2, 3, none⟩ (.int .i64 (s.prepare o.work).1.2)) := Fr.setCell (S := fun i => i = b2) (p := ⟨b2, 3, none⟩) (Fr.setCell (S := fun i => i = b2) (p := ⟨b2, 2, none⟩) (Fr.refl _ w1) (.inl rfl) (.slice A5 (s.prepare o.work).1.1.length c5)) (.inl rfl) (.int .i64 (s.prepare o.work).1.2)
                go_meet
                case rel =>
                  have hF1 : ∀ i, F1 i → i ≠ b2 := fun i hi q => by
                    rcases HG.out i hi with r | r
                    · have := HLO.out i r; have := hge2.out; omega
                    · have := hlt2.out; omega
                  have hfw : Fr F w w1 := ((Fr.of_below HBI.out (Nat.le_refl _)).mono (fun _ q => q.elim)).trans HF.out (fun i hi => .inl hi)
                  have hnb1 : ¬ F1 b1 := fun hi => by
                    rcases HG.out b1 hi with r | r
                    · have := HLO.out b1 r; have := hge1.out; omega
                    · have := hlt1.out; omega
                  rw [HR.out]
                  exact ⟨A5, c5, e3, hfs.at_ Y1.out hne.out, ⟨F1, HX.out.fr hfs (fun i hi q => hF1 i hi q), fun i hi => (HG.out i hi).imp id (fun q => Nat.le_trans HBI.out.size q), hnb1, (fun k off e => ⟨Nat.le_trans HBI.out.size (HO.out k off e).1, (HO.out k off e).2, by have := (HO.out k off e).1; have := hlt1.out; omega⟩)⟩, (row_fr HAT.out hfs (fun k off e q => by have := (HO.out k off e).1; have := hlt2.out; omega)), hfw.trans hfs (fun i hi => .inr (by rw [hi]; exact hge2.out))⟩
            · have n0 : ¬ o.kind = 0 := by simpa using q0
              have n1 : ¬ o.kind = 1 := by simpa using q1
              have n2 : ¬ o.kind = 2 := by simpa using q2
              have n3 : ¬ o.kind = 3 := by simpa using q3
              have p4 : o.kind = 4 := by simpa using q4
              have HR := hid (show callR s o = _ from by unfold callR; rw [if_neg n0, if_neg n1, if_neg n2, if_neg n3, if_pos p4])
              have HC := hid (pop_any HAI.out o.work)
              clear n0 n1 n2 n3 p4
              go_wp2_with fail
              refine HC.out.mono ?_
              rintro e w1 ⟨rfl, ⟨F1, hx1, hg1⟩, hf1⟩
              have y2 := hf1.at_ HX2.out (fun q => by have := HLO.out _ q; have := hge2.out; omega)
              have y1 := hf1.at_ HX1.out (fun q => by have := HLO.out _ q; have := hge1.out; omega)
              have g0 := cell_of_row w1 b2 0 _ _ _ y2
              have z0 : w1.frozen? ⟨b2, 0, none⟩ = false := by simp [World.frozen?, y2]
              have g3 := cell_of_row w1 b2 3 _ _ _ y2
              have z3 : w1.frozen? ⟨b2, 3, none⟩ = false := by simp [World.frozen?, y2]
              have Y2 := hid y2
              have Y1 := hid y1
              have HX := hid hx1
              have HG := hid hg1
              have HF := hid hf1
              clear y2 y1 hx1 hg1 hf1 HC
              go_wp2_with fail
              have e0 := K.setCell_heap (off := 0) (Y2.out) (.int .u64 (s.pop o.work).1.1)
              have e3 := K.setCell_heap (off := 3) (e0) (.int .i64 (s.pop o.work).1.2)
              have hfs : Fr (fun i => i = b2) w1 ((w1.setCell ⟨b2, 0, none⟩ (.int .u64 (s.pop o.work).1.1)).setCell ⟨b2, 3, none⟩ (.int .i64 (s.pop o.work).1.2)) := Fr.setCell (S := fun i => i = b2) (p := ⟨b2, 3, none⟩) (Fr.setCell (S := fun i => i = b2) (p := ⟨b2, 0, none⟩) (Fr.refl _ w1) (.inl rfl) (.int .u64 (s.pop o.work).1.1)) (.inl rfl) (.int .i64 (s.pop o.work).1.2)
              go_meet
              case rel =>
                have hF1 : ∀ i, F1 i → i ≠ b2 := fun i hi q => by
                  rcases HG.out i hi with r | r
                  · have := HLO.out i r; have := hge2.out; omega
                  · have := hlt2.out; omega
                have hfw : Fr F w w1 := ((Fr.of_below HBI.out (Nat.le_refl _)).mono (fun _ q => q.elim)).trans HF.out (fun i hi => .inl hi)
                have hnb1 : ¬ F1 b1 := fun hi => by
                  rcases HG.out b1 hi with r | r
                  · have := HLO.out b1 r; have := hge1.out; omega
                  · have := hlt1.out; omega
                rw [HR.out]
                exact ⟨none, 0, e3, hfs.at_ Y1.out hne.out, ⟨F1, HX.out.fr hfs (fun i hi q => hF1 i hi q), fun i hi => (HG.out i hi).imp id (fun q => Nat.le_trans HBI.out.size q), hnb1, (fun k off e => by cases e)⟩, (fun i x hx => by simp at hx), hfw.trans hfs (fun i hi => .inr (by rw [hi]; exact hge2.out))⟩
          · have n0 : ¬ o.kind = 0 := by simpa using q0
            have n1 : ¬ o.kind = 1 := by simpa using q1
            have n2 : ¬ o.kind = 2 := by simpa using q2
            have p3 : o.kind = 3 := by simpa using q3
            have HR := hid (show callR s o = _ from by unfold callR; rw [if_neg n0, if_neg n1, if_neg n2, if_pos p3])
            have HC := hid (push_any HAI.out o.work o.val)
            clear n0 n1 n2 p3
            go_wp2_with fail
            refine HC.out.mono ?_
            rintro e w1 ⟨rfl, ⟨F1, hx1, hg1⟩, hf1⟩
            have y2 := hf1.at_ HX2.out (fun q => by have := HLO.out _ q; have := hge2.out; omega)
            have y1 := hf1.at_ HX1.out (fun q => by have := HLO.out _ q; have := hge1.out; omega)
            have g3 := cell_of_row w1 b2 3 _ _ _ y2
            have z3 : w1.frozen? ⟨b2, 3, none⟩ = false := by simp [World.frozen?, y2]
            have Y2 := hid y2
            have Y1 := hid y1
            have HX := hid hx1
            have HG := hid hg1
            have HF := hid hf1
            clear y2 y1 hx1 hg1 hf1 HC
            go_wp2_with fail
            have e3 := K.setCell_heap (off := 3) (Y2.out) (.int .i64 (s.push o.work o.val).1)
            have hfs : Fr (fun i => i = b2) w1 (w1.setCell ⟨b2, 3, none⟩ (.int .i64 (s.push o.work o.val).1)) := Fr.setCell (S := fun i => i = b2) (p := ⟨b2, 3, none⟩) (Fr.refl _ w1) (.inl rfl) (.int .i64 (s.push o.work o.val).1)
            go_meet
            case rel =>
              have hF1 : ∀ i, F1 i → i ≠ b2 := fun i hi q => by
                rcases HG.out i hi with r | r
                · have := HLO.out i r; have := hge2.out; omega
                · have := hlt2.out; omega
              have hfw : Fr F w w1 := ((Fr.of_below HBI.out (Nat.le_refl _)).mono (fun _ q => q.elim)).trans HF.out (fun i hi => .inl hi)
              have hnb1 : ¬ F1 b1 := fun hi => by
                rcases HG.out b1 hi with r | r
                · have := HLO.out b1 r; have := hge1.out; omega
                · have := hlt1.out; omega
              rw [HR.out]
              exact ⟨none, 0, e3, hfs.at_ Y1.out hne.out, ⟨F1, HX.out.fr hfs (fun i hi q => hF1 i hi q), fun i hi => (HG.out i hi).imp id (fun q => Nat.le_trans HBI.out.size q), hnb1, (fun k off e => by cases e)⟩, (fun i x hx => by simp at hx), hfw.trans hfs (fun i hi => .inr (by rw [hi]; exact hge2.out))⟩
        · have n0 : ¬ o.kind = 0 := by simpa using q0
          have n1 : ¬ o.kind = 1 := by simpa using q1
          have p2 : o.kind = 2 := by simpa using q2
          have HR := hid (show callR s o = _ from by unfold callR; rw [if_neg n0, if_neg n1, if_pos p2])
          have HC := hid (del_any HAI.out o.work o.key)
          clear n0 n1 p2
          go_wp2_with fail
          refine HC.out.mono ?_
          rintro e w1 ⟨rfl, ⟨F1, hx1, hg1⟩, hf1⟩
          have y2 := hf1.at_ HX2.out (fun q => by have := HLO.out _ q; have := hge2.out; omega)
          have y1 := hf1.at_ HX1.out (fun q => by have := HLO.out _ q; have := hge1.out; omega)
          have g3 := cell_of_row w1 b2 3 _ _ _ y2
          have z3 : w1.frozen? ⟨b2, 3, none⟩ = false := by simp [World.frozen?, y2]
          have Y2 := hid y2
          have Y1 := hid y1
          have HX := hid hx1
          have HG := hid hg1
          have HF := hid hf1
          clear y2 y1 hx1 hg1 hf1 HC
          go_wp2_with fail
          have e3 := K.setCell_heap (off := 3) (Y2.out) (.int .i64 (s.change o.work ⟨2, o.key, 0⟩).1)
          have hfs : Fr (fun i => i = b2) w1 (w1.setCell ⟨b2, 3, none⟩ (.int .i64 (s.change o.work ⟨2, o.key, 0⟩).1)) := Fr.setCell (S := fun i => i = b2) (p := ⟨b2, 3, none⟩) (Fr.refl _ w1) (.inl rfl) (.int .i64 (s.change o.work ⟨2, o.key, 0⟩).1)
          go_meet
          case rel =>
            have hF1 : ∀ i, F1 i → i ≠ b2 := fun i hi q => by
              rcases HG.out i hi with r | r
              · have := HLO.out i r; have := hge2.out; omega
              · have := hlt2.out; omega
            have hfw : Fr F w w1 := ((Fr.of_below HBI.out (Nat.le_refl _)).mono (fun _ q => q.elim)).trans HF.out (fun i hi => .inl hi)
            have hnb1 : ¬ F1 b1 := fun hi => by
              rcases HG.out b1 hi with r | r
              · have := HLO.out b1 r; have := hge1.out; omega
              · have := hlt1.out; omega
            rw [HR.out]
            exact ⟨none, 0, e3, hfs.at_ Y1.out hne.out, ⟨F1, HX.out.fr hfs (fun i hi q => hF1 i hi q), fun i hi => (HG.out i hi).imp id (fun q => Nat.le_trans HBI.out.size q), hnb1, (fun k off e => by cases e)⟩, (fun i x hx => by simp at hx), hfw.trans hfs (fun i hi => .inr (by rw [hi]; exact hge2.out))⟩
      · have n0 : ¬ o.kind = 0 := by simpa using q0
        have p1 : o.kind = 1 := by simpa using q1
        have HR := hid (show callR s o = _ from by unfold callR; rw [if_neg n0, if_pos p1])
        have HC := hid (put_any HAI.out o.work o.key o.val)
        clear n0 p1
        go_wp2_with fail
        refine HC.out.mono ?_
        rintro e w1 ⟨rfl, ⟨F1, hx1, hg1⟩, hf1⟩
        have y2 := hf1.at_ HX2.out (fun q => by have := HLO.out _ q; have := hge2.out; omega)
        have y1 := hf1.at_ HX1.out (fun q => by have := HLO.out _ q; have := hge1.out; omega)
        have g3 := cell_of_row w1 b2 3 _ _ _ y2
        have z3 : w1.frozen? ⟨b2, 3, none⟩ = false := by simp [World.frozen?, y2]
        have Y2 := hid y2
        have Y1 := hid y1
        have HX := hid hx1
        have HG := hid hg1
        have HF := hid hf1
        clear y2 y1 hx1 hg1 hf1 HC
        go_wp2_with fail
        have e3 := K.setCell_heap (off := 3) (Y2.out) (.int .i64 (s.change o.work ⟨1, o.key, o.val⟩).1)
        have hfs : Fr (fun i => i = b2) w1 (w1.setCell ⟨b2, 3, none⟩ (.int .i64 (s.change o.work ⟨1, o.key, o.val⟩).1)) := Fr.setCell (S := fun i => i = b2) (p := ⟨b2, 3, none⟩) (Fr.refl _ w1) (.inl rfl) (.int .i64 (s.change o.work ⟨1, o.key, o.val⟩).1)
        go_meet
        case rel =>
          have hF1 : ∀ i, F1 i → i ≠ b2 := fun i hi q => by
            rcases HG.out i hi with r | r
            · have := HLO.out i r; have := hge2.out; omega
            · have := hlt2.out; omega
          have hfw : Fr F w w1 := ((Fr.of_below HBI.out (Nat.le_refl _)).mono (fun _ q => q.elim)).trans HF.out (fun i hi => .inl hi)
          have hnb1 : ¬ F1 b1 := fun hi => by
            rcases HG.out b1 hi with r | r
            · have := HLO.out b1 r; have := hge1.out; omega
            · have := hlt1.out; omega
          rw [HR.out]
          exact ⟨none, 0, e3, hfs.at_ Y1.out hne.out, ⟨F1, HX.out.fr hfs (fun i hi q => hF1 i hi q), fun i hi => (HG.out i hi).imp id (fun q => Nat.le_trans HBI.out.size q), hnb1, (fun k off e => by cases e)⟩, (fun i x hx => by simp at hx), hfw.trans hfs (fun i hi => .inr (by rw [hi]; exact hge2.out))⟩
    · have p0 : o.kind = 0 := by simpa using q0
      have HR := hid (show callR s o = _ from by unfold callR; rw [if_pos p0])
      have HC := hid (get_any HAI.out o.work o.key)
      clear p0
      go_wp2_with fail
      refine HC.out.mono ?_
      rintro e w1 ⟨rfl, ⟨F1, hx1, hg1⟩, hf1⟩
      have y2 := hf1.at_ HX2.out (fun q => by have := HLO.out _ q; have := hge2.out; omega)
      have y1 := hf1.at_ HX1.out (fun q => by have := HLO.out _ q; have := hge1.out; omega)
      have g0 := cell_of_row w1 b2 0 _ _ _ y2
      have z0 : w1.frozen? ⟨b2, 0, none⟩ = false := by simp [World.frozen?, y2]
      have g1 := cell_of_row w1 b2 1 _ _ _ y2
      have z1 : w1.frozen? ⟨b2, 1, none⟩ = false := by simp [World.frozen?, y2]
      have g3 := cell_of_row w1 b2 3 _ _ _ y2
      have z3 : w1.frozen? ⟨b2, 3, none⟩ = false := by simp [World.frozen?, y2]
      have Y2 := hid y2
      have Y1 := hid y1
      have HX := hid hx1
      have HG := hid hg1
      have HF := hid hf1
      clear y2 y1 hx1 hg1 hf1 HC
      go_wp2_with fail
      have e0 := K.setCell_heap (off := 0) (Y2.out) (.int .u64 (s.get o.work o.key).1.1)
      have e1 := K.setCell_heap (off := 1) (e0) (.bool (s.get o.work o.key).1.2.1)
      have e3 := K.setCell_heap (off := 3) (e1) (.int .i64 (s.get o.work o.key).1.2.2)
      have hfs : Fr (fun i => i = b2) w1 (((w1.setCell ⟨b2, 0, none⟩ (.int .u64 (s.get o.work o.key).1.1)).setCell ⟨b2, 1, none⟩ (.bool (s.get o.work o.key).1.2.1)).setCell ⟨b2, 3, none⟩ (.int .i64 (s.get o.work o.key).1.2.2)) := Fr.setCell (S := fun i => i = b2) (p := ⟨b2, 3, none⟩) (Fr.setCell (S := fun i => i = b2) (p := ⟨b2, 1, none⟩) (Fr.setCell (S := fun i => i = b2) (p := ⟨b2, 0, none⟩) (Fr.refl _ w1) (.inl rfl) (.int .u64 (s.get o.work o.key).1.1)) (.inl rfl) (.bool (s.get o.work o.key).1.2.1)) (.inl rfl) (.int .i64 (s.get o.work o.key).1.2.2)
      go_meet
      case rel =>
        have hF1 : ∀ i, F1 i → i ≠ b2 := fun i hi q => by
          rcases HG.out i hi with r | r
          · have := HLO.out i r; have := hge2.out; omega
          · have := hlt2.out; omega
        have hfw : Fr F w w1 := ((Fr.of_below HBI.out (Nat.le_refl _)).mono (fun _ q => q.elim)).trans HF.out (fun i hi => .inl hi)
        have hnb1 : ¬ F1 b1 := fun hi => by
          rcases HG.out b1 hi with r | r
          · have := HLO.out b1 r; have := hge1.out; omega
          · have := hlt1.out; omega
        rw [HR.out]
        exact ⟨none, 0, e3, hfs.at_ Y1.out hne.out, ⟨F1, HX.out.fr hfs (fun i hi q => hF1 i hi q), fun i hi => (HG.out i hi).imp id (fun q => Nat.le_trans HBI.out.size q), hnb1, (fun k off e => by cases e)⟩, (fun i x hx => by simp at hx), hfw.trans hfs (fun i hi => .inr (by rw [hi]; exact hge2.out))⟩
  case rest =>
    obtain ⟨A, c, y2, y1, ⟨F1, hx1, hg1, hnb1, ho1⟩, hat1, hf1⟩ := hcut
    have HX := hid hx1
    have HG := hid hg1
    have HO := hid ho1
    have HAT := hid hat1
    have HF := hid hf1
    clear hx1 hg1 ho1 hat1 hf1
    have g0 := cell_of_row wc b2 0 _ _ _ y2
    have r0 := cell_of_row wc b1 0 _ _ _ y1
    have z0 : wc.frozen? ⟨b1, 0, none⟩ = false := by simp [World.frozen?, y1]
    have g1 := cell_of_row wc b2 1 _ _ _ y2
    have r1 := cell_of_row wc b1 1 _ _ _ y1
    have z1 : wc.frozen? ⟨b1, 1, none⟩ = false := by simp [World.frozen?, y1]
    have g2 := cell_of_row wc b2 2 _ _ _ y2
    have r2 := cell_of_row wc b1 2 _ _ _ y1
    have z2 : wc.frozen? ⟨b1, 2, none⟩ = false := by simp [World.frozen?, y1]
    have g3 := cell_of_row wc b2 3 _ _ _ y2
    have r3 := cell_of_row wc b1 3 _ _ _ y1
    have z3 : wc.frozen? ⟨b1, 3, none⟩ = false := by simp [World.frozen?, y1]
    have Y1 := hid y1
    clear y1 y2 k0 k1 k2 k3 k4
    go_wp2_with fail
    have e0 := K.setCell_heap (off := 0) (Y1.out) (.int .u64 (callR s o).1.v)
    have e1 := K.setCell_heap (off := 1) (e0) (.bool (callR s o).1.t)
    have e2 := K.setCell_heap (off := 2) (e1) (.slice A (callR s o).1.l.length c)
    have e3 := K.setCell_heap (off := 3) (e2) (.int .i64 (callR s o).1.e)
    have e4 : ((((wc.setCell ⟨b1, 0, none⟩ (.int .u64 (callR s o).1.v)).setCell ⟨b1, 1, none⟩ (.bool (callR s o).1.t)).setCell ⟨b1, 2, none⟩ (.slice A (callR s o).1.l.length c)).setCell ⟨b1, 3, none⟩ (.int .i64 (callR s o).1.e)).heap[b1]? = some (.cells #[.int .u64 (callR s o).1.v, .bool (callR s o).1.t, .slice A (callR s o).1.l.length c, .int .i64 (callR s o).1.e] 37 (0, 0)) := e3
    have hfs : Fr (fun i => i = b1) wc ((((wc.setCell ⟨b1, 0, none⟩ (.int .u64 (callR s o).1.v)).setCell ⟨b1, 1, none⟩ (.bool (callR s o).1.t)).setCell ⟨b1, 2, none⟩ (.slice A (callR s o).1.l.length c)).setCell ⟨b1, 3, none⟩ (.int .i64 (callR s o).1.e)) := Fr.setCell (S := fun i => i = b1) (p := ⟨b1, 3, none⟩) (Fr.setCell (S := fun i => i = b1) (p := ⟨b1, 2, none⟩) (Fr.setCell (S := fun i => i = b1) (p := ⟨b1, 1, none⟩) (Fr.setCell (S := fun i => i = b1) (p := ⟨b1, 0, none⟩) (Fr.refl _ wc) (.inl rfl) (.int .u64 (callR s o).1.v)) (.inl rfl) (.bool (callR s o).1.t)) (.inl rfl) (.slice A (callR s o).1.l.length c)) (.inl rfl) (.int .i64 (callR s o).1.e)
    refine bodyPost_ret (results_cell_row rfl _ _ b1 37 _ (0, 0) _ rfl e4 Try.underlying37 rfl (by kernel_rfl)) rfl ?_
    exact ⟨A, c, rfl, ⟨F1, HX.out.fr hfs (fun i hi q => hnb1 (q ▸ hi)), HG.out, fun k off e => ⟨(HO.out k off e).1, (HO.out k off e).2.1⟩⟩, row_fr HAT.out hfs (fun k off e q => (HO.out k off e).2.2 q), HF.out.trans hfs (fun i hi => .inr (by rw [hi]; exact hge1.out))⟩
end Go.Proofs.Ytdejbinmnoabeaa
namespace Go.Mine
def stepR (s : RM) (o : ROp) : RM := if o.l.length ≤ 40 then (callR s o).2 else s
def playR (l : List ROp) : RM := (l.take 60).foldl stepR RM.new
theorem RM.Ok.step {s : RM} (h : s.Ok) (o : ROp) : (stepR s o).Ok := by
  unfold stepR
  split
  · exact h.call o
  · exact h
theorem RM.Ok.fold : ∀ (l : List ROp) {s : RM}, s.Ok → (l.foldl stepR s).Ok
  | [], _, h => h
  | o :: l, _, h => RM.Ok.fold l (h.step o)
theorem RM.Ok.play (l : List ROp) : (playR l).Ok := RM.Ok.fold _ RM.Ok.new
end Go.Mine
namespace Go.Proofs.Ytdejbinmnoabeaa
open Go.RowKit Go.Mine Go.Proofs.YtdejbinmnoabeaaW.PrintWords
set_option linter.unusedVariables false
set_option linter.unusedSimpArgs false
def encOp (o : ROp) : List Value := [.int .i64 o.kind, .int .i64 o.work, .int .i64 o.key, .int .u64 o.val, .slice o.la o.l.length o.lc]
def OpsAt (w : World) (B : Nat) (A : Option Addr) (l : List ROp) : Prop :=
  ∀ i x, l[i]? = some x → ∃ b off, A = some ⟨b, off, none⟩ ∧ b < B ∧ (∀ j v, (encOp x)[j]? = some v → w.cell? ⟨b, off + i * 5 + j, none⟩ = some v) ∧ ChAt w B x.la x.l ∧ x.l.length ≤ x.lc
theorem OpsAt.below {w w' : World} {B : Nat} {A : Option Addr} {l : List ROp} (h : OpsAt w B A l) (hb : Below B w w') : OpsAt w' B A l := by
  intro i x hx
  obtain ⟨b, off, e, hlt, hc, h1, h2⟩ := h i x hx
  exact ⟨b, off, e, hlt, fun j v hv => (hb.cell (p := ⟨b, off + i * 5 + j, none⟩) hlt).trans (hc j v hv), Q.RowAt.below h1 hb, h2⟩
def St (B : Nat) (w : World) (b : Nat) (s : RM) : Prop := (∃ F, RAt F w b s ∧ ∀ i, F i → B ≤ i) ∧ B ≤ w.heap.size
theorem St.of {B : Nat} {F F' : Nat → Prop} {w w' : World} {b : Nat} {s : RM} (hB : B ≤ w.heap.size) (hF : ∀ i, F i → B ≤ i) (h : RAt F' w' b s) (hg : K.Grew F F' w) (hf : Fr F w w') : St B w' b s ∧ Below B w w' :=
  ⟨⟨⟨F', h, fun i hi => (hg i hi).elim (hF i) (fun q => Nat.le_trans hB q)⟩, Nat.le_trans hB hf.size⟩, hf.below hB (fun k hk q => by have := hF k q; omega)⟩
theorem St.below {B : Nat} {w w' : World} {b : Nat} {s : RM} (h : St B w b s) (hb : Below w.heap.size w w') : St B w' b s := by
  obtain ⟨⟨F, h1, h2⟩, h3⟩ := h
  exact ⟨⟨F, h1.below hb, h2⟩, Nat.le_trans h3 hb.size⟩
theorem RAt.ok {F : Nat → Prop} {w : World} {b : Nat} {s : RM} (h : RAt F w b s) : s.Ok := ⟨h.kok, h.qok⟩
theorem St.ok {B : Nat} {w : World} {b : Nat} {s : RM} (h : St B w b s) : s.Ok := by
  obtain ⟨⟨F, h1, h2⟩, h3⟩ := h
  exact h1.ok
theorem new_st (w : World) : Calls Try.prog 28 #[] w fun e w' => ∃ b, e = .returned (.pointer (some ⟨b, 0, none⟩)) ∧ St w.heap.size w' b RM.new ∧ Below w.heap.size w w' := by
  refine (new_any w).mono ?_
  rintro e w' ⟨rfl, rfl⟩
  exact ⟨_, rfl, ⟨⟨_, new_rat w, fun i hi => by rw [hi]; exact Nat.le_refl _⟩, by simp⟩, (Below.refl _ _).alloc (Nat.le_refl _) _⟩
theorem RowAt.block {α : Type} {f : α → List Value} {sz B : Nat} {w : World} {A : Option Addr} {l : List α} (h : Q.RowAt f sz w B A l) (hl : l ≠ []) {b off : Nat} (e : A = some ⟨b, off, none⟩) : b < B := by
  obtain ⟨x, hx⟩ : ∃ x, l[0]? = some x := ⟨_, List.getElem?_eq_getElem (List.length_pos_iff.2 hl)⟩
  obtain ⟨b', off', e', hlt, _⟩ := h 0 x hx
  rw [e] at e'
  cases e'
  exact hlt
theorem call_st {B : Nat} {w : World} {b : Nat} {s : RM} (h : St B w b s) (o : ROp) {B' : Nat} (hi : ChAt w B' o.la o.l) (hc : o.l.length ≤ o.lc) (hB : B' ≤ B) (hn : o.l.length ≤ 40) :
    Calls Try.prog 14 #[.pointer (some ⟨b, 0, none⟩), .agg #[.int .i64 o.kind, .int .i64 o.work, .int .i64 o.key, .int .u64 o.val, .slice o.la o.l.length o.lc]] w fun e w' => (∃ v, e = .returned v) ∧ St B w' b (callR s o).2 ∧ Below B w w' := by
  obtain ⟨⟨F, h1, h2⟩, h3⟩ := h
  refine (call_any h1 o (fun _ => ⟨Q.RowAt.up hi (by omega), fun hne b' off e hF => by have := RowAt.block hi hne e; have := h2 b' hF; omega, by omega, hc⟩)).mono ?_
  rintro e w' ⟨A, c, he, ⟨F', hk, hg, _⟩, _, hf⟩
  exact ⟨⟨_, he⟩, St.of h3 h2 hk hg hf⟩
set_option maxRecDepth 100000 in
set_option maxHeartbeats 2000000 in
theorem played_any (A : Option Addr) (l : List ROp) (c B : Nat) (w : World) (hB : B ≤ w.heap.size) (hl : OpsAt w B A l) :
    Calls Try.prog 20 #[.slice A l.length c] w fun e w' => ∃ b, e = .returned (.pointer (some ⟨b, 0, none⟩)) ∧ St w.heap.size w' b (playR l) ∧ Below w.heap.size w w' := by
  go_enter Try.func20, Try.ntmps20
  go_wp2_with fail
  refine (new_st w).mono ?_
  rintro e w1 ⟨b0, rfl, t1, f1⟩
  go_wp2_with fail
  go_loopg [4] 61 (fun m v wr => ∃ i : Nat, v = .int .i64 i ∧ i ≤ l.length ∧ i ≤ 60 ∧ m = 61 - i ∧ St w.heap.size wr b0 ((l.take i).foldl stepR RM.new) ∧ Below w.heap.size w wr)
  case atStart => exact ⟨0, rfl, Nat.zero_le _, Nat.zero_le _, rfl, t1, f1⟩
  case round =>
    obtain ⟨i, rfl, hi1, hi2, hm, ht, hf⟩ := hrel
    have HN := hid hm
    clear hm
    have hlr := hl.below (hf.mono hB)
    by_cases h1 : i < l.length
    · by_cases h2 : (i : Int) < 60
      · obtain ⟨x, hx⟩ : ∃ x, l[i]? = some x := ⟨_, List.getElem?_eq_getElem h1⟩
        obtain ⟨b, off, rfl, hb, hc, hch, hlc⟩ := hlr i x hx
        have k0 : wr.cell? ⟨b, off + i * 5, none⟩ = some (.int .i64 x.kind) := hc 0 _ rfl
        have k1 := hc 1 _ rfl
        have k2 := hc 2 _ rfl
        have k3 := hc 3 _ rfl
        have k4 : wr.cell? ⟨b, off + i * 5 + 4, none⟩ = some (.slice x.la x.l.length x.lc) := hc 4 _ rfl
        have hst : (l.take (i + 1)).foldl stepR RM.new = stepR ((l.take i).foldl stepR RM.new) x := by
          rw [List.take_succ_eq_append_getElem h1, List.foldl_append]
          have : l[i] = x := by rw [List.getElem?_eq_getElem h1] at hx; exact Option.some.inj hx
          simp [this]
        have HS := hid hst
        have HT := hid ht
        have HCH := hid hch
        generalize (l.take i).foldl stepR RM.new = cur at *
        clear hc hx hst hl hch hlr ht
        by_cases h40 : x.l.length ≤ 40
        · have h40' : (x.l.length : Int) ≤ 40 := by omega
          have HC := hid (call_st HT.out x HCH.out hlc hB h40)
          have HX := hid (show stepR cur x = (callR cur x).2 from by unfold stepR; rw [if_pos h40])
          go_wp2_with fail
          refine HC.out.mono ?_
          rintro e w3 ⟨⟨v, rfl⟩, t3, f3⟩
          go_wp2_with fail
          go_roundg (61 - (i + 1))
          case measure => rw [HN.out]; omega
          case rel => exact ⟨i + 1, by go_num, by omega, by omega, rfl, by rw [HS.out, HX.out]; exact t3, hf.trans f3⟩
        · have h40' : ¬ (x.l.length : Int) ≤ 40 := by omega
          have HX := hid (show stepR cur x = cur from by unfold stepR; rw [if_neg h40])
          go_wp2_with fail
          go_roundg (61 - (i + 1))
          case measure => rw [HN.out]; omega
          case rel => exact ⟨i + 1, by go_num, by omega, by omega, rfl, by rw [HS.out, HX.out]; exact HT.out, hf⟩
      · go_wp2_with fail
        go_ret
        have : i = 60 := by omega
        subst this
        exact ⟨_, rfl, ht, hf⟩
    · go_wp2_with fail
      go_ret
      have : i = l.length := by omega
      subst this
      refine ⟨_, rfl, ?_, hf⟩
      have e : l.take l.length = l.take 60 := by rw [List.take_of_length_le (Nat.le_refl _), List.take_of_length_le hi2]
      rw [e] at ht
      exact ht
end Go.Proofs.Ytdejbinmnoabeaa
