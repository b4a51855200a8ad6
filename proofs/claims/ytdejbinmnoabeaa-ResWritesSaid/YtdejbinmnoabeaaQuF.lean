/- A queue in memory: its block, its row of items, its works; how that moves. No walk. -/
import Derived.Test.YtdejbinmnoabeaaQuE
namespace Go.Proofs.Ytdejbinmnoabeaa.Q
open Go.RowKit Go.Mine Go.Proofs.YtdejbinmnoabeaaW.PrintWords
set_option linter.unusedVariables false
set_option linter.unusedSimpArgs false
def Grew (F F' : Nat → Prop) (w : World) : Prop := ∀ i, F' i → F i ∨ w.heap.size ≤ i
theorem Grew.refl (F : Nat → Prop) (w : World) : Grew F F w := fun _ h => .inl h
theorem Grew.trans {F F' F'' : Nat → Prop} {w w' : World} (h : Grew F F' w) (k : Grew F' F'' w') (hs : w.heap.size ≤ w'.heap.size) : Grew F F'' w := fun i hi => (k i hi).elim (h i) (fun q => .inr (Nat.le_trans hs q))
abbrev more (F : Nat → Prop) (w w' : World) : Nat → Prop := fun i => F i ∨ (w.heap.size ≤ i ∧ i < w'.heap.size)
theorem grew_more (F : Nat → Prop) (w w' : World) : Grew F (more F w w') w := fun i h => h.elim .inl (fun q => .inr q.1)
theorem more_lt {F : Nat → Prop} {w w' : World} (hb : ∀ i, F i → i < w.heap.size) (hs : w.heap.size ≤ w'.heap.size) : ∀ i, more F w w' i → i < w'.heap.size := fun i h => h.elim (fun q => Nat.lt_of_lt_of_le (hb i q) hs) (fun q => q.2)
theorem blk_set' {w : World} {b t : Nat} {cs : Array Value} (h : w.heap[b]? = some (.cells cs t (0, 0))) (j : Nat) (u : Value) : (w.setCell ⟨b, j, none⟩ u).heap[b]? = some (.cells (cs.setIfInBounds j u) t (0, 0)) := blk_set h j u
/-- The types' numbers of a queue. -/
structure QT where
  te : Nat
  tq : Nat
  tp : Nat
  tw : Nat
  ne : (te ≠ tq ∧ te ≠ tp ∧ te ≠ tw ∧ te ≠ 62) ∧ (tq ≠ tp ∧ tq ≠ tw ∧ tq ≠ 62) ∧ (tp ≠ tw ∧ tp ≠ 62) ∧ tw ≠ 62
def T0 : QT := ⟨108, 91, 105, 118, by decide⟩
def T1 : QT := ⟨85, 55, 59, 87, by decide⟩
abbrev ChRow (w : World) (v : Value) (l : List Ch) : Prop := FR eCh 62 w v l
/-- The cells ahead of the queue (34) and behind it. -/
structure QZ where
  pre : List Value
  post : List Value
  h : pre.length = 34
def qCells (Zz : QZ) (iv qv : Value) (g : Int) : Array Value := (Zz.pre ++ (iv :: qv :: Value.int .i64 g :: Zz.post)).toArray
section
variable {Zz : QZ}
theorem qget_ (Zz : QZ) (iv qv : Value) (g : Int) (j : Nat) : (qCells Zz iv qv g)[34 + j]? = (iv :: qv :: Value.int .i64 g :: Zz.post)[j]? := by
  simp only [qCells, List.getElem?_toArray]
  rw [List.getElem?_append_right (by rw [Zz.h]; omega)]
  congr 1
  rw [Zz.h]
  omega
theorem qget0 (Zz : QZ) (iv qv : Value) (g : Int) : (qCells Zz iv qv g)[34]? = some iv := qget_ Zz iv qv g 0
theorem qget1 (Zz : QZ) (iv qv : Value) (g : Int) : (qCells Zz iv qv g)[35]? = some qv := qget_ Zz iv qv g 1
theorem qget2 (Zz : QZ) (iv qv : Value) (g : Int) : (qCells Zz iv qv g)[36]? = some (.int .i64 g) := qget_ Zz iv qv g 2
theorem qset_ (Zz : QZ) (l : List Value) (j : Nat) (u : Value) : (Zz.pre ++ l).toArray.setIfInBounds (34 + j) u = (Zz.pre ++ l.set j u).toArray := by
  simp only [List.setIfInBounds_toArray]
  congr 1
  rw [List.set_append_right _ _ (by rw [Zz.h]; omega)]
  congr 2
  rw [Zz.h]
  omega
theorem blk_q0 {w : World} {b t : Nat} {iv qv : Value} {g : Int} (h : w.heap[b]? = some (.cells (qCells Zz iv qv g) t (0, 0))) (u : Value) : (w.setCell ⟨b, 34, none⟩ u).heap[b]? = some (.cells (qCells Zz u qv g) t (0, 0)) := by
  have := blk_set h 34 u
  rw [show (qCells Zz iv qv g).setIfInBounds 34 u = qCells Zz u qv g from qset_ Zz _ 0 u] at this
  exact this
theorem blk_q1 {w : World} {b t : Nat} {iv qv : Value} {g : Int} (h : w.heap[b]? = some (.cells (qCells Zz iv qv g) t (0, 0))) (u : Value) : (w.setCell ⟨b, 35, none⟩ u).heap[b]? = some (.cells (qCells Zz iv u g) t (0, 0)) := by
  have := blk_set h 35 u
  rw [show (qCells Zz iv qv g).setIfInBounds 35 u = qCells Zz iv u g from qset_ Zz _ 1 u] at this
  exact this
theorem blk_q2 {w : World} {b t : Nat} {iv qv : Value} {g g' : Int} (h : w.heap[b]? = some (.cells (qCells Zz iv qv g) t (0, 0))) (u : Value) (hu : u = .int .i64 g' := by rfl) : (w.setCell ⟨b, 36, none⟩ u).heap[b]? = some (.cells (qCells Zz iv qv g') t (0, 0)) := by
  subst hu
  have := blk_set h 36 (.int .i64 g')
  rw [show (qCells Zz iv qv g).setIfInBounds 36 (.int .i64 g') = qCells Zz iv qv g' from qset_ Zz _ 2 _] at this
  exact this
end
/-- The queue at block b: items L in the row iv, works I in the row qv, the last number g. -/
structure QR (Zz : QZ) {α : Type} (E : Enc α) (T : QT) (F : Nat → Prop) (w : World) (b : Nat) (L : List α) (I : List WI) (g : Int) (iv qv : Value) : Prop where
  fb : ∀ i, F i → i < w.heap.size
  bF : F b
  blk : w.heap[b]? = some (.cells (qCells Zz iv qv (g)) T.tq (0, 0))
  it : FR E T.te w iv L
  wp : FR eWI T.tp w qv I
  iF : ∀ k, iv.ownBlock = some k → F k
  qF : ∀ k, qv.ownBlock = some k → F k
  wk : ∀ x ∈ I, F x.wb ∧ w.heap[x.wb]? = some (.cells #[.int .i64 x.n, x.v, .bool x.p] T.tw (0, 0)) ∧ ChRow w x.v x.l ∧ (∀ k, x.v.ownBlock = some k → F k)
  apart : I.Pairwise (fun x y => x.wb ≠ y.wb ∧ ∀ k, x.v.ownBlock = some k → y.v.ownBlock ≠ some k)
section
variable {Zz : QZ} {α : Type} {E : Enc α} {T : QT} {F F' : Nat → Prop} {w w' : World} {b : Nat} {L L' : List α} {I I' I1 I2 : List WI} {g g' : Int} {iv qv iv' qv' : Value}
theorem QR.fr {S : Nat → Prop} (h : QR Zz E T F w b L I g iv qv) (hf : Fr S w w') (hS : ∀ i, F i → ¬ S i) : QR Zz E T F w' b L I g iv qv where
  fb i hi := Nat.lt_of_lt_of_le (h.fb i hi) hf.size
  bF := h.bF
  blk := hf.at_ h.blk (hS _ h.bF)
  it := h.it.move (fun k hk => hf.block k (h.it.lt hk) (hS _ (h.iF k hk)))
  wp := h.wp.move (fun k hk => hf.block k (h.wp.lt hk) (hS _ (h.qF k hk)))
  iF := h.iF
  qF := h.qF
  wk x hx := ⟨(h.wk x hx).1, hf.at_ (h.wk x hx).2.1 (hS _ (h.wk x hx).1), (h.wk x hx).2.2.1.move (fun k hk => hf.block k ((h.wk x hx).2.2.1.lt hk) (hS _ ((h.wk x hx).2.2.2 k hk))), (h.wk x hx).2.2.2⟩
  apart := h.apart
theorem QR.below (h : QR Zz E T F w b L I g iv qv) (hb : Below w.heap.size w w') : QR Zz E T F w' b L I g iv qv := h.fr (Fr.of_below hb (Nat.le_refl _)) (fun _ _ q => q)
theorem QR.wb_ne (h : QR Zz E T F w b L I g iv qv) {x : WI} (hx : x ∈ I) : x.wb ≠ b ∧ iv.ownBlock ≠ some x.wb ∧ qv.ownBlock ≠ some x.wb := by
  have h1 := (h.wk x hx).2.1
  exact ⟨fun e => types_ne ⟨_, h1⟩ ⟨_, e ▸ h.blk⟩ T.ne.2.1.2.1.symm, fun e => types_ne (h.it.typed e) ⟨_, h1⟩ T.ne.1.2.2.1, fun e => types_ne (h.wp.typed e) ⟨_, h1⟩ T.ne.2.2.1.1⟩
theorem QR.row_ne (h : QR Zz E T F w b L I g iv qv) {x : WI} (hx : x ∈ I) {k : Nat} (hk : x.v.ownBlock = some k) : k ≠ b ∧ iv.ownBlock ≠ some k ∧ qv.ownBlock ≠ some k := by
  have h1 := (h.wk x hx).2.2.1.typed hk
  exact ⟨fun e => types_ne h1 ⟨_, e ▸ h.blk⟩ T.ne.2.1.2.2.symm, fun e => types_ne (h.it.typed e) h1 T.ne.1.2.2.2, fun e => types_ne (h.wp.typed e) h1 T.ne.2.2.1.2⟩
theorem QR.iv_ne (h : QR Zz E T F w b L I g iv qv) : iv.ownBlock ≠ some b ∧ qv.ownBlock ≠ some b ∧ ∀ k, iv.ownBlock = some k → qv.ownBlock ≠ some k :=
  ⟨fun e => types_ne (h.it.typed e) ⟨_, h.blk⟩ T.ne.1.1, fun e => types_ne (h.wp.typed e) ⟨_, h.blk⟩ T.ne.2.1.1.symm, fun k hk e => types_ne (h.it.typed hk) (h.wp.typed e) T.ne.1.2.1⟩
/-- What the queue itself holds may be turned: its block, its two rows. -/
def Own3 (b : Nat) (iv qv : Value) : Nat → Prop := fun i => i = b ∨ iv.ownBlock = some i ∨ qv.ownBlock = some i
theorem QR.own3 (h : QR Zz E T F w b L I g iv qv) : ∀ i, Own3 b iv qv i → F i := fun i hi => by
  rcases hi with q | q | q
  · rw [q]; exact h.bF
  · exact h.iF i q
  · exact h.qF i q
theorem QR.turn (h : QR Zz E T F w b L I g iv qv) (hf : Fr (Own3 b iv qv) w w') (hb : w'.heap[b]? = some (.cells (qCells Zz iv' qv' (g')) T.tq (0, 0)))
    (hi : FR E T.te w' iv' L') (hq : FR eWI T.tp w' qv' I') (hI : I'.Sublist I)
    (oi : ∀ j, iv'.ownBlock = some j → iv.ownBlock = some j ∨ w.heap.size ≤ j) (oq : ∀ j, qv'.ownBlock = some j → qv.ownBlock = some j ∨ w.heap.size ≤ j) :
    QR Zz E T (more F w w') w' b L' I' g' iv' qv' where
  fb := more_lt h.fb hf.size
  bF := .inl h.bF
  blk := hb
  it := hi
  wp := hq
  iF k hk := (oi k hk).elim (fun q => .inl (h.iF k q)) (fun q => .inr ⟨q, hi.lt hk⟩)
  qF k hk := (oq k hk).elim (fun q => .inl (h.qF k q)) (fun q => .inr ⟨q, hq.lt hk⟩)
  wk x hx := by
    have hxI := hI.subset hx
    have h1 := h.wk x hxI
    have h2 := h.wb_ne hxI
    refine ⟨.inl h1.1, hf.at_ h1.2.1 (fun q => ?_), h1.2.2.1.move (fun k hk => hf.block k (h1.2.2.1.lt hk) (fun q => ?_)), fun k hk => .inl (h1.2.2.2 k hk)⟩
    · rcases q with q | q | q
      · exact h2.1 q
      · exact h2.2.1 q
      · exact h2.2.2 q
    · have h3 := h.row_ne hxI hk
      rcases q with q | q | q
      · exact h3.1 q
      · exact h3.2.1 q
      · exact h3.2.2 q
  apart := h.apart.sublist hI
/-- A work is new. -/
theorem QR.addw (h : QR Zz E T F w b L I g iv qv) {y : WI} (hf : Fr (Own3 b iv qv) w w') (hb : w'.heap[b]? = some (.cells (qCells Zz iv qv' (g)) T.tq (0, 0)))
    (hi : FR E T.te w' iv L) (hq : FR eWI T.tp w' qv' (I ++ [y])) (hy : w'.heap[y.wb]? = some (.cells #[.int .i64 y.n, y.v, .bool y.p] T.tw (0, 0)))
    (hyw : w.heap.size ≤ y.wb) (hyr : ChRow w' y.v y.l) (hyo : ∀ k, y.v.ownBlock = some k → w.heap.size ≤ k)
    (oq : ∀ j, qv'.ownBlock = some j → qv.ownBlock = some j ∨ w.heap.size ≤ j) :
    QR Zz E T (more F w w') w' b L (I ++ [y]) g iv qv' where
  fb := more_lt h.fb hf.size
  bF := .inl h.bF
  blk := hb
  it := hi
  wp := hq
  iF k hk := .inl (h.iF k hk)
  qF k hk := (oq k hk).elim (fun q => .inl (h.qF k q)) (fun q => .inr ⟨q, hq.lt hk⟩)
  wk x hx := by
    rcases List.mem_append.1 hx with hxI | hx
    · have h1 := h.wk x hxI
      have h2 := h.wb_ne hxI
      refine ⟨.inl h1.1, hf.at_ h1.2.1 (fun q => ?_), h1.2.2.1.move (fun k hk => hf.block k (h1.2.2.1.lt hk) (fun q => ?_)), fun k hk => .inl (h1.2.2.2 k hk)⟩
      · rcases q with q | q | q
        · exact h2.1 q
        · exact h2.2.1 q
        · exact h2.2.2 q
      · have h3 := h.row_ne hxI hk
        rcases q with q | q | q
        · exact h3.1 q
        · exact h3.2.1 q
        · exact h3.2.2 q
    · obtain rfl := List.mem_singleton.1 hx
      exact ⟨.inr ⟨hyw, (Array.getElem?_eq_some_iff.1 hy).1⟩, hy, hyr, fun k hk => .inr ⟨hyo k hk, hyr.lt hk⟩⟩
  apart := by
    rw [List.pairwise_append]
    refine ⟨h.apart, List.pairwise_singleton _ _, fun x hx z hz => ?_⟩
    obtain rfl := List.mem_singleton.1 hz
    have h1 := h.wk x hx
    refine ⟨fun e => ?_, fun k hk e => ?_⟩
    · have := h.fb _ h1.1
      omega
    · have h2 := h1.2.2.1.lt hk
      have h3 := hyo k e
      omega
theorem FR.congr {β : Type} {E : Enc β} {e : Nat} {w : World} {v : Value} {l l' : List β} (h : FR E e w v l) (he : l.map E.f = l'.map E.f) : FR E e w v l' := by
  obtain ⟨h0, inner, ho, hr⟩ := h
  have hl : l.length = l'.length := by simpa using congrArg List.length he
  rw [hl] at ho
  refine ⟨h0, inner, ho, by rw [← hl]; exact hr.1, fun i x hx => ?_⟩
  have h1 : (l.map E.f)[i]? = some (E.f x) := by rw [he, List.getElem?_map, hx]; rfl
  rw [List.getElem?_map] at h1
  cases hy : l[i]? with
  | none => rw [hy] at h1; cases h1
  | some y =>
    rw [hy] at h1
    have h2 : E.f y = E.f x := by simpa using h1
    have h3 := hr.2 i y hy
    have h4 : (inner.drop (i * E.sz)).take E.sz = E.f y := h3
    show (inner.drop (i * E.sz)).take E.sz = E.f x
    rw [h4, h2]
/-- A work's block and row are turned. -/
theorem QR.work {x : WI} {v' : Value} {l' : List Ch} {p' : Bool} (h : QR Zz E T F w b L (I1 ++ x :: I2) g iv qv) (hf : Fr (fun i => i = x.wb ∨ x.v.ownBlock = some i) w w')
    (hb : w'.heap[x.wb]? = some (.cells #[.int .i64 x.n, v', .bool p'] T.tw (0, 0))) (hr : ChRow w' v' l') (hv : v'.ownBlock = x.v.ownBlock ∨ ∃ b, v'.ownBlock = some b ∧ w.heap.size ≤ b) :
    QR Zz E T (more F w w') w' b L (I1 ++ ⟨x.n, x.wb, v', l', p'⟩ :: I2) g iv qv := by
  have hxm : x ∈ I1 ++ x :: I2 := by simp
  have hx := h.wk x hxm
  have hxn := h.wb_ne hxm
  have hno : ∀ k t, (∃ cells, w.heap[k]? = some (.cells cells t (0, 0))) → t ≠ T.tw → t ≠ 62 → ¬ (k = x.wb ∨ x.v.ownBlock = some k) := by
    intro k t hk h1 h2 q
    rcases q with q | q
    · subst q; exact types_ne hk ⟨_, hx.2.1⟩ h1
    · exact types_ne hk (hx.2.2.1.typed q) h2
  have hap := h.apart
  rw [List.pairwise_append] at hap
  obtain ⟨ha1, ha2, ha3⟩ := hap
  rw [List.pairwise_cons] at ha2
  have hvF : ∀ k, v'.ownBlock = some k → more F w w' k := by
    intro k hk
    rcases hv with q | ⟨b, q, hb'⟩
    · exact .inl (hx.2.2.2 k (q ▸ hk))
    · rw [hk] at q; cases q; exact .inr ⟨hb', hr.lt hk⟩
  have hoth : ∀ y ∈ I1 ++ x :: I2, y.wb ≠ x.wb → (∀ k, y.v.ownBlock = some k → x.v.ownBlock ≠ some k) → more F w w' y.wb ∧ w'.heap[y.wb]? = some (.cells #[.int .i64 y.n, y.v, .bool y.p] T.tw (0, 0)) ∧ ChRow w' y.v y.l ∧ (∀ k, y.v.ownBlock = some k → more F w w' k) := by
    intro y hy h1 h2
    have hyk := h.wk y hy
    refine ⟨.inl hyk.1, hf.at_ hyk.2.1 (fun q => q.elim h1 (fun q => types_ne (hx.2.2.1.typed q) ⟨_, hyk.2.1⟩ T.ne.2.2.2.symm)), hyk.2.2.1.move (fun k hk => hf.block k (hyk.2.2.1.lt hk) (fun q => ?_)), fun k hk => .inl (hyk.2.2.2 k hk)⟩
    rcases q with q | q
    · subst q; exact types_ne (hyk.2.2.1.typed hk) ⟨_, hx.2.1⟩ T.ne.2.2.2.symm
    · exact h2 k hk q
  refine ⟨more_lt h.fb hf.size, .inl h.bF, hf.at_ h.blk (hno _ _ ⟨_, h.blk⟩ T.ne.2.1.2.1 T.ne.2.1.2.2), h.it.move (fun k hk => hf.block k (h.it.lt hk) (hno _ _ (h.it.typed hk) T.ne.1.2.2.1 T.ne.1.2.2.2)), ?_, fun k hk => .inl (h.iF k hk), fun k hk => .inl (h.qF k hk), ?_, ?_⟩
  · exact FR.congr (h.wp.move (fun k hk => hf.block k (h.wp.lt hk) (hno _ _ (h.wp.typed hk) T.ne.2.2.1.1 T.ne.2.2.1.2))) (by simp [eWI])
  · intro y hy
    rcases List.mem_append.1 hy with hy | hy
    · have h1 := ha3 y hy x (by simp)
      exact hoth y (by simp [hy]) h1.1 (fun k hk q => h1.2 k hk q)
    · rcases List.mem_cons.1 hy with rfl | hy
      · exact ⟨.inl hx.1, hb, hr, hvF⟩
      · have h1 := ha2.1 y hy
        exact hoth y (by simp [hy]) (fun q => h1.1 q.symm) (fun k hk q => h1.2 k q hk)
  · have hnew : ∀ y ∈ I1 ++ x :: I2, (∀ k, y.v.ownBlock = some k → x.v.ownBlock ≠ some k) → ∀ k, y.v.ownBlock = some k → v'.ownBlock ≠ some k := by
      intro y hy h2 k hk q
      have hyk := h.wk y hy
      rcases hv with e | ⟨b, e, hb'⟩
      · exact h2 k hk (e ▸ q)
      · rw [q] at e; cases e
        have := hyk.2.2.1.lt hk
        omega
    rw [List.pairwise_append]
    refine ⟨ha1, ?_, ?_⟩
    · rw [List.pairwise_cons]
      refine ⟨fun y hy => ⟨(ha2.1 y hy).1, fun k hk q => ?_⟩, ha2.2⟩
      exact hnew y (by simp [hy]) (fun j hj e => (ha2.1 y hy).2 j e hj) k q hk
    · intro y hy z hz
      rcases List.mem_cons.1 hz with rfl | hz
      · have h1 := ha3 y hy x (by simp)
        exact ⟨h1.1, fun k hk => hnew y (by simp [hy]) h1.2 k hk⟩
      · exact ha3 y hy z (by simp [hz])
end
def wsOf (I : List WI) : List (Int × KW) := I.map (fun x => (x.n, (⟨x.l, x.p⟩ : KW)))
theorem aget_ws (n : Int) (I : List WI) : aget n (wsOf I) = (I.find? (fun x => decide (x.n = n))).map (fun x => (⟨x.l, x.p⟩ : KW)) := by
  unfold aget wsOf
  rw [List.find?_map]
  simp only [Option.map_map]
  rfl
theorem adel_wsOf (n : Int) (I : List WI) : adel n (wsOf I) = wsOf (I.filter (fun x => !(x.n == n))) := by
  unfold adel wsOf
  rw [List.filter_map]
  congr 1
  apply List.filter_congr
  intro x _
  by_cases h : x.n = n <;> simp [h]
theorem find_split {I : List WI} {n : Int} {x : WI} (h : I.find? (fun x => decide (x.n = n)) = some x) : ∃ J1 J2, I = J1 ++ x :: J2 ∧ x.n = n ∧ ∀ y ∈ J1, y.n ≠ n := by
  rw [List.find?_eq_some_iff_append] at h
  obtain ⟨h1, J1, J2, e, hn⟩ := h
  exact ⟨J1, J2, e, by simpa using h1, fun y hy => by simpa using hn y hy⟩
theorem aput_ws {n : Int} {ws : List (Int × KW)} (hk : ws.Pairwise (fun x y => x.1 ≠ y.1)) {J1 J2 : List WI} {x : WI} (hw : ws = wsOf (J1 ++ x :: J2)) (hx : x.n = n) (v : Value) (l : List Ch) (p : Bool) : aput n ⟨l, p⟩ ws = wsOf (J1 ++ ⟨x.n, x.wb, v, l, p⟩ :: J2) := by
  have hmem : (n, (⟨x.l, x.p⟩ : KW)) ∈ ws := by rw [hw]; simp [wsOf, ← hx]
  have hg : (aget n ws).isSome = true := by
    cases hq : aget n ws with
    | some _ => rfl
    | none => exact absurd rfl (aget_none.1 hq _ hmem)
  unfold aput
  rw [if_pos hg, hw]
  rw [hw] at hk
  unfold wsOf at hk ⊢
  rw [List.map_append, List.map_append, List.map_cons, List.map_append, List.map_cons, List.map_cons]
  rw [List.map_append, List.map_cons, List.pairwise_append] at hk
  obtain ⟨_, h2, h3⟩ := hk
  rw [List.pairwise_cons] at h2
  congr 1
  · rw [List.map_map]
    apply List.map_congr_left
    intro y hy
    have := h3 (y.n, ⟨y.l, y.p⟩) (List.mem_map.2 ⟨y, hy, rfl⟩) (x.n, ⟨x.l, x.p⟩) (by simp)
    simp only [Function.comp_apply]
    rw [if_neg (by rw [← hx]; exact this)]
  · congr 1
    · rw [if_pos hx]
    · rw [List.map_map]
      apply List.map_congr_left
      intro y hy
      have := h2.1 (y.n, ⟨y.l, y.p⟩) (List.mem_map.2 ⟨y, hy, rfl⟩)
      simp only [Function.comp_apply]
      rw [if_neg (by rw [← hx]; exact fun e => this e.symm)]
end Go.Proofs.Ytdejbinmnoabeaa.Q
