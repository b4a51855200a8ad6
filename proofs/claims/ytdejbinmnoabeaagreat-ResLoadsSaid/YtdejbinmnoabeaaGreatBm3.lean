/- Texts of this seat, put together: KvM, KvW0, KvW1, KvW2. -/
import Derived.Test.YtdejbinmnoabeaaGreatBm1
import Derived.Test.YtdejbinmnoabeaaGreatBm0
import Derived.Test.YtdejbinmnoabeaaGreatBm2
namespace Go.Proofs.YtdejbinmnoabeaaGreat.K
variable {Pz : List Value}
open Go.RowKit Go.Mine Go.Proofs.YtdejbinmnoabeaaGreatW.PrintWords
open Go.ChangeMaps (setBlock)
set_option linter.unusedVariables false
set_option linter.unusedSimpArgs false
def encCh (c : Ch) : List Value := [.int .i64 c.kind, .int .i64 c.key, .int .u64 c.val]
def kch : Kd Ch where
  sz := 3
  E := []
  K := fun _ x cs => cs = encCh x
  M := fun _ _ _ x cs => cs = encCh x
  K_len := fun h => by rw [h]; rfl
  K_one := fun h u hu => by rw [h] at hu; simp [encCh] at hu; rcases hu with rfl | rfl | rfl <;> rfl
  K_below := fun _ h => h
  K_of_M := fun h => h
  M_mono := fun _ h => h
  M_bound := fun h => h
  M_move := fun _ h => h
  M_lower := fun _ h => h
abbrev ChRow (w : World) (v : Value) (l : List Ch) : Prop := kch.R 90 w 0 (fun _ => True) v l
theorem ChRow.move {w w1 : World} {v : Value} {l : List Ch} (h : ChRow w v l) (hm : ∀ k, v.ownBlock = some k → w1.heap[k]? = w.heap[k]?) : ChRow w1 v l := by
  obtain ⟨h0, inner, ho, hr⟩ := h
  exact ⟨h0, inner, own_move ho hm, hr⟩
theorem ChRow.typed {w : World} {v : Value} {l : List Ch} (h : ChRow w v l) (k : Nat) (hk : v.ownBlock = some k) : ∃ cells, w.heap[k]? = some (.cells cells 90 (0, 0)) := by
  obtain ⟨h0, inner, ho, hr⟩ := h
  exact own_typed ho k hk
theorem ChRow.lt {w : World} {v : Value} {l : List Ch} (h : ChRow w v l) (k : Nat) (hk : v.ownBlock = some k) : k < w.heap.size := by
  obtain ⟨cells, hc⟩ := h.typed k hk
  exact (Array.getElem?_eq_some_iff.1 hc).1
theorem ChRow.none_ (w : World) : ChRow w (.slice none 0 0) [] := Kd.R_nil _ _ _ _ _
abbrev ptrV (b : Nat) : Value := .pointer (some ⟨b, 0, none⟩)
structure WI where
  n : Int
  wb : Nat
  v : Value
  l : List Ch
  p : Bool
def storeCells (Pz : List Value) (vs : List Int) (th : List Bool) (mo lo : Option Nat) : Array Value := (vs.map (Value.int .u64) ++ (th.map Value.bool ++ (Value.map mo :: Value.map lo :: Pz))).toArray
theorem sc_r {vs : List Int} {th : List Bool} (h1 : vs.length = 16) (h2 : th.length = 16) (mo lo : Option Nat) (j : Nat) : (storeCells Pz vs th mo lo)[32 + j]? = (Value.map mo :: Value.map lo :: Pz)[j]? := by
  simp only [storeCells, List.getElem?_toArray]
  rw [List.getElem?_append_right (by simp [h1]; omega), List.getElem?_append_right (by simp [h1, h2]; omega)]
  congr 1
  simp [h1, h2]
  omega
theorem sc32 {vs : List Int} {th : List Bool} (h1 : vs.length = 16) (h2 : th.length = 16) (mo lo : Option Nat) : (storeCells Pz vs th mo lo)[32]? = some (.map mo) := sc_r h1 h2 mo lo 0
theorem sc33 {vs : List Int} {th : List Bool} (h1 : vs.length = 16) (h2 : th.length = 16) (mo lo : Option Nat) : (storeCells Pz vs th mo lo)[33]? = some (.map lo) := sc_r h1 h2 mo lo 1
theorem scv {vs : List Int} {th : List Bool} (h1 : vs.length = 16) (h2 : th.length = 16) (mo lo : Option Nat) (k : Nat) (hk : k < 16) : (storeCells Pz vs th mo lo)[k]? = some (.int .u64 (vs.getD k 0)) := by
  simp only [storeCells, List.getElem?_toArray]
  rw [List.getElem?_append_left (by simp [h1]; omega)]
  simp [List.getD_eq_getElem?_getD, h1, hk]
theorem sct {vs : List Int} {th : List Bool} (h1 : vs.length = 16) (h2 : th.length = 16) (mo lo : Option Nat) (k : Nat) (hk : k < 16) : (storeCells Pz vs th mo lo)[16 + k]? = some (.bool (th.getD k false)) := by
  simp only [storeCells, List.getElem?_toArray]
  rw [List.getElem?_append_right (by simp [h1]), List.getElem?_append_left (by simp [h1, h2]; omega)]
  simp [List.getD_eq_getElem?_getD, h1, h2, hk]
theorem set32 {vs : List Int} {th : List Bool} (h1 : vs.length = 16) (h2 : th.length = 16) (mo mo' lo : Option Nat) : (storeCells Pz vs th mo lo).setIfInBounds 32 (.map mo') = storeCells Pz vs th mo' lo := by
  simp only [storeCells, List.setIfInBounds_toArray]
  congr 1
  rw [List.set_append_right _ _ (by simp [h1]), List.set_append_right _ _ (by simp [h1, h2])]
  simp [h1, h2]
theorem set33 {vs : List Int} {th : List Bool} (h1 : vs.length = 16) (h2 : th.length = 16) (mo lo lo' : Option Nat) : (storeCells Pz vs th mo lo).setIfInBounds 33 (.map lo') = storeCells Pz vs th mo lo' := by
  simp only [storeCells, List.setIfInBounds_toArray]
  congr 1
  rw [List.set_append_right _ _ (by simp [h1]), List.set_append_right _ _ (by simp [h1, h2])]
  simp [h1, h2]
theorem setv {vs : List Int} {th : List Bool} (h1 : vs.length = 16) (h2 : th.length = 16) (mo lo : Option Nat) (k : Nat) (hk : k < 16) (x : Int) : (storeCells Pz vs th mo lo).setIfInBounds k (.int .u64 x) = storeCells Pz (vs.set k x) th mo lo := by
  simp only [storeCells, List.setIfInBounds_toArray]
  congr 1
  rw [List.set_append_left _ _ (by simp [h1]; omega), List.map_set]
theorem sett {vs : List Int} {th : List Bool} (h1 : vs.length = 16) (h2 : th.length = 16) (mo lo : Option Nat) (k : Nat) (hk : k < 16) (x : Bool) : (storeCells Pz vs th mo lo).setIfInBounds (16 + k) (.bool x) = storeCells Pz vs (th.set k x) mo lo := by
  simp only [storeCells, List.setIfInBounds_toArray]
  congr 1
  rw [List.set_append_right _ _ (by simp [h1]), List.set_append_left _ _ (by simp [h1, h2]; omega), List.map_set]
  simp [h1]
structure KvR (Pz : List Value) (F : Nat → Prop) (w : World) (b0 : Nat) (vs : List Int) (th : List Bool) (lk : LTab) (I : List WI) (L : List (Int × Nat × Nat)) (mo lo : Option Nat) : Prop where
  fb : ∀ i, F i → i < w.heap.size
  b : F b0
  lv : vs.length = 16
  lth : th.length = 16
  blk : w.heap[b0]? = some (.cells (storeCells Pz vs th mo lo) 82 (0, 0))
  map : MapO (Value.int .i64) ptrV w mo L
  kvL : kv L = I.map (fun x => (x.n, x.wb))
  mF : ∀ b, mo = some b → F b
  wk : ∀ x ∈ I, F x.wb ∧ w.heap[x.wb]? = some (.cells #[x.v, .bool x.p] 133 (0, 0)) ∧ ChRow w x.v x.l ∧ (∀ k, x.v.ownBlock = some k → F k)
  apart : I.Pairwise (fun x y => x.wb ≠ y.wb ∧ ∀ k, x.v.ownBlock = some k → y.v.ownBlock ≠ some k)
  lt : TabA w b0 33 (storeCells Pz vs th mo lo) 82 (fun i => lo = some i) lk
  lF : ∀ b, lo = some b → F b
  ml : ∀ b, mo = some b → lo ≠ some b
section
variable {F F' : Nat → Prop} {w w' : World} {b0 : Nat} {vs vs' : List Int} {th th' : List Bool} {lk lk' : LTab} {I : List WI} {L L' : List (Int × Nat × Nat)} {mo mo' lo lo' : Option Nat}
theorem MapO.obj {mo : Option Nat} {L : List (Int × Nat × Nat)} {w : World} (h : MapO (Value.int .i64) ptrV w mo L) (b : Nat) (hb : mo = some b) : ∃ a c, w.heap[b]? = some (.map a c) := by
  subst hb
  obtain ⟨c, h⟩ := h
  exact ⟨_, _, h.heap⟩
theorem KvR.loObj (h : KvR Pz F w b0 vs th lk I L mo lo) (b : Nat) (hb : lo = some b) : ∃ a c, w.heap[b]? = some (.map a c) := by
  obtain ⟨L2, _, ⟨mo2, h1, h2, h3, h4⟩⟩ := h.lt
  rw [sc33 h.lv h.lth] at h2
  cases h2
  subst hb
  obtain ⟨c, h3⟩ := h3
  exact ⟨_, _, h3.heap⟩
theorem KvR.wb_ne (h : KvR Pz F w b0 vs th lk I L mo lo) {x : WI} (hx : x ∈ I) : x.wb ≠ b0 ∧ mo ≠ some x.wb ∧ lo ≠ some x.wb := by
  have h1 := (h.wk x hx).2.1
  refine ⟨fun e => ?_, fun e => ?_, fun e => ?_⟩
  · rw [e, h.blk] at h1; simp at h1
  · obtain ⟨a, c, h2⟩ := MapO.obj h.map _ e; rw [h1] at h2; cases h2
  · obtain ⟨a, c, h2⟩ := h.loObj _ e; rw [h1] at h2; cases h2
theorem KvR.row_ne (h : KvR Pz F w b0 vs th lk I L mo lo) {x : WI} (hx : x ∈ I) {k : Nat} (hk : x.v.ownBlock = some k) : k ≠ b0 ∧ mo ≠ some k ∧ lo ≠ some k ∧ ∀ y ∈ I, y.wb ≠ k := by
  obtain ⟨cells, h1⟩ := (h.wk x hx).2.2.1.typed k hk
  refine ⟨fun e => ?_, fun e => ?_, fun e => ?_, fun y hy e => ?_⟩
  · rw [e, h.blk] at h1; simp at h1
  · obtain ⟨a, c, h2⟩ := MapO.obj h.map _ e; rw [h1] at h2; cases h2
  · obtain ⟨a, c, h2⟩ := h.loObj _ e; rw [h1] at h2; cases h2
  · have h2 := (h.wk y hy).2.1; rw [e, h1] at h2; simp at h2
theorem KvR.mo_ne (h : KvR Pz F w b0 vs th lk I L mo lo) : mo ≠ some b0 ∧ lo ≠ some b0 := by
  refine ⟨fun e => ?_, fun e => ?_⟩
  · obtain ⟨a, c, h2⟩ := MapO.obj h.map _ e; rw [h.blk] at h2; cases h2
  · obtain ⟨a, c, h2⟩ := h.loObj _ e; rw [h.blk] at h2; cases h2
theorem wk_fr {S : Nat → Prop} {x : WI} (hf : Fr S w w') (h : F x.wb ∧ w.heap[x.wb]? = some (.cells #[x.v, .bool x.p] 133 (0, 0)) ∧ ChRow w x.v x.l ∧ (∀ k, x.v.ownBlock = some k → F k))
    (h1 : ¬ S x.wb) (h2 : ∀ k, x.v.ownBlock = some k → ¬ S k) (hF : ∀ i, F i → F' i) : F' x.wb ∧ w'.heap[x.wb]? = some (.cells #[x.v, .bool x.p] 133 (0, 0)) ∧ ChRow w' x.v x.l ∧ (∀ k, x.v.ownBlock = some k → F' k) :=
  ⟨hF _ h.1, hf.at_ h.2.1 h1, h.2.2.1.move (fun k hk => hf.block k (h.2.2.1.lt k hk) (h2 k hk)), fun k hk => hF _ (h.2.2.2 k hk)⟩
theorem KvR.fr {S : Nat → Prop} (h : KvR Pz F w b0 vs th lk I L mo lo) (hf : Fr S w w') (hS : ∀ i, F i → ¬ S i) : KvR Pz F w' b0 vs th lk I L mo lo where
  fb i hi := Nat.lt_of_lt_of_le (h.fb i hi) hf.size
  b := h.b
  lv := h.lv
  lth := h.lth
  blk := hf.at_ h.blk (hS _ h.b)
  map := h.map.fr hf (fun b hb => hS _ (h.mF b hb))
  kvL := h.kvL
  mF := h.mF
  wk x hx := wk_fr hf (h.wk x hx) (hS _ (h.wk x hx).1) (fun k hk => hS _ ((h.wk x hx).2.2.2 k hk)) (fun _ q => q)
  apart := h.apart
  lt := h.lt.fr hf (hS _ h.b) (fun i hi => hS _ (h.lF i hi))
  lF := h.lF
  ml := h.ml
theorem KvR.sub (h : KvR Pz F w b0 vs th lk I L mo lo) (hF : ∀ i, F i → F' i) (hb : ∀ i, F' i → i < w.heap.size) : KvR Pz F' w b0 vs th lk I L mo lo where
  fb := hb
  b := hF _ h.b
  lv := h.lv
  lth := h.lth
  blk := h.blk
  map := h.map
  kvL := h.kvL
  mF b q := hF _ (h.mF b q)
  wk x hx := ⟨hF _ (h.wk x hx).1, (h.wk x hx).2.1, (h.wk x hx).2.2.1, fun k hk => hF _ ((h.wk x hx).2.2.2 k hk)⟩
  apart := h.apart
  lt := h.lt
  lF b q := hF _ (h.lF b q)
  ml := h.ml
def Grew (F F' : Nat → Prop) (w : World) : Prop := ∀ i, F' i → F i ∨ w.heap.size ≤ i
theorem Grew.refl (F : Nat → Prop) (w : World) : Grew F F w := fun _ h => .inl h
theorem Grew.trans {F'' : Nat → Prop} (h : Grew F F' w) (k : Grew F' F'' w') (hs : w.heap.size ≤ w'.heap.size) : Grew F F'' w := fun i hi => (k i hi).elim (h i) (fun q => .inr (Nat.le_trans hs q))
abbrev more (F : Nat → Prop) (w w' : World) : Nat → Prop := fun i => F i ∨ (w.heap.size ≤ i ∧ i < w'.heap.size)
theorem grew_more (F : Nat → Prop) (w w' : World) : Grew F (more F w w') w := fun i h => h.elim .inl (fun q => .inr q.1)
theorem more_lt (hb : ∀ i, F i → i < w.heap.size) (hs : w.heap.size ≤ w'.heap.size) : ∀ i, more F w w' i → i < w'.heap.size := fun i h => h.elim (fun q => Nat.lt_of_lt_of_le (hb i q) hs) (fun q => q.2)
theorem KvR.locks (h : KvR Pz F w b0 vs th lk I L mo lo) (ht : ∃ lo', TabA w' b0 33 ((storeCells Pz vs th mo lo).setIfInBounds 33 (.map lo')) 82 (grow (fun i => lo = some i) w) lk') (hf : Fr (fun i => i = b0 ∨ lo = some i) w w') :
    ∃ lo', KvR Pz (more F w w') w' b0 vs th lk' I L mo lo' := by
  obtain ⟨lo', ht⟩ := ht
  rw [set33 h.lv h.lth] at ht
  obtain ⟨L2, h0, ⟨mo2, h1, h2, h3, h4⟩⟩ := ht
  rw [sc33 h.lv h.lth] at h2
  cases h2
  have hlt : ∀ b, lo' = some b → b < w'.heap.size := by
    intro b hb
    subst hb
    obtain ⟨c, h3⟩ := h3
    exact h3.lt
  have hm := h.mo_ne
  refine ⟨lo', ⟨more_lt h.fb hf.size, .inl h.b, h.lv, h.lth, h1, h.map.fr hf (fun b hb q => ?_), h.kvL, fun b hb => .inl (h.mF b hb), fun x hx => ?_, h.apart, ⟨L2, h0, ⟨lo', h1, sc33 h.lv h.lth _ _, h3, fun b hb => hb⟩⟩, fun b hb => ?_, fun b hb q => ?_⟩⟩
  · rcases q with q | q
    · exact hm.1 (q ▸ hb)
    · exact h.ml b hb q
  · have h5 := h.wb_ne hx
    refine wk_fr hf (h.wk x hx) (fun q => q.elim h5.1 h5.2.2) (fun k hk q => ?_) (fun _ q => .inl q)
    have h6 := h.row_ne hx hk
    exact q.elim h6.1 h6.2.2.1
  · rcases h4 b hb with q | q
    · exact .inl (h.lF b q)
    · exact .inr ⟨q, hlt b hb⟩
  · rcases h4 b q with q' | q'
    · exact h.ml b hb q'
    · have := h.fb b (h.mF b hb); omega
theorem KvR.locks' (h : KvR Pz F w b0 vs th lk I L mo lo) (ht : TabA w' b0 33 (storeCells Pz vs th mo lo) 82 (fun i => lo = some i) lk') (hf : Fr (fun i => lo = some i) w w') : KvR Pz F w' b0 vs th lk' I L mo lo where
  fb i hi := Nat.lt_of_lt_of_le (h.fb i hi) hf.size
  b := h.b
  lv := h.lv
  lth := h.lth
  blk := hf.at_ h.blk h.mo_ne.2
  map := h.map.fr hf (fun b hb q => h.ml b hb q)
  kvL := h.kvL
  mF := h.mF
  wk x hx := wk_fr hf (h.wk x hx) (h.wb_ne hx).2.2 (fun k hk => (h.row_ne hx hk).2.2.1) (fun _ q => q)
  apart := h.apart
  lt := ht
  lF := h.lF
  ml := h.ml
theorem KvR.works (h : KvR Pz F w b0 vs th lk I L mo lo) {I' : List WI} (hb : w'.heap[b0]? = some (.cells (storeCells Pz vs th mo' lo) 82 (0, 0))) (hm : MapO (Value.int .i64) ptrV w' mo' L') (hmo : mo' = mo ∨ ∀ b, mo' = some b → w.heap.size ≤ b)
    (hf : Fr (fun i => i = b0 ∨ mo = some i) w w') (hk : kv L' = I'.map (fun x => (x.n, x.wb))) (hI : ∀ x ∈ I', x ∈ I) (hp : I'.Pairwise (fun x y => x.wb ≠ y.wb ∧ ∀ k, x.v.ownBlock = some k → y.v.ownBlock ≠ some k)) :
    KvR Pz (more F w w') w' b0 vs th lk I' L' mo' lo := by
  have hlt : ∀ b, mo' = some b → b < w'.heap.size := by
    intro b hb
    subst hb
    obtain ⟨c, h3⟩ := hm
    exact h3.lt
  have hn := h.mo_ne
  refine ⟨more_lt h.fb hf.size, .inl h.b, h.lv, h.lth, hb, hm, hk, fun b q => ?_, fun x hx => ?_, hp, ?_, fun b q => .inl (h.lF b q), fun b q q' => ?_⟩
  · rcases hmo with e | e
    · exact .inl (h.mF b (e ▸ q))
    · exact .inr ⟨e b q, hlt b q⟩
  · have h5 := h.wb_ne (hI x hx)
    refine wk_fr hf (h.wk x (hI x hx)) (fun q => q.elim h5.1 h5.2.1) (fun k hk q => ?_) (fun _ q => .inl q)
    have h6 := h.row_ne (hI x hx) hk
    exact q.elim h6.1 h6.2.1
  · obtain ⟨L2, h0, ⟨mo2, h1, h2, h3, h4⟩⟩ := h.lt
    rw [sc33 h.lv h.lth] at h2
    cases h2
    refine ⟨L2, h0, ⟨lo, hb, sc33 h.lv h.lth _ _, h3.fr hf (fun b hb q => ?_), fun b hb => hb⟩⟩
    rcases q with q | q
    · exact hn.2 (q ▸ hb)
    · exact h.ml b q hb
  · rcases hmo with e | e
    · exact h.ml b (e ▸ q) q'
    · have := h.fb b (h.lF b q'); have := e b q; omega
theorem KvR.cons_ne (h : KvR Pz F w b0 vs th lk I L mo lo) : ∀ x ∈ I, x.wb < w.heap.size ∧ ∀ k, x.v.ownBlock = some k → k < w.heap.size :=
  fun x hx => ⟨h.fb _ (h.wk x hx).1, fun k hk => h.fb _ ((h.wk x hx).2.2.2 k hk)⟩
theorem KvR.add (h : KvR Pz F w b0 vs th lk I L mo lo) {x : WI} (hb : w'.heap[b0]? = some (.cells (storeCells Pz vs th mo' lo) 82 (0, 0))) (hm : MapO (Value.int .i64) ptrV w' mo' L') (hmo : mo' = mo ∨ ∀ b, mo' = some b → w.heap.size ≤ b)
    (hf : Fr (fun i => i = b0 ∨ mo = some i) w w') (hk : kv L' = (I ++ [x]).map (fun x => (x.n, x.wb)))
    (hx1 : w.heap.size ≤ x.wb) (hx2 : ∀ k, x.v.ownBlock = some k → w.heap.size ≤ k) (hx3 : w'.heap[x.wb]? = some (.cells #[x.v, .bool x.p] 133 (0, 0))) (hx4 : ChRow w' x.v x.l) :
    KvR Pz (more F w w') w' b0 vs th lk (I ++ [x]) L' mo' lo := by
  have hlt : ∀ b, mo' = some b → b < w'.heap.size := by
    intro b hb
    subst hb
    obtain ⟨c, h3⟩ := hm
    exact h3.lt
  have hn := h.mo_ne
  refine ⟨more_lt h.fb hf.size, .inl h.b, h.lv, h.lth, hb, hm, hk, fun b q => ?_, fun y hy => ?_, ?_, ?_, fun b q => .inl (h.lF b q), fun b q q' => ?_⟩
  · rcases hmo with e | e
    · exact .inl (h.mF b (e ▸ q))
    · exact .inr ⟨e b q, hlt b q⟩
  · rcases List.mem_append.1 hy with hy | hy
    · have h5 := h.wb_ne hy
      refine wk_fr hf (h.wk y hy) (fun q => q.elim h5.1 h5.2.1) (fun k hk q => ?_) (fun _ q => .inl q)
      have h6 := h.row_ne hy hk
      exact q.elim h6.1 h6.2.1
    · obtain rfl := List.mem_singleton.1 hy
      exact ⟨.inr ⟨hx1, (Array.getElem?_eq_some_iff.1 hx3).1⟩, hx3, hx4, fun k hk => .inr ⟨hx2 k hk, hx4.lt k hk⟩⟩
  · rw [List.pairwise_append]
    refine ⟨h.apart, by simp, fun y hy z hz => ?_⟩
    obtain rfl := List.mem_singleton.1 hz
    have h6 := h.cons_ne y hy
    refine ⟨fun e => ?_, fun k hk e => ?_⟩
    · have := h6.1; omega
    · have := h6.2 k hk; have := hx2 k e; omega
  · obtain ⟨L2, h0, ⟨mo2, h1, h2, h3, h4⟩⟩ := h.lt
    rw [sc33 h.lv h.lth] at h2
    cases h2
    refine ⟨L2, h0, ⟨lo, hb, sc33 h.lv h.lth _ _, h3.fr hf (fun b hb q => ?_), fun b hb => hb⟩⟩
    rcases q with q | q
    · exact hn.2 (q ▸ hb)
    · exact h.ml b q hb
  · rcases hmo with e | e
    · exact h.ml b (e ▸ q) q'
    · have := h.fb b (h.lF b q'); have := e b q; omega
theorem KvR.work {I1 I2 : List WI} {x : WI} (h : KvR Pz F w b0 vs th lk (I1 ++ x :: I2) L mo lo) {v' : Value} {l' : List Ch} {p' : Bool} (hf : Fr (fun i => i = x.wb ∨ x.v.ownBlock = some i) w w') (hb : w'.heap[x.wb]? = some (.cells #[v', .bool p'] 133 (0, 0)))
    (hr : ChRow w' v' l') (hv : v'.ownBlock = x.v.ownBlock ∨ ∃ b, v'.ownBlock = some b ∧ w.heap.size ≤ b) : KvR Pz (more F w w') w' b0 vs th lk (I1 ++ ⟨x.n, x.wb, v', l', p'⟩ :: I2) L mo lo := by
  have hxI : x ∈ I1 ++ x :: I2 := by simp
  have hx := h.wk x hxI
  have hap := h.apart
  rw [List.pairwise_append, List.pairwise_cons] at hap
  obtain ⟨a1, ⟨a2, a3⟩, a4⟩ := hap
  have hoth : ∀ y, y ∈ I1 ∨ y ∈ I2 → y.wb ≠ x.wb ∧ (∀ k, y.v.ownBlock = some k → x.v.ownBlock ≠ some k) := by
    intro y hy
    rcases hy with hy | hy
    · exact ⟨(a4 y hy x (by simp)).1, (a4 y hy x (by simp)).2⟩
    · exact ⟨fun e => (a2 y hy).1 e.symm, fun k hk e => (a2 y hy).2 k e hk⟩
  have hmem : ∀ y, y ∈ I1 ∨ y ∈ I2 → y ∈ I1 ++ x :: I2 := by
    intro y hy
    rcases hy with hy | hy <;> simp [hy]
  have hnew : ∀ y, y ∈ I1 ∨ y ∈ I2 → ∀ k, v'.ownBlock = some k → y.v.ownBlock ≠ some k := by
    intro y hy k hk e
    rcases hv with hv | ⟨b, hv, hle⟩
    · exact (hoth y hy).2 k e (hv ▸ hk)
    · rw [hv] at hk; cases hk
      have := (h.cons_ne y (hmem y hy)).2 _ e; omega
  have w1 := h.wb_ne hxI
  refine ⟨more_lt h.fb hf.size, .inl h.b, h.lv, h.lth, hf.at_ h.blk ?_, h.map.fr hf ?_, by rw [h.kvL]; simp, fun b q => .inl (h.mF b q), ?_, ?_, h.lt.fr hf ?_ ?_, fun b q => .inl (h.lF b q), h.ml⟩
  · rintro (e | e)
    · exact w1.1 e.symm
    · exact (h.row_ne hxI e).1 rfl
  · rintro b hb (e | e)
    · exact w1.2.1 (e ▸ hb)
    · exact (h.row_ne hxI e).2.1 hb
  · intro y hy
    have hcase : (y ∈ I1 ∨ y ∈ I2) ∨ y = ⟨x.n, x.wb, v', l', p'⟩ := by
      rcases List.mem_append.1 hy with hy | hy
      · exact .inl (.inl hy)
      · rcases List.mem_cons.1 hy with hy | hy
        · exact .inr hy
        · exact .inl (.inr hy)
    rcases hcase with hy | rfl
    · have ho := hoth y hy
      have hyI := hmem y hy
      refine wk_fr hf (h.wk y hyI) (fun q => ?_) (fun k hk q => ?_) (fun _ q => .inl q)
      · rcases q with q | q
        · exact ho.1 q
        · exact (h.row_ne hxI q).2.2.2 y hyI rfl
      · rcases q with q | q
        · exact (h.row_ne hyI hk).2.2.2 x hxI q.symm
        · exact ho.2 k hk q
    · refine ⟨.inl hx.1, hb, hr, fun k hk => ?_⟩
      rcases hv with hv | ⟨b, hv, hle⟩
      · exact .inl (hx.2.2.2 k (hv ▸ hk))
      · exact .inr ⟨by rw [show v'.ownBlock = some k from hk] at hv; cases hv; exact hle, hr.lt k hk⟩
  · rw [List.pairwise_append, List.pairwise_cons]
    refine ⟨a1, ⟨fun y hy => ⟨(a2 y hy).1, fun k hk e => hnew y (.inr hy) k hk e⟩, a3⟩, fun y hy z hz => ?_⟩
    rcases List.mem_cons.1 hz with rfl | hz
    · exact ⟨(hoth y (.inl hy)).1, fun k hk e => hnew y (.inl hy) k e hk⟩
    · exact a4 y hy z (by simp [hz])
  · rintro (e | e)
    · exact w1.1 e.symm
    · exact (h.row_ne hxI e).1 rfl
  · rintro i hi (e | e)
    · exact w1.2.2 (e ▸ hi)
    · exact (h.row_ne hxI e).2.2.1 hi
theorem KvR.vals (h : KvR Pz F w b0 vs th lk I L mo lo) (hf : Fr (fun i => i = b0) w w') (h1 : vs'.length = 16) (h2 : th'.length = 16) (hb : w'.heap[b0]? = some (.cells (storeCells Pz vs' th' mo lo) 82 (0, 0))) : KvR Pz F w' b0 vs' th' lk I L mo lo := by
  have hn := h.mo_ne
  refine ⟨fun i hi => Nat.lt_of_lt_of_le (h.fb i hi) hf.size, h.b, h1, h2, hb, h.map.fr hf (fun b hb q => hn.1 (q ▸ hb)), h.kvL, h.mF, fun x hx => ?_, h.apart, ?_, h.lF, h.ml⟩
  · exact wk_fr hf (h.wk x hx) (h.wb_ne hx).1 (fun k hk => (h.row_ne hx hk).1) (fun _ q => q)
  · obtain ⟨L2, h0, ⟨mo2, h3, h4, h5, h6⟩⟩ := h.lt
    rw [sc33 h.lv h.lth] at h4
    cases h4
    exact ⟨L2, h0, ⟨lo, hb, sc33 h1 h2 _ _, h5.fr hf (fun b hb q => hn.2 (q ▸ hb)), fun b hb => hb⟩⟩
end
end Go.Proofs.YtdejbinmnoabeaaGreat.K
namespace Go.Mine
theorem atI_found {k : Int} {l : List Ch} {i : Nat} {x : Ch} (hx : l[i]? = some x) (h : (x.key == k) = true) (hn : ∀ j, j < i → ∀ y, l[j]? = some y → (y.key == k) = false) : chAt k l = some i ∧ atI k l = i := by
  have hi := (List.getElem?_eq_some_iff.1 hx).1
  have e : l[i] = x := (List.getElem?_eq_some_iff.1 hx).2
  have : chAt k l = some i := by
    unfold chAt
    rw [List.findIdx?_eq_some_iff_getElem]
    refine ⟨hi, by rw [e]; exact h, fun j hj => ?_⟩
    have := hn j hj l[j] (List.getElem?_eq_getElem (by omega))
    simp [this]
  exact ⟨this, by simp [atI, this]⟩
theorem atI_none {k : Int} {l : List Ch} (hn : ∀ j, j < l.length → ∀ y, l[j]? = some y → (y.key == k) = false) : chAt k l = none ∧ atI k l = -1 := by
  have : chAt k l = none := by
    unfold chAt
    rw [List.findIdx?_eq_none_iff]
    intro x hx
    obtain ⟨j, hj⟩ := List.getElem?_of_mem hx
    exact hn j (List.getElem?_eq_some_iff.1 hj).1 x hj
  exact ⟨this, by simp [atI, this]⟩
end Go.Mine
namespace Go.Proofs.YtdejbinmnoabeaaGreat.K
variable {Pz : List Value}
open Go.RowKit Go.Mine Go.Proofs.YtdejbinmnoabeaaGreatW.PrintWords
open Go.ChangeMaps (setBlock)
set_option linter.unusedVariables false
set_option linter.unusedSimpArgs false
theorem key3 : KeyOk Tryz.prog 3 (Value.int .i64) := intKey Tryz.underlying3
theorem zero117 (w : World) : (zeroValue 117).run Tryz.prog w = .ok (.pointer none) w := by kernel_rfl
theorem info90 : (Tryz.prog.info? 90).map (fun i => (i.zero, i.size, i.bytes)) = some (some (.agg #[.int .i64 0, .int .i64 0, .int .u64 0]), 3, 24) := by kernel_rfl
def ChAt (w : World) (B : Nat) (A : Option Addr) (l : List Ch) : Prop :=
  ∀ i x, l[i]? = some x → ∃ b off, A = some ⟨b, off, none⟩ ∧ b < B ∧ ∀ j v, (encCh x)[j]? = some v → w.cell? ⟨b, off + i * 3 + j, none⟩ = some v
theorem ChAt.below {w w' : World} {B : Nat} {A : Option Addr} {l : List Ch} (h : ChAt w B A l) (hb : Below B w w') : ChAt w' B A l := by
  intro i x hx
  obtain ⟨b, off, e, hlt, hc⟩ := h i x hx
  exact ⟨b, off, e, hlt, fun j v hv => (hb.cell (p := ⟨b, off + i * 3 + j, none⟩) hlt).trans (hc j v hv)⟩
theorem ChAt.up {w : World} {B B' : Nat} {A : Option Addr} {l : List Ch} (h : ChAt w B A l) (hb : B ≤ B') : ChAt w B' A l := by
  intro i x hx
  obtain ⟨b, off, e, hlt, hc⟩ := h i x hx
  exact ⟨b, off, e, Nat.lt_of_lt_of_le hlt hb, hc⟩
theorem ChRow.at_ {w : World} {v : Value} {l : List Ch} (h : ChRow w v l) : ∃ A c, v = .slice A l.length c ∧ l.length ≤ c ∧ ChAt w w.heap.size A l := by
  obtain ⟨h0, inner, ho, hr⟩ := h
  rcases ho.2 with ⟨hv, h0⟩ | ⟨g, cap, cur, hv, hg, hh, h1, h2, h3, h4⟩
  · have hl : l = [] := List.eq_nil_of_length_eq_zero h0
    subst hl
    exact ⟨none, 0, hv, Nat.le_refl _, fun i x hx => by simp at hx⟩
  · refine ⟨_, cap, hv, h1, fun i x hx => ⟨g, 0, rfl, (Array.getElem?_eq_some_iff.1 hh).1, fun j u hu => ?_⟩⟩
    have h5 : (inner.drop (i * 3)).take 3 = encCh x := hr.2 i x hx
    have hj : j < 3 := by have := (List.getElem?_eq_some_iff.1 hu).1; simpa [encCh] using this
    have h6 : inner[i * 3 + j]? = some u := by
      rw [← h5, List.getElem?_take_of_lt hj, List.getElem?_drop] at hu
      exact hu
    have := ho.cells (g := g) (by rw [hv]; simp [Value.ownBlock]) _ u h6
    rw [add_plain] at this
    rw [Nat.zero_add]
    exact this
set_option maxHeartbeats 1000000 in
theorem idx_any (A : Option Addr) (l : List Ch) (c : Nat) (key : Int) (bx : Nat) (w : World) (hl : ChAt w w.heap.size A l) (hk : w.cell? ⟨bx, 0, none⟩ = some (.int .i64 key)) (hn : l.length ≤ 1000000000000) :
    Calls Tryz.prog 109 #[.slice A l.length c, .func (.func 110) #[] #[.pointer (some ⟨bx, 0, none⟩)]] w fun e w' => e = .returned (.int .i64 (atI key l)) ∧ Below w.heap.size w w' := by
  have hbx : bx < w.heap.size := World.block_lt_of_cell? _ _ hk
  go_enter Tryz.func109, Tryz.ntmps109
  go_wp2
  go_loopg [8] (l.length + 1) (fun n v wr => ∃ i : Nat, v = .int .i64 i ∧ i ≤ l.length ∧ n = l.length + 1 - i ∧ (∀ j, j < i → ∀ y, l[j]? = some y → (y.key == key) = false) ∧ Below w.heap.size w wr)
  case atStart => exact ⟨0, rfl, Nat.zero_le _, rfl, fun j hj => absurd hj (by omega), Below.refl _ _⟩
  case round =>
    obtain ⟨i, rfl, hi, hn', hno, hb⟩ := hrel
    have HN := hid hn'
    have HNO := hid hno
    clear hn' hno
    by_cases h1 : i < l.length
    · obtain ⟨x, hx⟩ : ∃ x, l[i]? = some x := ⟨_, List.getElem?_eq_getElem h1⟩
      obtain ⟨b, off, rfl, hb1, hc⟩ := (hl.below hb) i x hx
      have k0 : wr.cell? ⟨b, off + i * 3, none⟩ = some (.int .i64 x.kind) := hc 0 _ rfl
      have k1 := hc 1 _ rfl
      have k2 := hc 2 _ rfl
      have hkr := (hb.cell (p := ⟨bx, 0, none⟩) hbx).trans hk
      have hkr' : (wr.alloc (.cells #[.int .i64 x.kind, .int .i64 x.key, .int .u64 x.val] 90)).cell? ⟨bx, 0, none⟩ = some (.int .i64 key) := by
        rw [World.cell?_alloc_lt _ _ _ (World.block_lt_of_cell? _ _ hkr)]; exact hkr
      have HX := hid hx
      clear hc hx hl
      cases hq : (x.key == key)
      · go_wp2
        go_roundg (l.length + 1 - (i + 1))
        case measure => rw [HN.out]; omega
        case rel =>
          refine ⟨i + 1, by go_num, by omega, rfl, fun j hj y hy => ?_, hb.alloc hb.size _⟩
          by_cases hji : j = i
          · subst hji; rw [HX.out] at hy; cases hy; exact hq
          · exact HNO.out j (by omega) y hy
      · go_wp2
        go_ret
        exact ⟨by rw [(atI_found HX.out hq HNO.out).2]; rfl, hb.alloc hb.size _⟩
    · have : i = l.length := by omega
      subst this
      go_wp2
      go_ret
      exact ⟨by rw [(atI_none HNO.out).2]; rfl, hb⟩
set_option maxHeartbeats 1000000 in
theorem at_any (wb : Nat) (v : Value) (l : List Ch) (key : Int) (w : World) (hv : w.cell? ⟨wb, 0, none⟩ = some v) (hr : ChRow w v l) (hn : l.length ≤ 1000000000000) :
    Calls Tryz.prog 86 #[.pointer (some ⟨wb, 0, none⟩), .int .i64 key] w fun e w' => e = .returned (.int .i64 (atI key l)) ∧ Below w.heap.size w w' := by
  obtain ⟨A, c, rfl, hc, hl⟩ := hr.at_
  have hbx : wb < w.heap.size := World.block_lt_of_cell? _ _ hv
  clear hr
  go_enter Tryz.func86, Tryz.ntmps86
  go_wp2_with fail
  have hb : Below w.heap.size w (w.alloc (.cells #[.int .i64 key] 3)) := (Below.refl _ _).alloc (Nat.le_refl _) _
  refine (idx_any A l c key w.heap.size _ ((hl.below hb).up hb.size) (by simp) hn).mono ?_
  rintro e w2 ⟨rfl, f2⟩
  go_wp2_with fail
  go_ret
  exact ⟨rfl, hb.trans (f2.mono hb.size)⟩
theorem fit_any (p : Option Addr) (n : Int) (w : World) : Calls Tryz.prog 79 #[.pointer p, .int .i64 n] w fun e w' => e = .returned (.int .i64 (if p = none then 6 else if n < 1 then 1 else 0)) ∧ w = w' := by
  go_enter Tryz.func79, Tryz.ntmps79
  cases p with
  | none =>
    go_wp2
    go_ret
    exact ⟨rfl, rfl⟩
  | some p =>
    by_cases h : n < 1
    · go_wp2
      go_ret
      exact ⟨by simp [h], rfl⟩
    · go_wp2
      go_ret
      exact ⟨by simp [h], rfl⟩
def SetPost (Pz : List Value) (n : Int) (nb b0 : Nat) (vs : List Int) (th : List Bool) (mo lo : Option Nat) (L : List (Int × Nat × Nat)) (w : World) (e : Ending) (w' : World) : Prop :=
  e = .returned (.tuple #[]) ∧ ∃ mo' L', w'.heap[b0]? = some (.cells (storeCells Pz vs th mo' lo) 82 (0, 0)) ∧ MapO (Value.int .i64) ptrV w' mo' L' ∧ kv L' = aput n nb (kv L) ∧ (mo' = mo ∨ ∀ b, mo' = some b → w.heap.size ≤ b) ∧ Fr (fun i => i = b0 ∨ mo = some i) w w'
set_option maxRecDepth 100000 in
set_option maxHeartbeats 1000000 in
theorem set_any (n : Int) (nb b0 : Nat) (vs : List Int) (th : List Bool) (mo lo : Option Nat) (L : List (Int × Nat × Nat)) (w : World) (h1 : vs.length = 16) (h2 : th.length = 16) (hb : w.heap[b0]? = some (.cells (storeCells Pz vs th mo lo) 82 (0, 0))) (hm : MapO (Value.int .i64) ptrV w mo L) :
    Calls Tryz.prog 93 #[.pointer (some ⟨b0, 0, none⟩), .int .i64 n, .pointer (some ⟨nb, 0, none⟩)] w (SetPost Pz n nb b0 vs th mo lo L w) := by
  have hc : w.cell? ⟨b0, 32, none⟩ = some (.map mo) := by rw [cell_of_row w b0 32 _ _ _ hb]; exact sc32 h1 h2 mo lo
  have hf0 : w.frozen? ⟨b0, 32, none⟩ = false := by simp [World.frozen?, hb]
  have hb0 : b0 < w.heap.size := (Array.getElem?_eq_some_iff.1 hb).1
  have hmn := fun w' mo => run_eql_map_nil (P := Tryz.prog) w' 69 3 117 mo Tryz.underlying69
  cases mo with
  | none =>
    have hL : L = [] := hm
    subst hL
    have hmn' := fun w' => hmn w' none
    clear hmn
    have hmm := @run_makeMap Tryz.prog
    have HB := hid hb
    clear hb hm
    go_enter Tryz.func93, Tryz.ntmps93
    have hc3 : (w.alloc (.map #[] 0)).cell? ⟨b0, 32, none⟩ = some (.map none) := by rw [World.cell?_alloc_lt _ _ _ (by show b0 < _; omega)]; exact hc
    have hf3 : (w.alloc (.map #[] 0)).frozen? ⟨b0, 32, none⟩ = false := by rw [World.frozen?_alloc_old _ _ _ (by show b0 ≠ _; omega)]; exact hf0
    have hne : b0 ≠ w.heap.size := by omega
    have a1 := setCell_heap (off := 32) HB.out (.map (some w.heap.size))
    rw [set32 h1 h2] at a1
    have hsz : (w.setCell ⟨b0, 32, none⟩ (.map (some w.heap.size))).heap.size = w.heap.size := by simp [World.setCell]
    have a2 : ((w.setCell ⟨b0, 32, none⟩ (.map (some w.heap.size))).alloc (.map #[] 0)).heap[b0]? = some (.cells (storeCells Pz vs th (some w.heap.size) lo) 82 (0, 0)) := (Below.heap_alloc _ _ _ (by omega)).trans a1
    have m1 : ((w.setCell ⟨b0, 32, none⟩ (.map (some w.heap.size))).alloc (.map #[] 0)).heap[w.heap.size]? = some (.map #[] 0) := by
      have := (MapKept.heap_alloc (w.setCell ⟨b0, 32, none⟩ (.map (some w.heap.size))) (.map #[] 0)).1
      rw [hsz] at this
      exact this
    have m2 : MapAt (Value.int .i64) ptrV ((w.setCell ⟨b0, 32, none⟩ (.map (some w.heap.size))).alloc (.map #[] 0)) w.heap.size [] 0 := ⟨m1, ⟨by simp, by simp, by simp⟩⟩
    have fA : Fr (fun i => i = b0) w ((w.setCell ⟨b0, 32, none⟩ (.map (some w.heap.size))).alloc (.map #[] 0)) := (Fr.setCell (S := fun i => i = b0) (p := ⟨b0, 32, none⟩) (Fr.refl _ w) (.inl rfl) _).alloc _
    have c1 : ((w.setCell ⟨b0, 32, none⟩ (.map (some w.heap.size))).alloc (.map #[] 0)).cell? ⟨b0, 32, none⟩ = some (.map (some w.heap.size)) := by rw [cell_of_row _ b0 32 _ _ _ a2]; exact sc32 h1 h2 _ lo
    obtain ⟨w5, c5, hu, hm5, f5, s5⟩ := run_update_at Tryz.underlying69 key3 m2 n nb
    have hb5 := f5.at_ a2 hne
    have HB5 := hid hb5
    have HM5 := hid hm5
    clear hb5 hm5 m2 m1 a2 a1 s5 hsz
    go_wp2
    go_end0
    exact ⟨rfl, some w.heap.size, _, HB5.out, ⟨c5, HM5.out⟩, by rw [kv_put], .inr (fun b hb => by cases hb; exact Nat.le_refl _), (fA.trans f5 (fun i hi => .inr (by omega))).mono (fun i hi => .inl hi)⟩
  | some b =>
    obtain ⟨c, hm⟩ := hm
    have hmn' := fun w' => hmn w' (some b)
    obtain ⟨w5, c5, hu, hm5, f5, s5⟩ := run_update_at Tryz.underlying69 key3 hm n nb
    have hne : b0 ≠ b := by
      rintro rfl
      have := hm.heap
      rw [hb] at this
      cases this
    have hb5 := f5.at_ hb hne
    have HB5 := hid hb5
    have HM5 := hid hm5
    clear hmn hb5 hm5 hb s5
    go_enter Tryz.func93, Tryz.ntmps93
    go_wp2
    go_end0
    exact ⟨rfl, some b, _, HB5.out, ⟨c5, HM5.out⟩, kv_put _ _ _ _, .inl rfl, f5.mono (fun i hi => .inr (by rw [hi]))⟩
end Go.Proofs.YtdejbinmnoabeaaGreat.K
namespace Go.Proofs.YtdejbinmnoabeaaGreat.K
variable {Pz : List Value}
open Go.RowKit Go.Mine Go.Proofs.YtdejbinmnoabeaaGreatW.PrintWords
open Go.ChangeMaps (setBlock)
set_option linter.unusedVariables false
set_option linter.unusedSimpArgs false
def wsOf (I : List WI) : List (Int × KW) := I.map (fun x => (x.n, (⟨x.l, x.p⟩ : KW)))
def KvAt (Pz : List Value) (F : Nat → Prop) (w : World) (b0 : Nat) (s : KS) : Prop := s.Ok ∧ ∃ I L mo lo, KvR Pz F w b0 s.vs s.th s.lk I L mo lo ∧ s.ws = wsOf I
def KvWk (Pz : List Value) (F : Nat → Prop) (w : World) (b0 : Nat) (s : KS) (n : Int) (wb : Nat) : Prop :=
  s.Ok ∧ ∃ I1 x I2 L mo lo, KvR Pz F w b0 s.vs s.th s.lk (I1 ++ x :: I2) L mo lo ∧ s.ws = wsOf (I1 ++ x :: I2) ∧ x.n = n ∧ x.p = false ∧ x.wb = wb
theorem KvWk.at_ {F : Nat → Prop} {w : World} {b0 : Nat} {s : KS} {n : Int} {wb : Nat} (h : KvWk Pz F w b0 s n wb) : KvAt Pz F w b0 s := by
  obtain ⟨h1, I1, x, I2, L, mo, lo, h2, h3, _⟩ := h
  exact ⟨h1, _, L, mo, lo, h2, h3⟩
theorem KvAt.fb {F : Nat → Prop} {w : World} {b0 : Nat} {s : KS} (h : KvAt Pz F w b0 s) : ∀ i, F i → i < w.heap.size := by
  obtain ⟨h1, I, L, mo, lo, h2, h3⟩ := h
  exact h2.fb
theorem KvAt.b {F : Nat → Prop} {w : World} {b0 : Nat} {s : KS} (h : KvAt Pz F w b0 s) : F b0 := by
  obtain ⟨h1, I, L, mo, lo, h2, h3⟩ := h
  exact h2.b
theorem KvAt.fr {F S : Nat → Prop} {w w' : World} {b0 : Nat} {s : KS} (h : KvAt Pz F w b0 s) (hf : Fr S w w') (hS : ∀ i, F i → ¬ S i) : KvAt Pz F w' b0 s := by
  obtain ⟨h1, I, L, mo, lo, h2, h3⟩ := h
  exact ⟨h1, I, L, mo, lo, h2.fr hf hS, h3⟩
theorem KvAt.below {F : Nat → Prop} {w w' : World} {b0 : Nat} {s : KS} (h : KvAt Pz F w b0 s) (hb : Below w.heap.size w w') : KvAt Pz F w' b0 s := h.fr (Fr.of_below hb (Nat.le_refl _)) (fun _ _ q => q)
theorem aget_ws (n : Int) (I : List WI) : aget n (wsOf I) = (I.find? (fun x => decide (x.n = n))).map (fun x => (⟨x.l, x.p⟩ : KW)) := by
  unfold aget wsOf
  rw [List.find?_map]
  simp only [Option.map_map]
  rfl
theorem mget_ws {F : Nat → Prop} {w : World} {b0 : Nat} {vs : List Int} {th : List Bool} {lk : LTab} {I : List WI} {L : List (Int × Nat × Nat)} {mo lo : Option Nat} (h : KvR Pz F w b0 vs th lk I L mo lo) (n : Int) :
    mget n L = (I.find? (fun x => decide (x.n = n))).map (·.wb) := by
  rw [kv_get, h.kvL]
  unfold aget
  rw [List.find?_map]
  simp only [Option.map_map]
  rfl
theorem find_split {I : List WI} {n : Int} {x : WI} (h : I.find? (fun x => decide (x.n = n)) = some x) : ∃ I1 I2, I = I1 ++ x :: I2 ∧ x.n = n := by
  have h1 := List.find?_some h
  have h2 := List.mem_of_find?_eq_some h
  obtain ⟨I1, I2, h3⟩ := List.append_of_mem h2
  exact ⟨I1, I2, h3, by simpa using h1⟩
def TouchPost (Pz : List Value) (F : Nat → Prop) (w : World) (b0 : Nat) (s : KS) (n key : Int) (al : Bool) (e : Ending) (w' : World) : Prop :=
  ∃ p F', e = .returned (.tuple #[.pointer p, .int .i64 (s.touch n key al).1]) ∧ KvAt Pz F' w' b0 (s.touch n key al).2 ∧ Grew F F' w ∧ Fr F w w' ∧
    ((s.touch n key al).1 = 0 → ∃ wb, p = some ⟨wb, 0, none⟩ ∧ KvWk Pz F' w' b0 (s.touch n key al).2 n wb)
theorem touch_bad {s : KS} {n key : Int} {al : Bool} (h : n < 1 ∨ key < 0 ∨ 16 ≤ key) : s.touch n key al = (1, s) := by unfold KS.touch; rw [if_pos h]
theorem touch_prep {s : KS} {n key : Int} {al : Bool} (h : ¬ (n < 1 ∨ key < 0 ∨ 16 ≤ key)) (hp : ((aget n s.ws).map (·.p)).getD false = true) : s.touch n key al = (7, s) := by unfold KS.touch; rw [if_neg h, if_pos hp]
theorem touch_lock {s : KS} {n key : Int} {al : Bool} (h : ¬ (n < 1 ∨ key < 0 ∨ 16 ≤ key)) (hp : ((aget n s.ws).map (·.p)).getD false = false) (hl : (takeA s.lk n key al).1 ≠ 0) : s.touch n key al = ((takeA s.lk n key al).1, s) := by
  unfold KS.touch; rw [if_neg h, if_neg (by simp [hp]), if_pos hl]
theorem touch_done {s : KS} {n key : Int} {al : Bool} (h : ¬ (n < 1 ∨ key < 0 ∨ 16 ≤ key)) (hp : ((aget n s.ws).map (·.p)).getD false = false) (hl : (takeA s.lk n key al).1 = 0) :
    s.touch n key al = (0, ⟨s.vs, s.th, if (aget n s.ws).isSome then s.ws else s.ws ++ [(n, ⟨[], false⟩)], (takeA s.lk n key al).2⟩) := by
  unfold KS.touch; rw [if_neg h, if_neg (by simp [hp]), if_neg (by simp [hl])]
set_option maxRecDepth 100000 in
set_option maxHeartbeats 2000000 in
theorem touch_any {F : Nat → Prop} {w : World} {b0 : Nat} {s : KS} (h : KvAt Pz F w b0 s) (n key : Int) (al : Bool) :
    Calls Tryz.prog 85 #[.pointer (some ⟨b0, 0, none⟩), .int .i64 n, .int .i64 key, .bool al] w (TouchPost Pz F w b0 s n key al) := by
  have hat := h
  obtain ⟨hok, I, L, mo, lo, h, hws⟩ := h
  have hl := run_lookupO Tryz.underlying69 key3 h.map (zero117 w) n false
  simp only [Bool.false_eq_true, if_false] at hl
  rw [mget_ws h n] at hl
  have hg := aget_ws n I
  rw [← hws] at hg
  have hc : w.cell? ⟨b0, 32, none⟩ = some (.map mo) := by rw [cell_of_row w b0 32 _ _ _ h.blk]; exact sc32 h.lv h.lth mo lo
  have HOK := hid hok
  have HW := hid hws
  have HAT := hid hat
  have H := hid h
  have htk := take_A h.lt n key al
  have HT := hid htk
  clear hok hws hat htk
  by_cases hbad : n < 1 ∨ key < 0 ∨ 16 ≤ key
  · have e := touch_bad (s := s) (al := al) hbad
    have HE := hid e
    clear e h hl hg
    have hend : ∀ w', w' = w → TouchPost Pz F w b0 s n key al (.returned (.tuple #[.pointer none, .int .i64 1])) w' := by
      intro w' hw'
      subst hw'
      refine ⟨none, F, ?_, ?_, Grew.refl _ _, Fr.refl _ _, ?_⟩
      · rw [HE.out]
      · rw [HE.out]; exact HAT.out
      · rw [HE.out]; intro q; cases q
    have HEND := hid hend
    clear hend
    by_cases h1 : n < 1
    · go_enter Tryz.func85, Tryz.ntmps85
      go_wp2_with fail
      go_ret2
      exact HEND.out _ rfl
    · by_cases h2 : key < 0
      · go_enter Tryz.func85, Tryz.ntmps85
        go_wp2_with fail
        go_ret2
        exact HEND.out _ rfl
      · have h3 : 16 ≤ key := by omega
        go_enter Tryz.func85, Tryz.ntmps85
        go_wp2_with fail
        go_ret2
        exact HEND.out _ rfl
  · have HB := hid hbad
    have b1 : ¬ n < 1 := fun q => hbad (.inl q)
    have b2 : ¬ key < 0 := fun q => hbad (.inr (.inl q))
    have b3 : ¬ 16 ≤ key := fun q => hbad (.inr (.inr q))
    have h' := h
    clear hbad h
    cases hf : I.find? (fun x => decide (x.n = n)) with
    | none =>
      rw [hf] at hl hg
      simp only [Option.map_none, Option.getD_none] at hl hg
      have hp : ((aget n s.ws).map (·.p)).getD false = false := by rw [hg]; rfl
      have HF := hid hf
      have HP := hid hp
      have HG := hid hg
      clear hf hp hg h'
      go_enter Tryz.func85, Tryz.ntmps85
      go_wp2_with fail
      refine HT.out.mono ?_
      rintro e w1 ⟨rfl, ht1, hf1⟩
      obtain ⟨lo1, h1⟩ := H.out.locks ht1 hf1
      have fF : Fr F w w1 := hf1.mono (fun i hi => hi.elim (fun q => q ▸ H.out.b) (fun q => H.out.lF i q))
      cases hz : ((takeA s.lk n key al).1 == 0)
      · have hne : (takeA s.lk n key al).1 ≠ 0 := by simpa using hz
        have HE := hid (touch_lock HB.out HP.out hne)
        rw [takeA_keep hne] at h1
        have HNE := hid hne
        clear hne
        go_wp2_with fail
        go_ret2
        refine ⟨none, more F w w1, by rw [HE.out]; rfl, ?_, grew_more _ _ _, fF, ?_⟩
        · rw [HE.out]; exact ⟨HOK.out, I, L, mo, lo1, h1, HW.out⟩
        · rw [HE.out]; intro q; exact absurd q HNE.out
      · have hne : (takeA s.lk n key al).1 = 0 := by simpa using hz
        have he := touch_done HB.out HP.out hne
        have hok' := HOK.out.touch n key al
        rw [HG.out] at he
        simp only [Option.isSome_none, Bool.false_eq_true, if_false] at he
        rw [he] at hok'
        have HE := hid he
        have HOK' := hid hok'
        have H1 := hid h1
        have hset := set_any n w1.heap.size b0 s.vs s.th mo lo1 L (w1.alloc (.cells #[.slice none 0 0, .bool false] 133)) h1.lv h1.lth ((Below.heap_alloc _ _ _ (blk_lt h1.blk)).trans h1.blk) (h1.map.fr ((Fr.refl (fun _ => False) w1).alloc _) (fun _ _ => id))
        have HS := hid hset
        have hnew := (MapKept.heap_alloc w1 (.cells #[.slice none 0 0, .bool false] 133)).1
        have HN := hid hnew
        clear hne he hok' h1 hset hnew
        go_wp2_with fail
        refine HS.out.mono ?_
        rintro e w2 ⟨rfl, mo', L', hb', hm', hk', hmo', hf'⟩
        have hkv : kv L' = (I ++ [(⟨n, w1.heap.size, .slice none 0 0, [], false⟩ : WI)]).map (fun x => (x.n, x.wb)) := by
          have hn : aget n (kv L) = none := by rw [← kv_get, mget_ws H.out, HF.out]; rfl
          rw [hk', aput, hn, H.out.kvL]
          simp
        have hf2 : Fr (fun i => i = b0 ∨ mo = some i) w1 w2 := ((Fr.refl _ w1).alloc _).trans hf' (fun i hi => .inl hi)
        have hlt1 := H1.out.fb
        have h3 : w2.heap[w1.heap.size]? = some (.cells #[.slice none 0 0, .bool false] 133 (0, 0)) := hf'.at_ HN.out (by
          rintro (q | q)
          · have := hlt1 _ H1.out.b; omega
          · have := hlt1 _ (H1.out.mF _ q); omega)
        have h4 := H1.out.add (x := ⟨n, w1.heap.size, .slice none 0 0, [], false⟩) hb' hm' (hmo'.imp id (fun q b hb => Nat.le_trans (by simp) (q b hb))) hf2 hkv (Nat.le_refl _) (fun k hk => by simp [Value.ownBlock] at hk) h3 (ChRow.none_ _)
        have hwk : KvWk Pz (more (more F w w1) w1 w2) w2 b0 ⟨s.vs, s.th, s.ws ++ [(n, ⟨[], false⟩)], (takeA s.lk n key al).2⟩ n w1.heap.size :=
          ⟨HOK'.out, I, _, [], L', mo', lo1, h4, by rw [HW.out]; simp [wsOf], rfl, rfl, rfl⟩
        have hfr : Fr F w w2 := fF.trans hf2 (fun i hi => by
          rcases hi with q | q
          · exact .inl (q ▸ H.out.b)
          · exact .inl (H.out.mF i q))
        have hgr := (grew_more F w w1).trans (grew_more (more F w w1) w1 w2) hf1.size
        clear h3 h4 hf2 hlt1 hkv hk' hm' hb' hf' hmo'
        go_wp2_with fail
        go_ret2
        refine ⟨some ⟨w1.heap.size, 0, none⟩, _, by rw [HE.out]; rfl, ?_, hgr, hfr, fun _ => ⟨w1.heap.size, rfl, ?_⟩⟩
        · rw [HE.out]; exact hwk.at_
        · rw [HE.out]; exact hwk
    | some x =>
      obtain ⟨I1, I2, hI, hxn⟩ := find_split hf
      have hx := h'.wk x (by rw [hI]; simp)
      rw [hf] at hl hg
      simp only [Option.map_some, Option.getD_some] at hl hg
      have hp : ((aget n s.ws).map (·.p)).getD false = x.p := by rw [hg]; rfl
      have hcp : w.cell? ⟨x.wb, 1, none⟩ = some (.bool x.p) := by rw [cell_of_row w x.wb 1 _ _ _ hx.2.1]; rfl
      have HG := hid hg
      have HP := hid hp
      have HI := hid hI
      clear hf hp hg hx hI h'
      cases hxp : x.p
      · rw [hxp] at hcp
        have hp0 : ((aget n s.ws).map (·.p)).getD false = false := HP.out.trans hxp
        have HP0 := hid hp0
        clear hp0
        go_enter Tryz.func85, Tryz.ntmps85
        go_wp2_with fail
        refine HT.out.mono ?_
        rintro e w1 ⟨rfl, ht1, hf1⟩
        obtain ⟨lo1, h1⟩ := H.out.locks ht1 hf1
        have fF : Fr F w w1 := hf1.mono (fun i hi => hi.elim (fun q => q ▸ H.out.b) (fun q => H.out.lF i q))
        cases hz : ((takeA s.lk n key al).1 == 0)
        · have hne : (takeA s.lk n key al).1 ≠ 0 := by simpa using hz
          have HE := hid (touch_lock HB.out HP0.out hne)
          rw [takeA_keep hne] at h1
          have HNE := hid hne
          clear hne
          go_wp2_with fail
          go_ret2
          refine ⟨none, more F w w1, by rw [HE.out]; rfl, ?_, grew_more _ _ _, fF, ?_⟩
          · rw [HE.out]; exact ⟨HOK.out, I, L, mo, lo1, h1, HW.out⟩
          · rw [HE.out]; intro q; exact absurd q HNE.out
        · have hne : (takeA s.lk n key al).1 = 0 := by simpa using hz
          have he := touch_done HB.out HP0.out hne
          have hok' := HOK.out.touch n key al
          rw [HG.out] at he
          simp only [Option.isSome_some, if_true] at he
          rw [he] at hok'
          have HE := hid he
          have HOK' := hid hok'
          rw [HI.out] at h1
          have hwk : KvWk Pz (more F w w1) w1 b0 ⟨s.vs, s.th, s.ws, (takeA s.lk n key al).2⟩ n x.wb :=
            ⟨HOK'.out, I1, x, I2, L, mo, lo1, h1, by rw [HW.out, HI.out], hxn, hxp, rfl⟩
          clear hne he hok' h1
          go_wp2_with fail
          go_ret2
          refine ⟨some ⟨x.wb, 0, none⟩, more F w w1, by rw [HE.out]; rfl, ?_, grew_more _ _ _, fF, fun _ => ⟨x.wb, rfl, ?_⟩⟩
          · rw [HE.out]; exact hwk.at_
          · rw [HE.out]; exact hwk
      · rw [hxp] at hcp
        have HE := hid (touch_prep (al := al) HB.out (HP.out.trans hxp))
        go_enter Tryz.func85, Tryz.ntmps85
        go_wp2_with fail
        go_ret2
        refine ⟨none, F, by rw [HE.out]; rfl, ?_, Grew.refl _ _, Fr.refl _ _, ?_⟩
        · rw [HE.out]; exact HAT.out
        · rw [HE.out]; intro q; cases q
end Go.Proofs.YtdejbinmnoabeaaGreat.K
namespace Go.Mine
theorem find_chAt {k : Int} {l : List Ch} {i : Nat} (h : chAt k l = some i) : l.find? (fun c => c.key == k) = l[i]? := by
  unfold chAt at h
  rw [List.findIdx?_eq_some_iff_getElem] at h
  obtain ⟨hi, h1, h2⟩ := h
  rw [List.getElem?_eq_getElem hi]
  rw [List.find?_eq_some_iff_getElem]
  exact ⟨h1, i, hi, rfl, fun j hj => by have := h2 j hj; simpa using this⟩
theorem find_chNone {k : Int} {l : List Ch} (h : chAt k l = none) : l.find? (fun c => c.key == k) = none := by
  unfold chAt at h
  rw [List.findIdx?_eq_none_iff] at h
  rw [List.find?_eq_none]
  intro x hx
  simpa using h x hx
end Go.Mine
namespace Go.Proofs.YtdejbinmnoabeaaGreat.K
variable {Pz : List Value}
open Go.RowKit Go.Mine Go.Proofs.YtdejbinmnoabeaaGreatW.PrintWords
open Go.ChangeMaps (setBlock)
set_option linter.unusedVariables false
set_option linter.unusedSimpArgs false
theorem bdN (w : World) (n : Nat) : Below w.heap.size w (w.drewN n) := ⟨rfl, rfl, rfl, Nat.le_refl _, fun _ _ => rfl⟩
def GetPost (Pz : List Value) (F : Nat → Prop) (w : World) (b0 : Nat) (s : KS) (n key : Int) (e : Ending) (w' : World) : Prop :=
  ∃ F', e = .returned (.tuple #[.int .u64 (s.get n key).1.1, .bool (s.get n key).1.2.1, .int .i64 (s.get n key).1.2.2]) ∧ KvAt Pz F' w' b0 (s.get n key).2 ∧ Grew F F' w ∧ Fr F w w'
theorem get_bad {s : KS} {n key : Int} (h : (s.touch n key false).1 ≠ 0) : s.get n key = ((0, false, (s.touch n key false).1), (s.touch n key false).2) := by unfold KS.get; simp only; rw [if_pos h]
theorem get_good {s : KS} {n key : Int} (h : (s.touch n key false).1 = 0) : s.get n key = (((seenV (s.touch n key false).2 n key).1, (seenV (s.touch n key false).2 n key).2, 0), (s.touch n key false).2) := by unfold KS.get; simp only; rw [if_neg (by simp [h])]
theorem KvR.bcells {F : Nat → Prop} {w : World} {b0 : Nat} {vs : List Int} {th : List Bool} {lk : LTab} {I : List WI} {L : List (Int × Nat × Nat)} {mo lo : Option Nat} (h : KvR Pz F w b0 vs th lk I L mo lo) (k : Nat) (hk : k < 16) :
    w.cell? ⟨b0, k, none⟩ = some (.int .u64 (vs.getD k 0)) ∧ w.cell? ⟨b0, 16 + k, none⟩ = some (.bool (th.getD k false)) := by
  rw [cell_of_row w b0 k _ _ _ h.blk, cell_of_row w b0 (16 + k) _ _ _ h.blk]
  exact ⟨scv h.lv h.lth _ _ k hk, sct h.lv h.lth _ _ k hk⟩
theorem wk_list {F : Nat → Prop} {w : World} {b0 : Nat} {s : KS} {I1 I2 : List WI} {x : WI} {n : Int} (hok : s.Ok) (hws : s.ws = wsOf (I1 ++ x :: I2)) (hn : x.n = n) : aget n s.ws = some ⟨x.l, x.p⟩ := by
  apply aget_of_mem hok.keys
  rw [hws, wsOf]
  simp [← hn]
set_option maxRecDepth 100000 in
set_option maxHeartbeats 2000000 in
theorem get_any {F : Nat → Prop} {w : World} {b0 : Nat} {s : KS} (h : KvAt Pz F w b0 s) (n key : Int) :
    Calls Tryz.prog 57 #[.pointer (some ⟨b0, 0, none⟩), .int .i64 n, .int .i64 key] w (GetPost Pz F w b0 s n key) := by
  have ht := touch_any h n key false
  have HT := hid ht
  clear ht
  go_enter Tryz.func57, Tryz.ntmps57
  go_wp2_with fail
  refine HT.out.mono ?_
  rintro e w1 ⟨p, F1, rfl, h1, g1, f1, hw1⟩
  cases hz : ((s.touch n key false).1 != 0)
  · have h0 : (s.touch n key false).1 = 0 := by simpa using hz
    have HE := hid (get_good h0)
    have hk0 := (touch_zero h0).2.1
    have hk16 := (touch_zero h0).2.2.1
    obtain ⟨k, rfl⟩ := Int.eq_ofNat_of_zero_le hk0
    have hk : k < 16 := by omega
    obtain ⟨wb, rfl, hok, I1, x, I2, L, mo, lo, hR, hws, hxn, hxp, rfl⟩ := hw1 h0
    generalize (s.touch n (k : Int) false).2 = t at *
    generalize (s.touch n (k : Int) false).1 = e1 at *
    have hag := wk_list (F := F1) (w := w1) (b0 := b0) hok hws hxn
    have hli : t.listOf n = x.l := by simp [KS.listOf, hag]
    have hx := hR.wk x (by simp)
    have hlen := (hok.chs _ (aget_mem hag)).len
    have hc0 : w1.cell? ⟨x.wb, 0, none⟩ = some x.v := by rw [cell_of_row w1 x.wb 0 _ _ _ hx.2.1]; rfl
    have hat := at_any x.wb x.v x.l k w1 hc0 hx.2.2.1 (by simp at hlen; omega)
    have HAT := hid hat
    obtain ⟨A, c, hv, hAc, hch⟩ := hx.2.2.1.at_
    have HCH := hid hch
    have HR := hid hR
    have HLI := hid hli
    have hcells := hR.bcells k hk
    have HH1 := hid h1
    subst h0
    clear hat hw1 hws hok hxp hxn hag hx hch hR hli h1 hz
    go_wp2_with fail
    refine HAT.out.mono ?_
    rintro e w2 ⟨rfl, f2⟩
    have f12 : Fr F w w2 := f1.trans (Fr.of_below f2 (Nat.le_refl _)) (fun i q => q.elim)
    have h2 := HH1.out.below f2
    have hca : w2.cell? ⟨b0, k, none⟩ = some (.int .u64 (t.vs.getD k 0)) := (f2.cell (World.block_lt_of_cell? _ _ hcells.1)).trans hcells.1
    have hcb : w2.cell? ⟨b0, 16 + k, none⟩ = some (.bool (t.th.getD k false)) := (f2.cell (World.block_lt_of_cell? _ _ hcells.2)).trans hcells.2
    have hc2 : w2.cell? ⟨x.wb, 0, none⟩ = some x.v := (f2.cell (World.block_lt_of_cell? _ _ hc0)).trans hc0
    cases hq : chAt (k : Int) x.l with
    | none =>
      have hai : atI (k : Int) x.l = -1 := by simp [atI, hq]
      have HS : Hid (seenV t n k = (t.vs.getD k 0, t.th.getD k false)) := hid (by unfold seenV; rw [HLI.out, find_chNone hq]; rfl)
      rw [hai]
      have hki : (k : Int) < 16 := by omega
      clear hq hai hc0 hc2 hcells hv
      go_wp2_with fail
      go_quiet (fail)
      go_wp2_with fail
      go_ret3
      refine ⟨F1, ?_, ?_, g1, f12.drewN _⟩
      · rw [HE.out, HS.out]; rfl
      · rw [HE.out]; exact h2.below (bdN _ _)
    | some i =>
      obtain ⟨y, hy, hyk⟩ := chAt_some hq
      have hai : atI (k : Int) x.l = i := by simp [atI, hq]
      have HS : Hid (seenV t n k = (y.val, y.kind == 1)) := hid (by unfold seenV; rw [HLI.out, find_chAt hq, hy])
      rw [hai]
      have hil := (List.getElem?_eq_some_iff.1 hy).1
      obtain ⟨b, off, rfl, hb1, hcc⟩ := (HCH.out.below f2) i y hy
      have k0 : w2.cell? ⟨b, off + i * 3, none⟩ = some (.int .i64 y.kind) := hcc 0 _ rfl
      have k1 := hcc 1 _ rfl
      have k2 := hcc 2 _ rfl
      rw [hv] at hc2
      have hi1 : (i : Int) < x.l.length := by omega
      have hi0 : (0 : Int) ≤ i := by omega
      clear hq hai hc0 hcells hcc hy hyk hca hcb hv
      go_wp2_with fail
      go_quiet (fail)
      go_wp2_with fail
      go_ret3
      refine ⟨F1, ?_, ?_, g1, f12.drewN _⟩
      · rw [HE.out, HS.out]; rfl
      · rw [HE.out]; exact h2.below (bdN _ _)
  · have hne : (s.touch n key false).1 ≠ 0 := by simpa using hz
    have HE := hid (get_bad hne)
    clear hne
    go_wp2_with fail
    go_ret3
    refine ⟨F1, ?_, ?_, g1, f1⟩
    · rw [HE.out]; rfl
    · rw [HE.out]; exact h1
end Go.Proofs.YtdejbinmnoabeaaGreat.K
