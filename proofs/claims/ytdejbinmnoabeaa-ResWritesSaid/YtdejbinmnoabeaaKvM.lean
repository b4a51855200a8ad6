/- The store of keys in memory: what its blocks hold, and how that moves. No walk. -/
import Derived.Test.YtdejbinmnoabeaaLock
import Derived.Test.YtdejbinmnoabeaaMapLib
import Derived.Test.YtdejbinmnoabeaaWWords
namespace Go.Proofs.Ytdejbinmnoabeaa.K
variable {Pz : List Value}
open Go.RowKit Go.Mine Go.Proofs.YtdejbinmnoabeaaW.PrintWords
open Go.ChangeMaps (setBlock)
set_option linter.unusedVariables false
set_option linter.unusedSimpArgs false

def encCh (c : Ch) : List Value := [.int .i64 c.kind, .int .i64 c.key, .int .u64 c.val]
def kch : Kd Ch where
  sz := 3
  E := []
  K := fun _ x cs => cs = encCh x
  M := fun _ _ _ x cs => cs = encCh x
  K_len := fun h => by rw [h]; rfl
  K_one := fun h u hu => by rw [h] at hu; simp [encCh] at hu; rcases hu with rfl | rfl | rfl <;> rfl
  K_below := fun _ h => h
  K_of_M := fun h => h
  M_mono := fun _ h => h
  M_bound := fun h => h
  M_move := fun _ h => h
  M_lower := fun _ h => h
/-- A row of changes of one's own. -/
abbrev ChRow (w : World) (v : Value) (l : List Ch) : Prop := kch.R 62 w 0 (fun _ => True) v l
theorem ChRow.move {w w1 : World} {v : Value} {l : List Ch} (h : ChRow w v l) (hm : ∀ k, v.ownBlock = some k → w1.heap[k]? = w.heap[k]?) : ChRow w1 v l := by
  obtain ⟨h0, inner, ho, hr⟩ := h
  exact ⟨h0, inner, own_move ho hm, hr⟩
theorem ChRow.typed {w : World} {v : Value} {l : List Ch} (h : ChRow w v l) (k : Nat) (hk : v.ownBlock = some k) : ∃ cells, w.heap[k]? = some (.cells cells 62 (0, 0)) := by
  obtain ⟨h0, inner, ho, hr⟩ := h
  exact own_typed ho k hk
theorem ChRow.lt {w : World} {v : Value} {l : List Ch} (h : ChRow w v l) (k : Nat) (hk : v.ownBlock = some k) : k < w.heap.size := by
  obtain ⟨cells, hc⟩ := h.typed k hk
  exact (Array.getElem?_eq_some_iff.1 hc).1
theorem ChRow.none_ (w : World) : ChRow w (.slice none 0 0) [] := Kd.R_nil _ _ _ _ _

abbrev ptrV (b : Nat) : Value := .pointer (some ⟨b, 0, none⟩)
/-- A work in memory: number, block, list's value, list, prepared. -/
structure WI where
  n : Int
  wb : Nat
  v : Value
  l : List Ch
  p : Bool
def storeCells (Pz : List Value) (vs : List Int) (th : List Bool) (mo lo : Option Nat) : Array Value := (vs.map (Value.int .u64) ++ (th.map Value.bool ++ (Value.map mo :: Value.map lo :: Pz))).toArray
theorem sc_size {vs : List Int} {th : List Bool} (h1 : vs.length = 16) (h2 : th.length = 16) (mo lo : Option Nat) : (storeCells Pz vs th mo lo).size = 34 + Pz.length := by simp [storeCells, h1, h2]; omega
theorem sc_r {vs : List Int} {th : List Bool} (h1 : vs.length = 16) (h2 : th.length = 16) (mo lo : Option Nat) (j : Nat) : (storeCells Pz vs th mo lo)[32 + j]? = (Value.map mo :: Value.map lo :: Pz)[j]? := by
  simp only [storeCells, List.getElem?_toArray]
  rw [List.getElem?_append_right (by simp [h1]; omega), List.getElem?_append_right (by simp [h1, h2]; omega)]
  congr 1
  simp [h1, h2]
  omega
theorem sc32 {vs : List Int} {th : List Bool} (h1 : vs.length = 16) (h2 : th.length = 16) (mo lo : Option Nat) : (storeCells Pz vs th mo lo)[32]? = some (.map mo) := sc_r h1 h2 mo lo 0
theorem sc33 {vs : List Int} {th : List Bool} (h1 : vs.length = 16) (h2 : th.length = 16) (mo lo : Option Nat) : (storeCells Pz vs th mo lo)[33]? = some (.map lo) := sc_r h1 h2 mo lo 1
theorem scv {vs : List Int} {th : List Bool} (h1 : vs.length = 16) (h2 : th.length = 16) (mo lo : Option Nat) (k : Nat) (hk : k < 16) : (storeCells Pz vs th mo lo)[k]? = some (.int .u64 (vs.getD k 0)) := by
  simp only [storeCells, List.getElem?_toArray]
  rw [List.getElem?_append_left (by simp [h1]; omega)]
  simp [List.getD_eq_getElem?_getD, h1, hk]
theorem sct {vs : List Int} {th : List Bool} (h1 : vs.length = 16) (h2 : th.length = 16) (mo lo : Option Nat) (k : Nat) (hk : k < 16) : (storeCells Pz vs th mo lo)[16 + k]? = some (.bool (th.getD k false)) := by
  simp only [storeCells, List.getElem?_toArray]
  rw [List.getElem?_append_right (by simp [h1]), List.getElem?_append_left (by simp [h1, h2]; omega)]
  simp [List.getD_eq_getElem?_getD, h1, h2, hk]
theorem set32 {vs : List Int} {th : List Bool} (h1 : vs.length = 16) (h2 : th.length = 16) (mo mo' lo : Option Nat) : (storeCells Pz vs th mo lo).setIfInBounds 32 (.map mo') = storeCells Pz vs th mo' lo := by
  simp only [storeCells, List.setIfInBounds_toArray]
  congr 1
  rw [List.set_append_right _ _ (by simp [h1]), List.set_append_right _ _ (by simp [h1, h2])]
  simp [h1, h2]
theorem set33 {vs : List Int} {th : List Bool} (h1 : vs.length = 16) (h2 : th.length = 16) (mo lo lo' : Option Nat) : (storeCells Pz vs th mo lo).setIfInBounds 33 (.map lo') = storeCells Pz vs th mo lo' := by
  simp only [storeCells, List.setIfInBounds_toArray]
  congr 1
  rw [List.set_append_right _ _ (by simp [h1]), List.set_append_right _ _ (by simp [h1, h2])]
  simp [h1, h2]
theorem setv {vs : List Int} {th : List Bool} (h1 : vs.length = 16) (h2 : th.length = 16) (mo lo : Option Nat) (k : Nat) (hk : k < 16) (x : Int) : (storeCells Pz vs th mo lo).setIfInBounds k (.int .u64 x) = storeCells Pz (vs.set k x) th mo lo := by
  simp only [storeCells, List.setIfInBounds_toArray]
  congr 1
  rw [List.set_append_left _ _ (by simp [h1]; omega), List.map_set]
theorem sett {vs : List Int} {th : List Bool} (h1 : vs.length = 16) (h2 : th.length = 16) (mo lo : Option Nat) (k : Nat) (hk : k < 16) (x : Bool) : (storeCells Pz vs th mo lo).setIfInBounds (16 + k) (.bool x) = storeCells Pz vs (th.set k x) mo lo := by
  simp only [storeCells, List.setIfInBounds_toArray]
  congr 1
  rw [List.set_append_right _ _ (by simp [h1]), List.set_append_left _ _ (by simp [h1, h2]; omega), List.map_set]
  simp [h1]

structure KvR (Pz : List Value) (F : Nat → Prop) (w : World) (b0 : Nat) (vs : List Int) (th : List Bool) (lk : LTab) (I : List WI) (L : List (Int × Nat × Nat)) (mo lo : Option Nat) : Prop where
  fb : ∀ i, F i → i < w.heap.size
  b : F b0
  lv : vs.length = 16
  lth : th.length = 16
  blk : w.heap[b0]? = some (.cells (storeCells Pz vs th mo lo) 91 (0, 0))
  map : MapO (Value.int .i64) ptrV w mo L
  kvL : kv L = I.map (fun x => (x.n, x.wb))
  mF : ∀ b, mo = some b → F b
  wk : ∀ x ∈ I, F x.wb ∧ w.heap[x.wb]? = some (.cells #[x.v, .bool x.p] 114 (0, 0)) ∧ ChRow w x.v x.l ∧ (∀ k, x.v.ownBlock = some k → F k)
  apart : I.Pairwise (fun x y => x.wb ≠ y.wb ∧ ∀ k, x.v.ownBlock = some k → y.v.ownBlock ≠ some k)
  lt : TabA w b0 33 (storeCells Pz vs th mo lo) 91 (fun i => lo = some i) lk
  lF : ∀ b, lo = some b → F b
  ml : ∀ b, mo = some b → lo ≠ some b

section
variable {F F' : Nat → Prop} {w w' : World} {b0 : Nat} {vs vs' : List Int} {th th' : List Bool} {lk lk' : LTab} {I : List WI} {L L' : List (Int × Nat × Nat)} {mo mo' lo lo' : Option Nat}

theorem MapO.obj {mo : Option Nat} {L : List (Int × Nat × Nat)} {w : World} (h : MapO (Value.int .i64) ptrV w mo L) (b : Nat) (hb : mo = some b) : ∃ a c, w.heap[b]? = some (.map a c) := by
  subst hb
  obtain ⟨c, h⟩ := h
  exact ⟨_, _, h.heap⟩
theorem KvR.loObj (h : KvR Pz F w b0 vs th lk I L mo lo) (b : Nat) (hb : lo = some b) : ∃ a c, w.heap[b]? = some (.map a c) := by
  obtain ⟨L2, _, ⟨mo2, h1, h2, h3, h4⟩⟩ := h.lt
  rw [sc33 h.lv h.lth] at h2
  cases h2
  subst hb
  obtain ⟨c, h3⟩ := h3
  exact ⟨_, _, h3.heap⟩
/-- The works' blocks are none of the store's, nor of the maps'. -/
theorem KvR.wb_ne (h : KvR Pz F w b0 vs th lk I L mo lo) {x : WI} (hx : x ∈ I) : x.wb ≠ b0 ∧ mo ≠ some x.wb ∧ lo ≠ some x.wb := by
  have h1 := (h.wk x hx).2.1
  refine ⟨fun e => ?_, fun e => ?_, fun e => ?_⟩
  · rw [e, h.blk] at h1; simp at h1
  · obtain ⟨a, c, h2⟩ := MapO.obj h.map _ e; rw [h1] at h2; cases h2
  · obtain ⟨a, c, h2⟩ := h.loObj _ e; rw [h1] at h2; cases h2
theorem KvR.row_ne (h : KvR Pz F w b0 vs th lk I L mo lo) {x : WI} (hx : x ∈ I) {k : Nat} (hk : x.v.ownBlock = some k) : k ≠ b0 ∧ mo ≠ some k ∧ lo ≠ some k ∧ ∀ y ∈ I, y.wb ≠ k := by
  obtain ⟨cells, h1⟩ := (h.wk x hx).2.2.1.typed k hk
  refine ⟨fun e => ?_, fun e => ?_, fun e => ?_, fun y hy e => ?_⟩
  · rw [e, h.blk] at h1; simp at h1
  · obtain ⟨a, c, h2⟩ := MapO.obj h.map _ e; rw [h1] at h2; cases h2
  · obtain ⟨a, c, h2⟩ := h.loObj _ e; rw [h1] at h2; cases h2
  · have h2 := (h.wk y hy).2.1; rw [e, h1] at h2; simp at h2
theorem KvR.mo_ne (h : KvR Pz F w b0 vs th lk I L mo lo) : mo ≠ some b0 ∧ lo ≠ some b0 := by
  refine ⟨fun e => ?_, fun e => ?_⟩
  · obtain ⟨a, c, h2⟩ := MapO.obj h.map _ e; rw [h.blk] at h2; cases h2
  · obtain ⟨a, c, h2⟩ := h.loObj _ e; rw [h.blk] at h2; cases h2

/-- A work moves with a frame that touches neither its block nor its row. -/
theorem wk_fr {S : Nat → Prop} {x : WI} (hf : Fr S w w') (h : F x.wb ∧ w.heap[x.wb]? = some (.cells #[x.v, .bool x.p] 114 (0, 0)) ∧ ChRow w x.v x.l ∧ (∀ k, x.v.ownBlock = some k → F k))
    (h1 : ¬ S x.wb) (h2 : ∀ k, x.v.ownBlock = some k → ¬ S k) (hF : ∀ i, F i → F' i) : F' x.wb ∧ w'.heap[x.wb]? = some (.cells #[x.v, .bool x.p] 114 (0, 0)) ∧ ChRow w' x.v x.l ∧ (∀ k, x.v.ownBlock = some k → F' k) :=
  ⟨hF _ h.1, hf.at_ h.2.1 h1, h.2.2.1.move (fun k hk => hf.block k (h.2.2.1.lt k hk) (h2 k hk)), fun k hk => hF _ (h.2.2.2 k hk)⟩

theorem KvR.fr {S : Nat → Prop} (h : KvR Pz F w b0 vs th lk I L mo lo) (hf : Fr S w w') (hS : ∀ i, F i → ¬ S i) : KvR Pz F w' b0 vs th lk I L mo lo where
  fb i hi := Nat.lt_of_lt_of_le (h.fb i hi) hf.size
  b := h.b
  lv := h.lv
  lth := h.lth
  blk := hf.at_ h.blk (hS _ h.b)
  map := h.map.fr hf (fun b hb => hS _ (h.mF b hb))
  kvL := h.kvL
  mF := h.mF
  wk x hx := wk_fr hf (h.wk x hx) (hS _ (h.wk x hx).1) (fun k hk => hS _ ((h.wk x hx).2.2.2 k hk)) (fun _ q => q)
  apart := h.apart
  lt := h.lt.fr hf (hS _ h.b) (fun i hi => hS _ (h.lF i hi))
  lF := h.lF
  ml := h.ml
theorem KvR.sub (h : KvR Pz F w b0 vs th lk I L mo lo) (hF : ∀ i, F i → F' i) (hb : ∀ i, F' i → i < w.heap.size) : KvR Pz F' w b0 vs th lk I L mo lo where
  fb := hb
  b := hF _ h.b
  lv := h.lv
  lth := h.lth
  blk := h.blk
  map := h.map
  kvL := h.kvL
  mF b q := hF _ (h.mF b q)
  wk x hx := ⟨hF _ (h.wk x hx).1, (h.wk x hx).2.1, (h.wk x hx).2.2.1, fun k hk => hF _ ((h.wk x hx).2.2.2 k hk)⟩
  apart := h.apart
  lt := h.lt
  lF b q := hF _ (h.lF b q)
  ml := h.ml

/-- What a call may add to a set of blocks. -/
def Grew (F F' : Nat → Prop) (w : World) : Prop := ∀ i, F' i → F i ∨ w.heap.size ≤ i
theorem Grew.refl (F : Nat → Prop) (w : World) : Grew F F w := fun _ h => .inl h
theorem Grew.trans {F'' : Nat → Prop} (h : Grew F F' w) (k : Grew F' F'' w') (hs : w.heap.size ≤ w'.heap.size) : Grew F F'' w := fun i hi => (k i hi).elim (h i) (fun q => .inr (Nat.le_trans hs q))
abbrev more (F : Nat → Prop) (w w' : World) : Nat → Prop := fun i => F i ∨ (w.heap.size ≤ i ∧ i < w'.heap.size)
theorem grew_more (F : Nat → Prop) (w w' : World) : Grew F (more F w w') w := fun i h => h.elim .inl (fun q => .inr q.1)
theorem more_lt (hb : ∀ i, F i → i < w.heap.size) (hs : w.heap.size ≤ w'.heap.size) : ∀ i, more F w w' i → i < w'.heap.size := fun i h => h.elim (fun q => Nat.lt_of_lt_of_le (hb i q) hs) (fun q => q.2)

/-- The locks have turned. -/
theorem KvR.locks (h : KvR Pz F w b0 vs th lk I L mo lo) (ht : ∃ lo', TabA w' b0 33 ((storeCells Pz vs th mo lo).setIfInBounds 33 (.map lo')) 91 (grow (fun i => lo = some i) w) lk') (hf : Fr (fun i => i = b0 ∨ lo = some i) w w') :
    ∃ lo', KvR Pz (more F w w') w' b0 vs th lk' I L mo lo' := by
  obtain ⟨lo', ht⟩ := ht
  rw [set33 h.lv h.lth] at ht
  obtain ⟨L2, h0, ⟨mo2, h1, h2, h3, h4⟩⟩ := ht
  rw [sc33 h.lv h.lth] at h2
  cases h2
  have hlt : ∀ b, lo' = some b → b < w'.heap.size := by
    intro b hb
    subst hb
    obtain ⟨c, h3⟩ := h3
    exact h3.lt
  have hm := h.mo_ne
  refine ⟨lo', ⟨more_lt h.fb hf.size, .inl h.b, h.lv, h.lth, h1, h.map.fr hf (fun b hb q => ?_), h.kvL, fun b hb => .inl (h.mF b hb), fun x hx => ?_, h.apart, ⟨L2, h0, ⟨lo', h1, sc33 h.lv h.lth _ _, h3, fun b hb => hb⟩⟩, fun b hb => ?_, fun b hb q => ?_⟩⟩
  · rcases q with q | q
    · exact hm.1 (q ▸ hb)
    · exact h.ml b hb q
  · have h5 := h.wb_ne hx
    refine wk_fr hf (h.wk x hx) (fun q => q.elim h5.1 h5.2.2) (fun k hk q => ?_) (fun _ q => .inl q)
    have h6 := h.row_ne hx hk
    exact q.elim h6.1 h6.2.2.1
  · rcases h4 b hb with q | q
    · exact .inl (h.lF b q)
    · exact .inr ⟨q, hlt b hb⟩
  · rcases h4 b q with q' | q'
    · exact h.ml b hb q'
    · have := h.fb b (h.mF b hb); omega
/-- The locks have lost some. -/
theorem KvR.locks' (h : KvR Pz F w b0 vs th lk I L mo lo) (ht : TabA w' b0 33 (storeCells Pz vs th mo lo) 91 (fun i => lo = some i) lk') (hf : Fr (fun i => lo = some i) w w') : KvR Pz F w' b0 vs th lk' I L mo lo where
  fb i hi := Nat.lt_of_lt_of_le (h.fb i hi) hf.size
  b := h.b
  lv := h.lv
  lth := h.lth
  blk := hf.at_ h.blk h.mo_ne.2
  map := h.map.fr hf (fun b hb q => h.ml b hb q)
  kvL := h.kvL
  mF := h.mF
  wk x hx := wk_fr hf (h.wk x hx) (h.wb_ne hx).2.2 (fun k hk => (h.row_ne hx hk).2.2.1) (fun _ q => q)
  apart := h.apart
  lt := ht
  lF := h.lF
  ml := h.ml
/-- The works' map has turned: mo' is the elder one, or new. -/
theorem KvR.works (h : KvR Pz F w b0 vs th lk I L mo lo) {I' : List WI} (hb : w'.heap[b0]? = some (.cells (storeCells Pz vs th mo' lo) 91 (0, 0))) (hm : MapO (Value.int .i64) ptrV w' mo' L') (hmo : mo' = mo ∨ ∀ b, mo' = some b → w.heap.size ≤ b)
    (hf : Fr (fun i => i = b0 ∨ mo = some i) w w') (hk : kv L' = I'.map (fun x => (x.n, x.wb))) (hI : ∀ x ∈ I', x ∈ I) (hp : I'.Pairwise (fun x y => x.wb ≠ y.wb ∧ ∀ k, x.v.ownBlock = some k → y.v.ownBlock ≠ some k)) :
    KvR Pz (more F w w') w' b0 vs th lk I' L' mo' lo := by
  have hlt : ∀ b, mo' = some b → b < w'.heap.size := by
    intro b hb
    subst hb
    obtain ⟨c, h3⟩ := hm
    exact h3.lt
  have hn := h.mo_ne
  refine ⟨more_lt h.fb hf.size, .inl h.b, h.lv, h.lth, hb, hm, hk, fun b q => ?_, fun x hx => ?_, hp, ?_, fun b q => .inl (h.lF b q), fun b q q' => ?_⟩
  · rcases hmo with e | e
    · exact .inl (h.mF b (e ▸ q))
    · exact .inr ⟨e b q, hlt b q⟩
  · have h5 := h.wb_ne (hI x hx)
    refine wk_fr hf (h.wk x (hI x hx)) (fun q => q.elim h5.1 h5.2.1) (fun k hk q => ?_) (fun _ q => .inl q)
    have h6 := h.row_ne (hI x hx) hk
    exact q.elim h6.1 h6.2.1
  · obtain ⟨L2, h0, ⟨mo2, h1, h2, h3, h4⟩⟩ := h.lt
    rw [sc33 h.lv h.lth] at h2
    cases h2
    refine ⟨L2, h0, ⟨lo, hb, sc33 h.lv h.lth _ _, h3.fr hf (fun b hb q => ?_), fun b hb => hb⟩⟩
    rcases q with q | q
    · exact hn.2 (q ▸ hb)
    · exact h.ml b q hb
  · rcases hmo with e | e
    · exact h.ml b (e ▸ q) q'
    · have := h.fb b (h.lF b q'); have := e b q; omega
/-- A new work has been made, ahead of its coming into the map. -/
theorem KvR.cons_ne (h : KvR Pz F w b0 vs th lk I L mo lo) : ∀ x ∈ I, x.wb < w.heap.size ∧ ∀ k, x.v.ownBlock = some k → k < w.heap.size :=
  fun x hx => ⟨h.fb _ (h.wk x hx).1, fun k hk => h.fb _ ((h.wk x hx).2.2.2 k hk)⟩
/-- Works come and stay: the same store read with other works (all facts of them given). -/
theorem KvR.add (h : KvR Pz F w b0 vs th lk I L mo lo) {x : WI} (hb : w'.heap[b0]? = some (.cells (storeCells Pz vs th mo' lo) 91 (0, 0))) (hm : MapO (Value.int .i64) ptrV w' mo' L') (hmo : mo' = mo ∨ ∀ b, mo' = some b → w.heap.size ≤ b)
    (hf : Fr (fun i => i = b0 ∨ mo = some i) w w') (hk : kv L' = (I ++ [x]).map (fun x => (x.n, x.wb)))
    (hx1 : w.heap.size ≤ x.wb) (hx2 : ∀ k, x.v.ownBlock = some k → w.heap.size ≤ k) (hx3 : w'.heap[x.wb]? = some (.cells #[x.v, .bool x.p] 114 (0, 0))) (hx4 : ChRow w' x.v x.l) :
    KvR Pz (more F w w') w' b0 vs th lk (I ++ [x]) L' mo' lo := by
  have hlt : ∀ b, mo' = some b → b < w'.heap.size := by
    intro b hb
    subst hb
    obtain ⟨c, h3⟩ := hm
    exact h3.lt
  have hn := h.mo_ne
  refine ⟨more_lt h.fb hf.size, .inl h.b, h.lv, h.lth, hb, hm, hk, fun b q => ?_, fun y hy => ?_, ?_, ?_, fun b q => .inl (h.lF b q), fun b q q' => ?_⟩
  · rcases hmo with e | e
    · exact .inl (h.mF b (e ▸ q))
    · exact .inr ⟨e b q, hlt b q⟩
  · rcases List.mem_append.1 hy with hy | hy
    · have h5 := h.wb_ne hy
      refine wk_fr hf (h.wk y hy) (fun q => q.elim h5.1 h5.2.1) (fun k hk q => ?_) (fun _ q => .inl q)
      have h6 := h.row_ne hy hk
      exact q.elim h6.1 h6.2.1
    · obtain rfl := List.mem_singleton.1 hy
      exact ⟨.inr ⟨hx1, (Array.getElem?_eq_some_iff.1 hx3).1⟩, hx3, hx4, fun k hk => .inr ⟨hx2 k hk, hx4.lt k hk⟩⟩
  · rw [List.pairwise_append]
    refine ⟨h.apart, by simp, fun y hy z hz => ?_⟩
    obtain rfl := List.mem_singleton.1 hz
    have h6 := h.cons_ne y hy
    refine ⟨fun e => ?_, fun k hk e => ?_⟩
    · have := h6.1; omega
    · have := h6.2 k hk; have := hx2 k e; omega
  · obtain ⟨L2, h0, ⟨mo2, h1, h2, h3, h4⟩⟩ := h.lt
    rw [sc33 h.lv h.lth] at h2
    cases h2
    refine ⟨L2, h0, ⟨lo, hb, sc33 h.lv h.lth _ _, h3.fr hf (fun b hb q => ?_), fun b hb => hb⟩⟩
    rcases q with q | q
    · exact hn.2 (q ▸ hb)
    · exact h.ml b q hb
  · rcases hmo with e | e
    · exact h.ml b (e ▸ q) q'
    · have := h.fb b (h.lF b q'); have := e b q; omega
/-- One work has turned. -/
theorem KvR.work {I1 I2 : List WI} {x : WI} (h : KvR Pz F w b0 vs th lk (I1 ++ x :: I2) L mo lo) {v' : Value} {l' : List Ch} {p' : Bool} (hf : Fr (fun i => i = x.wb ∨ x.v.ownBlock = some i) w w') (hb : w'.heap[x.wb]? = some (.cells #[v', .bool p'] 114 (0, 0)))
    (hr : ChRow w' v' l') (hv : v'.ownBlock = x.v.ownBlock ∨ ∃ b, v'.ownBlock = some b ∧ w.heap.size ≤ b) : KvR Pz (more F w w') w' b0 vs th lk (I1 ++ ⟨x.n, x.wb, v', l', p'⟩ :: I2) L mo lo := by
  have hxI : x ∈ I1 ++ x :: I2 := by simp
  have hx := h.wk x hxI
  have hap := h.apart
  rw [List.pairwise_append, List.pairwise_cons] at hap
  obtain ⟨a1, ⟨a2, a3⟩, a4⟩ := hap
  have hoth : ∀ y, y ∈ I1 ∨ y ∈ I2 → y.wb ≠ x.wb ∧ (∀ k, y.v.ownBlock = some k → x.v.ownBlock ≠ some k) := by
    intro y hy
    rcases hy with hy | hy
    · exact ⟨(a4 y hy x (by simp)).1, (a4 y hy x (by simp)).2⟩
    · exact ⟨fun e => (a2 y hy).1 e.symm, fun k hk e => (a2 y hy).2 k e hk⟩
  have hmem : ∀ y, y ∈ I1 ∨ y ∈ I2 → y ∈ I1 ++ x :: I2 := by
    intro y hy
    rcases hy with hy | hy <;> simp [hy]
  have hnew : ∀ y, y ∈ I1 ∨ y ∈ I2 → ∀ k, v'.ownBlock = some k → y.v.ownBlock ≠ some k := by
    intro y hy k hk e
    rcases hv with hv | ⟨b, hv, hle⟩
    · exact (hoth y hy).2 k e (hv ▸ hk)
    · rw [hv] at hk; cases hk
      have := (h.cons_ne y (hmem y hy)).2 _ e; omega
  have w1 := h.wb_ne hxI
  refine ⟨more_lt h.fb hf.size, .inl h.b, h.lv, h.lth, hf.at_ h.blk ?_, h.map.fr hf ?_, by rw [h.kvL]; simp, fun b q => .inl (h.mF b q), ?_, ?_, h.lt.fr hf ?_ ?_, fun b q => .inl (h.lF b q), h.ml⟩
  · rintro (e | e)
    · exact w1.1 e.symm
    · exact (h.row_ne hxI e).1 rfl
  · rintro b hb (e | e)
    · exact w1.2.1 (e ▸ hb)
    · exact (h.row_ne hxI e).2.1 hb
  · intro y hy
    have hcase : (y ∈ I1 ∨ y ∈ I2) ∨ y = ⟨x.n, x.wb, v', l', p'⟩ := by
      rcases List.mem_append.1 hy with hy | hy
      · exact .inl (.inl hy)
      · rcases List.mem_cons.1 hy with hy | hy
        · exact .inr hy
        · exact .inl (.inr hy)
    rcases hcase with hy | rfl
    · have ho := hoth y hy
      have hyI := hmem y hy
      refine wk_fr hf (h.wk y hyI) (fun q => ?_) (fun k hk q => ?_) (fun _ q => .inl q)
      · rcases q with q | q
        · exact ho.1 q
        · exact (h.row_ne hxI q).2.2.2 y hyI rfl
      · rcases q with q | q
        · exact (h.row_ne hyI hk).2.2.2 x hxI q.symm
        · exact ho.2 k hk q
    · refine ⟨.inl hx.1, hb, hr, fun k hk => ?_⟩
      rcases hv with hv | ⟨b, hv, hle⟩
      · exact .inl (hx.2.2.2 k (hv ▸ hk))
      · exact .inr ⟨by rw [show v'.ownBlock = some k from hk] at hv; cases hv; exact hle, hr.lt k hk⟩
  · rw [List.pairwise_append, List.pairwise_cons]
    refine ⟨a1, ⟨fun y hy => ⟨(a2 y hy).1, fun k hk e => hnew y (.inr hy) k hk e⟩, a3⟩, fun y hy z hz => ?_⟩
    rcases List.mem_cons.1 hz with rfl | hz
    · exact ⟨(hoth y (.inl hy)).1, fun k hk e => hnew y (.inl hy) k e hk⟩
    · exact a4 y hy z (by simp [hz])
  · rintro (e | e)
    · exact w1.1 e.symm
    · exact (h.row_ne hxI e).1 rfl
  · rintro i hi (e | e)
    · exact w1.2.2 (e ▸ hi)
    · exact (h.row_ne hxI e).2.2.1 hi
/-- The values have turned. -/
theorem KvR.vals (h : KvR Pz F w b0 vs th lk I L mo lo) (hf : Fr (fun i => i = b0) w w') (h1 : vs'.length = 16) (h2 : th'.length = 16) (hb : w'.heap[b0]? = some (.cells (storeCells Pz vs' th' mo lo) 91 (0, 0))) : KvR Pz F w' b0 vs' th' lk I L mo lo := by
  have hn := h.mo_ne
  refine ⟨fun i hi => Nat.lt_of_lt_of_le (h.fb i hi) hf.size, h.b, h1, h2, hb, h.map.fr hf (fun b hb q => hn.1 (q ▸ hb)), h.kvL, h.mF, fun x hx => ?_, h.apart, ?_, h.lF, h.ml⟩
  · exact wk_fr hf (h.wk x hx) (h.wb_ne hx).1 (fun k hk => (h.row_ne hx hk).1) (fun _ q => q)
  · obtain ⟨L2, h0, ⟨mo2, h3, h4, h5, h6⟩⟩ := h.lt
    rw [sc33 h.lv h.lth] at h4
    cases h4
    exact ⟨L2, h0, ⟨lo, hb, sc33 h1 h2 _ _, h5.fr hf (fun b hb q => hn.2 (q ▸ hb)), fun b hb => hb⟩⟩
end
end Go.Proofs.Ytdejbinmnoabeaa.K
