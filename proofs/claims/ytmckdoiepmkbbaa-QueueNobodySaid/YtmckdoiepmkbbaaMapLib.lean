/- Laws on a map's block, raw: entries as a list of (key, element, stamp); no program of Go in sight. -/
import Derived.WalkKit
import Derived.Maps.RangeWalk
import Derived.Maps.OwnSet
import Derived.Deep.QuietTactic
import Derived.BigQuiet
namespace Go.Mine
set_option linter.unusedVariables false
set_option linter.unusedSimpArgs false
set_option linter.unusedSectionVars false
open Go.ChangeMaps (setBlock)
open Go.RowKit
theorem hid {p : Prop} (h : p) : Hid p := h
/-- The walk stops here. -/
def Stop (p : Prop) : Prop := p
theorem stop {p : Prop} (h : p) : Stop p := h

section
variable {α β : Type} [DecidableEq α] (eK : α → Value) (eV : β → Value)

def ent (x : α × β × Nat) : MapEntry := ⟨eK x.1, eV x.2.1, x.2.2⟩
def ents (L : List (α × β × Nat)) : Array MapEntry := (L.map (ent eK eV)).toArray

/-- What the list of entries is like. -/
structure Ok (L : List (α × β × Nat)) (clock : Nat) : Prop where
  keys : L.Pairwise (fun x y => x.1 ≠ y.1)
  born : (L.map (·.2.2)).Nodup
  lt : ∀ x ∈ L, x.2.2 < clock

structure MapAt (w : World) (b : Nat) (L : List (α × β × Nat)) (clock : Nat) : Prop where
  heap : w.heap[b]? = some (.map (ents eK eV L) clock)
  ok : Ok L clock

def mget (k : α) (L : List (α × β × Nat)) : Option β := (L.find? (fun e => e.1 = k)).map (·.2.1)
def mput (k : α) (v : β) (c : Nat) (L : List (α × β × Nat)) : List (α × β × Nat) :=
  if (mget k L).isSome then L.map (fun e => if e.1 = k then (e.1, v, e.2.2) else e) else L ++ [(k, v, c)]
def mdel (k : α) (L : List (α × β × Nat)) : List (α × β × Nat) := L.filter (fun e => e.1 ≠ k)

/-- The place of a key, and its element's value. -/
def place (k : α) : List (α × β × Nat) → Nat → Option (Nat × Value)
  | [], _ => none
  | e :: es, i => if k = e.1 then some (i, eV e.2.1) else place k es (i + 1)

theorem place_get (k : α) : ∀ (L : List (α × β × Nat)) (i : Nat), (place eV k L i).map (·.2) = (mget k L).map eV
  | [], _ => rfl
  | e :: es, i => by
    unfold place mget
    by_cases h : k = e.1
    · subst h; simp
    · have h' : ¬ e.1 = k := fun q => h q.symm
      simp only [h, if_false, List.find?_cons, h', decide_false]
      exact place_get k es (i + 1)

/-- A type of keys: what the model asks of one. -/
structure KeyOk (P : Program) (kt : TypeId) (eK : α → Value) : Prop where
  chk : ∀ (e : Bool) (x : α) (w : World), (Instr.checkKey e 10000 kt (eK x)).run P w = .ok () w
  find : ∀ (β : Type) (eV : β → Value) (x : α) (L : List (α × β × Nat)) (w : World), (Instr.findKey kt (eK x) (L.map (ent eK eV))).run P w = .ok (place eV x L 0) w
  bits : ∀ x : α, Instr.sameBits 10000 (eK x) (eK x) = true

theorem findNow_int (q : IntKind) (x : Int) : ∀ (L : List (Int × β × Nat)) (i : Nat), Instr.findNow (.int q) (.int q x) (L.map (ent (Value.int q) eV)) i = some (place eV x L i)
  | [], _ => rfl
  | e :: es, i => by
    simp only [List.map_cons, ent, Instr.findNow, Instr.sameNow, place]
    by_cases h : x = e.1
    · simp [h]
    · have : (x == e.1) = false := by simpa using h
      simp only [if_true, this, h, if_false]
      exact findNow_int q x es (i + 1)

theorem intKey {P : Program} {kt : TypeId} {q : IntKind} (h : P.underlying kt = some (.int q)) : KeyOk P kt (Value.int q) where
  chk e x w := MapKept.run_checkKey h (by simp [MapKept.IsKey]) e 9999
  find β eV x L w := MapKept.run_findKey h (findNow_int eV q x L 0)
  bits x := by simp [Instr.sameBits]

theorem findAsking_run {P : Program} {kt : TypeId} {eK : α → Value} (heq : ∀ (x y : α) (w : World), (Op.equal kt (eK x) (eK y)).run P w = .ok (decide (x = y)) w) (x : α) :
    ∀ (L : List (α × β × Nat)) (i : Nat) (w : World), (Instr.findAsking kt (eK x) (L.map (ent eK eV)) i).run P w = .ok (place eV x L i) w
  | [], _, _ => rfl
  | e :: es, i, w => by
    simp only [List.map_cons, Instr.findAsking, place, Sem.run_bind, ent, heq, Result.andThen]
    by_cases h : x = e.1
    · simp [h]
    · simp only [h, decide_false, Bool.false_eq_true, if_false]
      exact findAsking_run heq x es (i + 1) w

/-- Keys that are structs of two ints. -/
def eK2 (x : Int × Int) : Value := .agg #[.int .i64 x.1, .int .i64 x.2]

theorem findNow_agg {d : TypeDesc} (x : Int × Int) (e : (Int × Int) × β × Nat) (es : List ((Int × Int) × β × Nat)) (i : Nat) :
    Instr.findNow d (eK2 x) ((e :: es).map (ent eK2 eV)) i = none := by
  cases d <;> simp [Instr.findNow, Instr.sameNow, eK2]

theorem struct2Key {P : Program} {kt : TypeId} {d : TypeDesc} (hu : P.underlying kt = some d)
    (hchk : ∀ (e : Bool) (x : Int × Int) (w : World), (Instr.checkKey e 10000 kt (eK2 x)).run P w = .ok () w)
    (heq : ∀ (x y : Int × Int) (w : World), (Op.equal kt (eK2 x) (eK2 y)).run P w = .ok (decide (x = y)) w) : KeyOk P kt eK2 where
  chk := hchk
  find β eV x L w := by
    cases L with
    | nil => simp [Instr.findKey, run_underlying hu, Result.andThen, Instr.findNow, place]
    | cons e es =>
      simp only [Instr.findKey, Sem.run_bind, run_underlying hu, Result.andThen, findNow_agg]
      exact findAsking_run eV heq x (e :: es) 0 w
  bits x := by simp [Instr.sameBits, eK2]

theorem ents_size (L : List (α × β × Nat)) : (ents eK eV L).size = L.length := by simp [ents]
theorem ents_empty (L : List (α × β × Nat)) : (ents eK eV L).isEmpty = L.isEmpty := by cases L <;> simp [ents]

theorem run_lookup {P : Program} {t kt et : TypeId} {eK : α → Value} {eV : β → Value} (ht : P.underlying t = some (.map kt et)) (K : KeyOk P kt eK) {w : World} {b c : Nat} {L : List (α × β × Nat)}
    (h : MapAt eK eV w b L c) {z : Value} (hz : (zeroValue et).run P w = .ok z w) (x : α) (ok : Bool) :
    (Instr.lookup t (.map (some b)) (eK x) ok).run P w = .ok (if ok then .tuple #[((mget x L).map eV).getD z, .bool (mget x L).isSome] else ((mget x L).map eV).getD z) w := by
  have hf := K.find β eV x L w
  have hp := place_get eV x L 0
  have hl : (ents eK eV L).toList = L.map (ent eK eV) := by simp [ents]
  simp only [Instr.lookup, Sem.run_bind, run_underlying ht, Result.andThen, MapKept.run_getObj_map h.heap, Sem.run_pure, K.chk, hl, hf]
  cases hpl : place eV x L 0 with
  | none =>
    rw [hpl] at hp
    have hn : mget x L = none := by simpa using hp.symm
    simp [hz, hn, Result.andThen]
  | some iv =>
    obtain ⟨i, v⟩ := iv
    rw [hpl] at hp
    have hs : (mget x L).map eV = some v := by simpa using hp.symm
    cases hm : mget x L with
    | none => simp [hm] at hs
    | some y =>
      have : eV y = v := by simpa [hm] using hs
      subst this
      simp

theorem run_lookup_nil {P : Program} {t kt et : TypeId} {eK : α → Value} (ht : P.underlying t = some (.map kt et)) (K : KeyOk P kt eK) {w : World} {z : Value} (hz : (zeroValue et).run P w = .ok z w) (x : α) (ok : Bool) :
    (Instr.lookup t (.map none) (eK x) ok).run P w = .ok (if ok then .tuple #[z, .bool false] else z) w := by
  have hf := K.find Nat (fun n => .int .i64 n) x [] w
  simp only [List.map_nil, place] at hf
  simp [Instr.lookup, run_underlying ht, Result.andThen, K.chk, hf, hz]

/-- A map's value: nil, or a block. -/
def MapO (eK : α → Value) (eV : β → Value) (w : World) (mo : Option Nat) (L : List (α × β × Nat)) : Prop :=
  match mo with
  | none => L = []
  | some b => ∃ c, MapAt eK eV w b L c

theorem run_lookupO {P : Program} {t kt et : TypeId} {eK : α → Value} {eV : β → Value} (ht : P.underlying t = some (.map kt et)) (K : KeyOk P kt eK) {w : World} {mo : Option Nat} {L : List (α × β × Nat)}
    (h : MapO eK eV w mo L) {z : Value} (hz : (zeroValue et).run P w = .ok z w) (x : α) (ok : Bool) :
    (Instr.lookup t (.map mo) (eK x) ok).run P w = .ok (if ok then .tuple #[((mget x L).map eV).getD z, .bool (mget x L).isSome] else ((mget x L).map eV).getD z) w := by
  cases mo with
  | none =>
    have : L = [] := h
    subst this
    rw [run_lookup_nil ht K hz]
    cases ok <;> simp [mget]
  | some b =>
    obtain ⟨c, h⟩ := h
    exact run_lookup ht K h hz x ok

/-! ### The list's own laws -/
theorem place_some {k : α} : ∀ {L : List (α × β × Nat)} {i : Nat} {p : Nat × Value}, place eV k L i = some p → ∃ j, p.1 = i + j ∧ ∃ e, L[j]? = some e ∧ e.1 = k
  | [], _, _, h => by simp [place] at h
  | e :: es, i, p, h => by
    unfold place at h
    by_cases hk : k = e.1
    · simp only [hk, if_true, Option.some.injEq] at h
      subst h
      exact ⟨0, rfl, e, rfl, hk.symm⟩
    · simp only [hk, if_false] at h
      obtain ⟨j, h1, e', h2, h3⟩ := place_some h
      exact ⟨j + 1, by omega, e', by simpa using h2, h3⟩

theorem modify_key {k : α} {v : β} : ∀ {L : List (α × β × Nat)}, L.Pairwise (fun x y => x.1 ≠ y.1) → ∀ {j : Nat} {e : α × β × Nat}, L[j]? = some e → e.1 = k →
    L.modify j (fun e => (e.1, v, e.2.2)) = L.map (fun e => if e.1 = k then (e.1, v, e.2.2) else e)
  | [], _, _, _, h, _ => by simp at h
  | x :: xs, hp, 0, e, h, hk => by
    simp only [List.getElem?_cons_zero, Option.some.injEq] at h
    subst h
    have h1 := (List.pairwise_cons.1 hp).1
    simp only [List.modify_zero_cons, List.map_cons, hk, if_true, List.cons.injEq, true_and]
    conv => lhs; rw [← List.map_id' xs]
    apply List.map_congr_left
    intro y hy
    rw [if_neg (fun q => h1 y hy (hk.trans q.symm))]
  | x :: xs, hp, j + 1, e, h, hk => by
    have h1 := List.pairwise_cons.1 hp
    have hx : ¬ x.1 = k := fun q => h1.1 e (List.mem_of_getElem? (by simpa using h)) (q.trans hk.symm)
    simp only [List.modify_succ_cons, List.map_cons, hx, if_false, List.cons.injEq, true_and]
    exact modify_key h1.2 (by simpa using h) hk

theorem erase_key {k : α} : ∀ {L : List (α × β × Nat)}, L.Pairwise (fun x y => x.1 ≠ y.1) → ∀ {j : Nat} {e : α × β × Nat}, L[j]? = some e → e.1 = k → L.eraseIdx j = mdel k L
  | [], _, _, _, h, _ => by simp at h
  | x :: xs, hp, 0, e, h, hk => by
    simp only [List.getElem?_cons_zero, Option.some.injEq] at h
    subst h
    have h1 := (List.pairwise_cons.1 hp).1
    simp only [List.eraseIdx_zero, List.tail_cons, mdel, List.filter_cons, hk, ne_eq, not_true, decide_false, Bool.false_eq_true, if_false]
    symm
    rw [List.filter_eq_self]
    intro y hy
    simpa using fun q => h1 y hy (hk.trans q.symm)
  | x :: xs, hp, j + 1, e, h, hk => by
    have h1 := List.pairwise_cons.1 hp
    have hx : ¬ x.1 = k := fun q => h1.1 e (List.mem_of_getElem? (by simpa using h)) (q.trans hk.symm)
    simp only [List.eraseIdx_cons_succ, mdel, List.filter_cons, hx, ne_eq, not_false_eq_true, decide_true, if_true, List.cons.injEq, true_and]
    exact erase_key h1.2 (by simpa using h) hk

theorem mget_none {k : α} {L : List (α × β × Nat)} : mget k L = none ↔ ∀ e ∈ L, e.1 ≠ k := by
  simp [mget, List.find?_eq_none]
theorem mdel_none {k : α} {L : List (α × β × Nat)} (h : mget k L = none) : mdel k L = L := by
  rw [mget_none] at h
  simp only [mdel, List.filter_eq_self]
  intro y hy
  simpa using h y hy

theorem Ok.put {L : List (α × β × Nat)} {c : Nat} (h : Ok L c) (k : α) (v : β) : Ok (mput k v c L) (if (mget k L).isSome then c else c + 1) := by
  unfold mput
  split
  · refine ⟨?_, ?_, ?_⟩
    · rw [List.pairwise_map]
      refine h.keys.imp ?_
      intro a b hab
      have e : ∀ x : α × β × Nat, (if x.1 = k then (x.1, v, x.2.2) else x).1 = x.1 := fun x => by split <;> rfl
      rw [e, e]; exact hab
    · have : (List.map (fun e => if e.1 = k then (e.1, v, e.2.2) else e) L).map (fun x => x.2.2) = L.map (fun x => x.2.2) := by
        rw [List.map_map]; apply List.map_congr_left; intro x _; simp only [Function.comp_apply]; split <;> rfl
      rw [this]; exact h.born
    · intro x hx
      obtain ⟨y, hy, rfl⟩ := List.mem_map.1 hx
      have := h.lt y hy
      split <;> exact this
  · rename_i hn
    have hn' : mget k L = none := by simpa using hn
    rw [mget_none] at hn'
    refine ⟨?_, ?_, ?_⟩
    · rw [List.pairwise_append]
      refine ⟨h.keys, by simp, ?_⟩
      intro a ha b hb
      simp at hb; subst hb
      exact hn' a ha
    · rw [List.map_append, List.nodup_append]
      refine ⟨h.born, by simp, ?_⟩
      intro a ha b hb
      simp at hb; subst hb
      obtain ⟨x, hx, rfl⟩ := List.mem_map.1 ha
      exact Nat.ne_of_lt (h.lt x hx)
    · intro x hx
      rcases List.mem_append.1 hx with hx | hx
      · exact Nat.lt_succ_of_lt (h.lt x hx)
      · simp at hx; subst hx; exact Nat.lt_succ_self _

theorem nodup_map_inj {γ δ : Type} {f : γ → δ} : ∀ {l : List γ}, (l.map f).Nodup → ∀ {x y : γ}, x ∈ l → y ∈ l → f x = f y → x = y
  | [], _, _, _, hx, _, _ => by cases hx
  | z :: zs, h, x, y, hx, hy, e => by
    simp only [List.map_cons, List.nodup_cons] at h
    rcases List.mem_cons.1 hx with ex | hx'
    · rcases List.mem_cons.1 hy with ey | hy'
      · rw [ex, ey]
      · exact absurd (show f z ∈ zs.map f from ex ▸ (e ▸ List.mem_map_of_mem hy')) h.1
    · rcases List.mem_cons.1 hy with ey | hy'
      · exact absurd (show f z ∈ zs.map f from ey ▸ (e ▸ List.mem_map_of_mem hx')) h.1
      · exact nodup_map_inj h.2 hx' hy' e
theorem Ok.born_inj {L : List (α × β × Nat)} {c : Nat} (h : Ok L c) {x y : α × β × Nat} (hx : x ∈ L) (hy : y ∈ L) (e : x.2.2 = y.2.2) : x = y := nodup_map_inj h.born hx hy e
theorem mfilter_lt {γ : Type} {p : γ → Bool} {l : List γ} {x : γ} (hx : x ∈ l) (h : p x = false) : (l.filter p).length < l.length := by
  rcases Nat.lt_or_ge (l.filter p).length l.length with h' | h'
  · exact h'
  · have := List.length_filter_eq_length_iff.1 (Nat.le_antisymm (List.length_filter_le p l) h') x hx
    rw [h] at this; cases this
theorem Ok.del {L : List (α × β × Nat)} {c : Nat} (h : Ok L c) (k : α) : Ok (mdel k L) c :=
  ⟨h.keys.filter _, (List.Sublist.map _ List.filter_sublist).nodup h.born, fun x hx => h.lt x (List.mem_filter.1 hx).1⟩
theorem Ok.nil (c : Nat) : Ok ([] : List (α × β × Nat)) c := ⟨by simp, by simp, by simp⟩
end

/-! ### Frames: what a call may have turned -/
structure Fr (S : Nat → Prop) (w w' : World) : Prop where
  os : w'.os = w.os
  tape : w'.tape = w.tape
  output : w'.output = w.output
  size : w.heap.size ≤ w'.heap.size
  block : ∀ k, k < w.heap.size → ¬ S k → w'.heap[k]? = w.heap[k]?

theorem Fr.refl (S : Nat → Prop) (w : World) : Fr S w w := ⟨rfl, rfl, rfl, Nat.le_refl _, fun _ _ _ => rfl⟩
theorem Fr.trans {S S' : Nat → Prop} {a b c : World} (h : Fr S a b) (k : Fr S' b c) (hS : ∀ i, S' i → S i ∨ a.heap.size ≤ i) : Fr S a c :=
  ⟨k.os.trans h.os, k.tape.trans h.tape, k.output.trans h.output, Nat.le_trans h.size k.size, fun i hi hn =>
    (k.block i (Nat.lt_of_lt_of_le hi h.size) (fun q => (hS i q).elim hn (fun q => by omega))).trans (h.block i hi hn)⟩
theorem Fr.mono {S S' : Nat → Prop} {a b : World} (h : Fr S a b) (hS : ∀ i, S i → S' i) : Fr S' a b :=
  ⟨h.os, h.tape, h.output, h.size, fun i hi hn => h.block i hi (fun q => hn (hS i q))⟩
theorem Fr.alloc {S : Nat → Prop} {a w : World} (h : Fr S a w) (o : Obj) : Fr S a (w.alloc o) :=
  ⟨h.os, h.tape, h.output, by have := h.size; simp; omega, fun i hi hn => (Below.heap_alloc _ _ _ (by have := h.size; omega)).trans (h.block i hi hn)⟩
theorem Fr.drew {S : Nat → Prop} {a w : World} (h : Fr S a w) : Fr S a w.drew := ⟨h.os, h.tape, h.output, h.size, h.block⟩
theorem Fr.drewN {S : Nat → Prop} {a w : World} (h : Fr S a w) (n : Nat) : Fr S a (w.drewN n) := ⟨h.os, h.tape, h.output, h.size, h.block⟩
theorem Fr.setCell {S : Nat → Prop} {a w : World} (h : Fr S a w) {p : Addr} (hp : S p.block ∨ a.heap.size ≤ p.block) (u : Value) : Fr S a (w.setCell p u) :=
  ⟨h.os, h.tape, h.output, by simpa [World.setCell] using h.size, fun i hi hn => (Below.heap_setCell _ _ _ _ (fun e => by subst e; rcases hp with hp | hp; exact hn hp; omega)).trans (h.block i hi hn)⟩
theorem Fr.setBlock {S : Nat → Prop} {a w : World} (h : Fr S a w) {b : Nat} (hp : S b ∨ a.heap.size ≤ b) (o : Obj) : Fr S a (setBlock w b o) :=
  ⟨h.os, h.tape, h.output, by simpa [ChangeMaps.setBlock] using h.size, fun i hi hn => by
    have : i ≠ b := fun e => by subst e; rcases hp with hp | hp; exact hn hp; omega
    refine Eq.trans ?_ (h.block i hi hn)
    simp [ChangeMaps.setBlock, Array.getElem?_setIfInBounds, Ne.symm this]⟩
theorem Fr.below {S : Nat → Prop} {w w' : World} (h : Fr S w w') {B : Nat} (hB : B ≤ w.heap.size) (hS : ∀ k, k < B → ¬ S k) : Below B w w' :=
  ⟨h.os, h.tape, h.output, h.size, fun k hk => h.block k (by omega) (hS k hk)⟩
theorem Fr.cell {S : Nat → Prop} {w w' : World} (h : Fr S w w') {p : Addr} {v : Value} (hc : w.cell? p = some v) (hp : ¬ S p.block) : w'.cell? p = some v :=
  (World.cell?_of_block (w := w) (h.block p.block (World.block_lt_of_cell? _ _ hc) hp)).trans hc
theorem Fr.at_ {S : Nat → Prop} {w w' : World} (h : Fr S w w') {b : Nat} {o : Obj} (hb : w.heap[b]? = some o) (hp : ¬ S b) : w'.heap[b]? = some o :=
  (h.block b (Array.getElem?_eq_some_iff.1 hb).1 hp).trans hb
theorem Fr.of_below {B : Nat} {w w' : World} (h : Below B w w') (hB : w.heap.size ≤ B) : Fr (fun _ => False) w w' := ⟨h.os, h.tape, h.output, h.size, fun k hk _ => h.block k (by omega)⟩
theorem Fr.of_grown {w w' : World} {row : Option Nat} (h : w.grownBy w' row) : Fr (fun k => row = some k) w w' := ⟨h.os, h.tape, h.output, h.size, fun k hk hn => h.block k hk (fun e => hn e.symm)⟩

theorem setBlock_same {w : World} {b : Nat} {o : Obj} (h : w.heap[b]? = some o) (o' : Obj) : (setBlock w b o').heap[b]? = some o' := (MapKept.heap_set h).1
theorem setBlock_size (w : World) (b : Nat) (o : Obj) : (setBlock w b o).heap.size = w.heap.size := by simp [ChangeMaps.setBlock]

section
variable {α β : Type} [DecidableEq α] {eK : α → Value} {eV : β → Value}
theorem MapAt.lt {w : World} {b c : Nat} {L : List (α × β × Nat)} (h : MapAt eK eV w b L c) : b < w.heap.size := (Array.getElem?_eq_some_iff.1 h.heap).1
theorem MapAt.fr {S : Nat → Prop} {w w' : World} {b c : Nat} {L : List (α × β × Nat)} (h : MapAt eK eV w b L c) (hf : Fr S w w') (hb : ¬ S b) : MapAt eK eV w' b L c :=
  ⟨hf.at_ h.heap hb, h.ok⟩
theorem MapO.fr {S : Nat → Prop} {w w' : World} {mo : Option Nat} {L : List (α × β × Nat)} (h : MapO eK eV w mo L) (hf : Fr S w w') (hb : ∀ b, mo = some b → ¬ S b) : MapO eK eV w' mo L := by
  cases mo with
  | none => exact h
  | some b => obtain ⟨c, h⟩ := h; exact ⟨c, h.fr hf (hb b rfl)⟩
theorem MapO.ok {w : World} {mo : Option Nat} {L : List (α × β × Nat)} (h : MapO eK eV w mo L) : ∃ c, Ok L c := by
  cases mo with
  | none => have : L = [] := h; subst this; exact ⟨0, Ok.nil 0⟩
  | some b => obtain ⟨c, h⟩ := h; exact ⟨c, h.ok⟩

theorem run_len {P : Program} {t kt et ty : TypeId} (ht : P.underlying t = some (.map kt et)) {w : World} {mo : Option Nat} {L : List (α × β × Nat)} (h : MapO eK eV w mo L) :
    (Builtin.len_ #[t] ty #[.map mo]).run P w = .ok (.int .i64 L.length) w := by
  cases mo with
  | none => have : L = [] := h; subst this; simp [Builtin.len_, run_underlying ht, Result.andThen, goInt]
  | some b =>
    obtain ⟨c, h⟩ := h
    simp [Builtin.len_, run_underlying ht, Result.andThen, goInt, MapKept.run_getObj_map h.heap, ents]

/-- m[k] = v. -/
theorem run_update {P : Program} {t kt et : TypeId} (ht : P.underlying t = some (.map kt et)) (K : KeyOk P kt eK) {w : World} {b c : Nat} {L : List (α × β × Nat)} (h : MapAt eK eV w b L c) (x : α) (v : β) :
    (Instr.mapUpdate t (.map (some b)) (eK x) (eV v)).run P w = .ok () (setBlock w b (.map (ents eK eV (mput x v c L)) (if (mget x L).isSome then c else c + 1))) := by
  have hf := K.find β eV x L w
  have hp := place_get eV x L 0
  have hl : (ents eK eV L).toList = L.map (ent eK eV) := by simp [ents]
  simp only [Instr.mapUpdate, Sem.run_bind, run_underlying ht, Result.andThen, MapKept.run_getObj_map h.heap, Sem.run_pure, K.chk, hl, hf]
  cases hpl : place eV x L 0 with
  | none =>
    rw [hpl] at hp
    have hn : mget x L = none := by simpa using hp.symm
    simp only [MapKept.run_setObj_map _ h.heap, hn, Option.isSome_none, Bool.false_eq_true, if_false, mput]
    congr 2
    simp [ents, ent]
  | some iv =>
    obtain ⟨j, hj, e, he, hek⟩ := place_some eV hpl
    obtain ⟨i, v'⟩ := iv
    rw [hpl] at hp
    have hs : (mget x L).isSome = true := by
      have : ((mget x L).map eV).isSome = true := by rw [← hp]; rfl
      simpa using this
    simp only [Nat.zero_add] at hj
    subst hj
    have hkey : (((ents eK eV L)[i]?).map (·.key)).getD (eK x) = eK x := by
      simp [ents, he, ent, hek]
    have hm : (ents eK eV L).modify i (fun e => { e with key := eK x, val := eV v }) = ents eK eV (mput x v c L) := by
      simp only [mput, hs, if_true]
      rw [← modify_key h.ok.keys (v := v) he hek]
      simp only [ents, List.modify_toArray]
      congr 1
      apply List.ext_getElem?
      intro k
      simp only [List.getElem?_modify, List.getElem?_map]
      by_cases hk : i = k
      · subst hk; simp [he, ent, hek]
      · simp [hk]
    simp only [hkey, Instr.keyThatStays, K.bits, if_true, Sem.run_bind, Sem.run_pure, Result.andThen, hm, MapKept.run_setObj_map _ h.heap, hs]
    rfl

theorem MapAt.put {w : World} {b c : Nat} {L : List (α × β × Nat)} (h : MapAt eK eV w b L c) (x : α) (v : β) :
    MapAt eK eV (setBlock w b (.map (ents eK eV (mput x v c L)) (if (mget x L).isSome then c else c + 1))) b (mput x v c L) (if (mget x L).isSome then c else c + 1) :=
  ⟨setBlock_same h.heap _, h.ok.put x v⟩

theorem run_update_at {P : Program} {t kt et : TypeId} (ht : P.underlying t = some (.map kt et)) (K : KeyOk P kt eK) {w : World} {b c : Nat} {L : List (α × β × Nat)} (h : MapAt eK eV w b L c) (x : α) (v : β) :
    ∃ w' c', (Instr.mapUpdate t (.map (some b)) (eK x) (eV v)).run P w = .ok () w' ∧ MapAt eK eV w' b (mput x v c L) c' ∧ Fr (· = b) w w' ∧ w'.heap.size = w.heap.size :=
  ⟨_, _, run_update ht K h x v, h.put x v, (Fr.refl (· = b) w).setBlock (b := b) (.inl rfl) _, setBlock_size _ _ _⟩

/-- delete(m, k). -/
theorem run_delete {P : Program} {t kt et ty : TypeId} (ht : P.underlying t = some (.map kt et)) (K : KeyOk P kt eK) {w : World} {b c : Nat} {L : List (α × β × Nat)} (h : MapAt eK eV w b L c) (x : α) :
    ∃ w', (Builtin.delete_ #[t, kt] ty #[.map (some b), eK x]).run P w = .ok (.tuple #[]) w' ∧ MapAt eK eV w' b (mdel x L) c ∧ Fr (· = b) w w' ∧ w'.heap.size = w.heap.size := by
  have hf := K.find β eV x L w
  have hp := place_get eV x L 0
  have hl : (ents eK eV L).toList = L.map (ent eK eV) := by simp [ents]
  refine ⟨setBlock w b (.map (ents eK eV (mdel x L)) c), ?_, ⟨setBlock_same h.heap _, h.ok.del x⟩, (Fr.refl (· = b) w).setBlock (b := b) (.inl rfl) _, setBlock_size _ _ _⟩
  simp only [Builtin.delete_, List.getElem?_toArray, List.getElem?_cons_zero, List.getElem?_cons_succ, Sem.run_bind, run_underlying ht, Result.andThen, MapKept.run_getObj_map h.heap, Sem.run_pure, K.chk, hl, hf]
  cases hpl : place eV x L 0 with
  | none =>
    rw [hpl] at hp
    have hn : mget x L = none := by simpa using hp.symm
    simp only [Sem.run_bind, MapKept.run_setObj_map _ h.heap, mdel_none hn, Result.andThen, Sem.run_pure]
    rfl
  | some iv =>
    obtain ⟨j, hj, e, he, hek⟩ := place_some eV hpl
    obtain ⟨i, v'⟩ := iv
    simp only [Nat.zero_add] at hj
    subst hj
    have hlt : i < L.length := (List.getElem?_eq_some_iff.1 he).1
    have : (ents eK eV L).eraseIdxIfInBounds i = ents eK eV (mdel x L) := by
      rw [← erase_key h.ok.keys he hek]
      simp only [ents, Array.eraseIdxIfInBounds, List.size_toArray, List.length_map, hlt, dif_pos, List.eraseIdx_toArray]
      congr 1
      apply List.ext_getElem?
      intro k
      simp only [List.getElem?_eraseIdx, List.getElem?_map]
      split <;> rfl
    simp only [Sem.run_bind, MapKept.run_setObj_map _ h.heap, this, Result.andThen, Sem.run_pure]
    rfl
theorem run_delete_nil {P : Program} {t kt et ty : TypeId} (ht : P.underlying t = some (.map kt et)) (K : KeyOk P kt eK) (w : World) (x : α) :
    (Builtin.delete_ #[t, kt] ty #[.map none, eK x]).run P w = .ok (.tuple #[]) w := by
  simp [Builtin.delete_, run_underlying ht, Result.andThen, K.chk]

/-! ### Ranging over a map -/
/-- Block r is an iterator over the map in block b; 'left': the entries that are still to come. -/
def IterAt (w : World) (r b c : Nat) (L left : List (α × β × Nat)) : Prop :=
  ∃ (seen : Array Nat), w.heap[r]? = some (.mapIter (some b) c seen c) ∧ (∀ x ∈ L, x.2.2 < c) ∧ left = L.filter (fun x => !seen.contains x.2.2)

theorem IterAt.fr {S : Nat → Prop} {w w' : World} {r b c : Nat} {L left : List (α × β × Nat)} (h : IterAt w r b c L left) (hf : Fr S w w') (hr : ¬ S r) : IterAt w' r b c L left := by
  obtain ⟨seen, h1, h2⟩ := h
  exact ⟨seen, hf.at_ h1 hr, h2⟩

theorem IterAt.sub {w : World} {r b c : Nat} {L left : List (α × β × Nat)} (h : IterAt w r b c L left) : ∀ y ∈ left, y ∈ L := by
  obtain ⟨seen, h1, h2, h3⟩ := h
  subst h3
  exact fun y hy => (List.mem_filter.1 hy).1
theorem IterAt.del {w : World} {r b c : Nat} {L left : List (α × β × Nat)} (h : IterAt w r b c L left) (k : α) (hk : ∀ y ∈ left, y.1 ≠ k) : IterAt w r b c (mdel k L) left := by
  obtain ⟨seen, h1, h2, h3⟩ := h
  refine ⟨seen, h1, fun x hx => h2 x (List.mem_filter.1 hx).1, ?_⟩
  rw [mdel, List.filter_filter]
  have : left = left.filter (fun y => decide (y.1 ≠ k)) := by
    symm
    rw [List.filter_eq_self]
    intro y hy
    simpa using hk y hy
  rw [this, h3, List.filter_filter]
  apply List.filter_congr
  intro y _
  rw [Bool.and_comm]
theorem IterAt.ne {w : World} {r b c : Nat} {L left : List (α × β × Nat)} (h : IterAt w r b c L left) (hm : MapAt eK eV w b L c) : r ≠ b := by
  rintro rfl
  obtain ⟨seen, h1, _⟩ := h
  have := hm.heap
  rw [h1] at this
  cases this

theorem leftOf_ents (L : List (α × β × Nat)) (seen : Array Nat) : leftOf (ents eK eV L) seen = ents eK eV (L.filter (fun x => !seen.contains x.2.2)) := by
  unfold leftOf ents
  rw [← Array.toList_inj]
  simp only [Array.toList_filter, List.filter_map]
  rfl

theorem run_range {P : Program} {t kt et : TypeId} (ht : P.underlying t = some (.map kt et)) {w : World} {b c : Nat} {L : List (α × β × Nat)} (h : MapAt eK eV w b L c) :
    ∃ w', (Instr.range t (.map (some b))).run P w = .ok (.pointer (some ⟨w.heap.size, 0, none⟩)) w' ∧ IterAt w' w.heap.size b c L L ∧ Fr (fun _ => False) w w' ∧ w'.heap.size = w.heap.size + 1 := by
  refine ⟨w.alloc (.mapIter (some b) c #[] c), ?_, ⟨#[], (MapKept.heap_alloc w _).1, h.ok.lt, by simp [List.filter_eq_self.2]⟩, (Fr.refl _ _).alloc _, by simp⟩
  simp only [Instr.range, Sem.run_bind, run_underlying ht, Result.andThen, MapKept.run_getObj_map h.heap, Sem.run_pure]
  rfl

theorem step_next {P : Program} {w : World} {r b c : Nat} {L left : List (α × β × Nat)} (hm : MapAt eK eV w b L c) (hi : IterAt w r b c L left) (ty : TypeId) :
    (left = [] ∧ (Instr.next (.pointer (some ⟨r, 0, none⟩)) false ty).run P w = .ok (.tuple #[.bool false]) w) ∨
    ∃ x ∈ left, ∃ w', x ∈ L ∧ (Instr.next (.pointer (some ⟨r, 0, none⟩)) false ty).run P w = .ok (.tuple #[.bool true, eK x.1, eV x.2.1]) w' ∧ MapAt eK eV w' b L c ∧
      IterAt w' r b c L (left.filter (fun y => decide (y.2.2 ≠ x.2.2))) ∧ (Instr.entry (.pointer (some ⟨r, 0, none⟩))).run P w' = .ok (.tuple #[eK x.1, eV x.2.1]) w' ∧ Fr (· = r) w w' ∧ w'.heap.size = w.heap.size := by
  have hne := hi.ne hm
  obtain ⟨seen, hr, hlt, hl⟩ := hi
  have hold : ∀ x ∈ (ents eK eV L).toList, x.born < c := by
    intro x hx
    simp only [ents, List.mem_map] at hx
    obtain ⟨y, hy, rfl⟩ := hx
    exact hlt y hy
  rcases run_next_at (P := P) w ty r b c c seen _ c hr hm.heap hold (Nat.le_refl _) with ⟨h0, hrun⟩ | ⟨e, he, w1, hw1, hrun⟩
  · left
    refine ⟨?_, hrun⟩
    rw [leftOf_ents, ents_size] at h0
    rw [hl]
    exact List.eq_nil_of_length_eq_zero h0
  · right
    rw [leftOf_ents, ← hl] at he
    simp only [ents, List.mem_map] at he
    obtain ⟨x, hx, rfl⟩ := he
    have hxL : x ∈ L := by rw [hl] at hx; exact (List.mem_filter.1 hx).1
    have hw : w1.heap = w.heap := by rcases hw1 with rfl | rfl <;> rfl
    have f1 : Fr (· = r) w w1 := by rcases hw1 with rfl | rfl; exact Fr.refl _ _; exact (Fr.refl _ _).drew
    have f2 := f1.setBlock (b := r) (.inl rfl) (.mapIter (some b) c (seen.push x.2.2) c)
    have hr1 : w1.heap[r]? = some (.mapIter (some b) c seen c) := by rw [hw]; exact hr
    have hr2 := setBlock_same hr1 (.mapIter (some b) c (seen.push x.2.2) c)
    have hm' : MapAt eK eV (setBlock w1 r (.mapIter (some b) c (seen.push x.2.2) c)) b L c := hm.fr f2 (fun q => hne q.symm)
    refine ⟨x, hx, _, hxL, hrun, hm', ⟨seen.push x.2.2, hr2, hlt, ?_⟩, ?_, f2, by rw [setBlock_size, hw]⟩
    · rw [hl, List.filter_filter]
      apply List.filter_congr
      intro y _
      simp only [Array.contains_push, Bool.not_or, ne_eq, decide_not]
      rw [Bool.and_comm]
      congr 1
    · refine run_entry_at _ r b c seen (ents eK eV L) c (ent eK eV x) hr2 hm'.heap ?_ ?_
      · simp only [ents, List.mem_map]; exact ⟨x, hxL, rfl⟩
      · simp only [ents, List.map_map]; exact hm.ok.born
end

/-! ### The same at the operations, for a walk -/
theorem run_range_nil {P : Program} {t kt et : TypeId} (ht : P.underlying t = some (.map kt et)) (w : World) : (Instr.range t (.map none)).run P w = .ok (.pointer (some ⟨w.heap.size, 0, none⟩)) (w.alloc (.mapIter none 0 #[] 0)) := by
  simp only [Instr.range, Sem.run_bind, run_underlying ht, Result.andThen, Sem.run_pure]
  rfl
section
variable {α β : Type} [DecidableEq α] {eK : α → Value} {eV : β → Value} {P : Program} {w : World} {ops : Array Oper} {rest : List Oper} {o : Oper} {a : Act} {Q : Exit → Act → World → Prop}

theorem wl_range (hg : o.guard = none) {m : Operand} {t : TypeId} (hop : o.op = Op.range t m) {kt et : TypeId} (ht : P.underlying t = some (.map kt et)) {b c : Nat} {L : List (α × β × Nat)}
    (hm : a.eval m = .map (some b)) (h : MapAt eK eV w b L c) (r : Nat) (hr : w.heap.size = r)
    (hK : ∀ w', IterAt w' r b c L L → Fr (fun _ => False) w w' → Hid (w'.heap.size = r + 1) → wpList P ops Q rest (a.put o.dst (.pointer (some ⟨r, 0, none⟩))) w') :
    wpList P ops Q (o :: rest) a w := by
  subst hr
  refine wpList_plain hg fun K' hK' => ?_
  obtain ⟨w', hrun, r1, r2, r3⟩ := run_range (P := P) ht h
  unfold Oper.wp
  simp [execOp, hop, hm, hrun, Result.andThen]
  exact hK' _ _ (hK w' r1 r2 r3)

theorem wl_next (hg : o.guard = none) {it : Operand} (hop : o.op = Op.next it false) {r b c : Nat} {L left : List (α × β × Nat)}
    (hit : a.eval it = .pointer (some ⟨r, 0, none⟩)) (hm : MapAt eK eV w b L c) (hi : IterAt w r b c L left)
    (hDone : Hid (left = []) → Stop (wpList P ops Q rest (a.put o.dst (.tuple #[.bool false])) w))
    (hMore : ∀ (k : α) (v : β) (st : Nat), (k, v, st) ∈ left → ∀ w', (k, v, st) ∈ L → MapAt eK eV w' b L c → IterAt w' r b c L (left.filter (fun y => decide (y.2.2 ≠ st))) →
      (Instr.entry (.pointer (some ⟨r, 0, none⟩))).run P w' = .ok (.tuple #[eK k, eV v]) w' → Fr (· = r) w w' → Hid (w'.heap.size = w.heap.size) →
      Stop (wpList P ops Q rest (a.put o.dst (.tuple #[.bool true, eK k, eV v])) w')) :
    wpList P ops Q (o :: rest) a w := by
  refine wpList_plain hg fun K' hK' => ?_
  unfold Oper.wp
  rcases step_next (P := P) hm hi o.type with ⟨h0, hrun⟩ | ⟨x, hx, w', hxL, hrun, h1, h2, h3, h4, h5⟩
  · simp [execOp, hop, hit, hrun, Result.andThen]
    exact hK' _ _ (hDone h0)
  · simp [execOp, hop, hit, hrun, Result.andThen]
    exact hK' _ _ (hMore x.1 x.2.1 x.2.2 hx w' hxL h1 h2 h3 h4 h5)

theorem heap_last (w : World) (o : Obj) {r : Nat} (h : w.heap.size = r) : (w.alloc o).heap[r]? = some o := h ▸ (MapKept.heap_alloc w o).1
theorem wl_next_nil (hg : o.guard = none) {it : Operand} (hop : o.op = Op.next it false) {r s c : Nat} {seen : Array Nat} (hit : a.eval it = .pointer (some ⟨r, 0, none⟩)) (hr : w.heap[r]? = some (.mapIter none s seen c))
    (hDone : Stop (wpList P ops Q rest (a.put o.dst (.tuple #[.bool false])) w)) : wpList P ops Q (o :: rest) a w := by
  refine wpList_plain hg fun K' hK' => ?_
  unfold Oper.wp
  have hrun : (Instr.next (.pointer (some ⟨r, 0, none⟩)) false o.type).run P w = .ok (.tuple #[.bool false]) w := by
    simp only [Instr.next, getObj, Sem.run_bind, Sem.run, hr, Result.andThen, Sem.run_pure]
  simp [execOp, hop, hit, hrun, Result.andThen]
  exact hK' _ _ hDone

theorem wl_update (hg : o.guard = none) {m x v : Operand} {t : TypeId} (hop : o.op = Op.mapUpdate t m x v) {kt et : TypeId} (ht : P.underlying t = some (.map kt et)) (K : KeyOk P kt eK) {b c : Nat} {L : List (α × β × Nat)}
    (hm : a.eval m = .map (some b)) (h : MapAt eK eV w b L c) (k : α) (y : β) (hx : a.eval x = eK k) (hv : a.eval v = eV y)
    (hK : ∀ w' c', MapAt eK eV w' b (mput k y c L) c' → Fr (· = b) w w' → Hid (w'.heap.size = w.heap.size) → wpList P ops Q rest (a.put o.dst undef) w') :
    wpList P ops Q (o :: rest) a w := by
  refine wpList_plain hg fun K' hK' => ?_
  obtain ⟨w', c', hrun, r1, r2, r3⟩ := run_update_at (P := P) ht K h k y
  unfold Oper.wp
  simp [execOp, hop, hm, hx, hv, hrun, Result.andThen]
  exact hK' _ _ (hK w' c' r1 r2 r3)

theorem wl_delete (hg : o.guard = none) {m x : Operand} {t kt : TypeId} (hop : o.op = Op.call { callee := Callee.builtin Builtin.delete, args := #[m, x], argTypes := #[t, kt] }) {et : TypeId} (ht : P.underlying t = some (.map kt et)) (K : KeyOk P kt eK)
    {b c : Nat} {L : List (α × β × Nat)} (hm : a.eval m = .map (some b)) (h : MapAt eK eV w b L c) (k : α) (hx : a.eval x = eK k)
    (hK : ∀ w', MapAt eK eV w' b (mdel k L) c → Fr (· = b) w w' → Hid (w'.heap.size = w.heap.size) → wpList P ops Q rest (a.put o.dst (.tuple #[])) w') :
    wpList P ops Q (o :: rest) a w := by
  refine wpList_plain hg fun K' hK' => ?_
  obtain ⟨w', hrun, r1, r2, r3⟩ := run_delete (P := P) (ty := o.type) ht K h k
  unfold Oper.wp
  simp [execOp, hop, resolve, invoke, builtin, hm, hx, hrun, Result.andThen]
  exact hK' _ _ (hK w' r1 r2 r3)
end
end Go.Mine
