/- Texts of this seat, put together: MapLib. -/
import Derived.WalkKit
import Derived.Maps.RangeWalk
import Derived.Maps.OwnSet
import Derived.Deep.QuietTactic
import Derived.BigQuiet
namespace Go.Mine
set_option linter.unusedVariables false
set_option linter.unusedSimpArgs false
set_option linter.unusedSectionVars false
open Go.ChangeMaps (setBlock)
open Go.RowKit
theorem hid {p : Prop} (h : p) : Hid p := h
def Stop (p : Prop) : Prop := p
theorem stop {p : Prop} (h : p) : Stop p := h
section
variable {α β : Type} [DecidableEq α] (eK : α → Value) (eV : β → Value)
def ent (x : α × β × Nat) : MapEntry := ⟨eK x.1, eV x.2.1, x.2.2⟩
def ents (L : List (α × β × Nat)) : Array MapEntry := (L.map (ent eK eV)).toArray
structure Ok (L : List (α × β × Nat)) (clock : Nat) : Prop where
  keys : L.Pairwise (fun x y => x.1 ≠ y.1)
  born : (L.map (·.2.2)).Nodup
  lt : ∀ x ∈ L, x.2.2 < clock
structure MapAt (w : World) (b : Nat) (L : List (α × β × Nat)) (clock : Nat) : Prop where
  heap : w.heap[b]? = some (.map (ents eK eV L) clock)
  ok : Ok L clock
def mget (k : α) (L : List (α × β × Nat)) : Option β := (L.find? (fun e => e.1 = k)).map (·.2.1)
def mput (k : α) (v : β) (c : Nat) (L : List (α × β × Nat)) : List (α × β × Nat) :=
  if (mget k L).isSome then L.map (fun e => if e.1 = k then (e.1, v, e.2.2) else e) else L ++ [(k, v, c)]
def mdel (k : α) (L : List (α × β × Nat)) : List (α × β × Nat) := L.filter (fun e => e.1 ≠ k)
def place (k : α) : List (α × β × Nat) → Nat → Option (Nat × Value)
  | [], _ => none
  | e :: es, i => if k = e.1 then some (i, eV e.2.1) else place k es (i + 1)
theorem place_get (k : α) : ∀ (L : List (α × β × Nat)) (i : Nat), (place eV k L i).map (·.2) = (mget k L).map eV
  | [], _ => rfl
  | e :: es, i => by
    unfold place mget
    by_cases h : k = e.1
    · subst h; simp
    · have h' : ¬ e.1 = k := fun q => h q.symm
      simp only [h, if_false, List.find?_cons, h', decide_false]
      exact place_get k es (i + 1)
structure KeyOk (P : Program) (kt : TypeId) (eK : α → Value) : Prop where
  chk : ∀ (e : Bool) (x : α) (w : World), (Instr.checkKey e 10000 kt (eK x)).run P w = .ok () w
  find : ∀ (β : Type) (eV : β → Value) (x : α) (L : List (α × β × Nat)) (w : World), (Instr.findKey kt (eK x) (L.map (ent eK eV))).run P w = .ok (place eV x L 0) w
  bits : ∀ x : α, Instr.sameBits 10000 (eK x) (eK x) = true
theorem findNow_int (q : IntKind) (x : Int) : ∀ (L : List (Int × β × Nat)) (i : Nat), Instr.findNow (.int q) (.int q x) (L.map (ent (Value.int q) eV)) i = some (place eV x L i)
  | [], _ => rfl
  | e :: es, i => by
    simp only [List.map_cons, ent, Instr.findNow, Instr.sameNow, place]
    by_cases h : x = e.1
    · simp [h]
    · have : (x == e.1) = false := by simpa using h
      simp only [if_true, this, h, if_false]
      exact findNow_int q x es (i + 1)
theorem intKey {P : Program} {kt : TypeId} {q : IntKind} (h : P.underlying kt = some (.int q)) : KeyOk P kt (Value.int q) where
  chk e x w := MapKept.run_checkKey h (by simp [MapKept.IsKey]) e 9999
  find β eV x L w := MapKept.run_findKey h (findNow_int eV q x L 0)
  bits x := by simp [Instr.sameBits]
theorem findAsking_run {P : Program} {kt : TypeId} {eK : α → Value} (heq : ∀ (x y : α) (w : World), (Op.equal kt (eK x) (eK y)).run P w = .ok (decide (x = y)) w) (x : α) :
    ∀ (L : List (α × β × Nat)) (i : Nat) (w : World), (Instr.findAsking kt (eK x) (L.map (ent eK eV)) i).run P w = .ok (place eV x L i) w
  | [], _, _ => rfl
  | e :: es, i, w => by
    simp only [List.map_cons, Instr.findAsking, place, Sem.run_bind, ent, heq, Result.andThen]
    by_cases h : x = e.1
    · simp [h]
    · simp only [h, decide_false, Bool.false_eq_true, if_false]
      exact findAsking_run heq x es (i + 1) w
def eK2 (x : Int × Int) : Value := .agg #[.int .i64 x.1, .int .i64 x.2]
theorem findNow_agg {d : TypeDesc} (x : Int × Int) (e : (Int × Int) × β × Nat) (es : List ((Int × Int) × β × Nat)) (i : Nat) :
    Instr.findNow d (eK2 x) ((e :: es).map (ent eK2 eV)) i = none := by
  cases d <;> simp [Instr.findNow, Instr.sameNow, eK2]
theorem struct2Key {P : Program} {kt : TypeId} {d : TypeDesc} (hu : P.underlying kt = some d)
    (hchk : ∀ (e : Bool) (x : Int × Int) (w : World), (Instr.checkKey e 10000 kt (eK2 x)).run P w = .ok () w)
    (heq : ∀ (x y : Int × Int) (w : World), (Op.equal kt (eK2 x) (eK2 y)).run P w = .ok (decide (x = y)) w) : KeyOk P kt eK2 where
  chk := hchk
  find β eV x L w := by
    cases L with
    | nil => simp [Instr.findKey, run_underlying hu, Result.andThen, Instr.findNow, place]
    | cons e es =>
      simp only [Instr.findKey, Sem.run_bind, run_underlying hu, Result.andThen, findNow_agg]
      exact findAsking_run eV heq x (e :: es) 0 w
  bits x := by simp [Instr.sameBits, eK2]
theorem ents_size (L : List (α × β × Nat)) : (ents eK eV L).size = L.length := by simp [ents]
theorem run_lookup {P : Program} {t kt et : TypeId} {eK : α → Value} {eV : β → Value} (ht : P.underlying t = some (.map kt et)) (K : KeyOk P kt eK) {w : World} {b c : Nat} {L : List (α × β × Nat)}
    (h : MapAt eK eV w b L c) {z : Value} (hz : (zeroValue et).run P w = .ok z w) (x : α) (ok : Bool) :
    (Instr.lookup t (.map (some b)) (eK x) ok).run P w = .ok (if ok then .tuple #[((mget x L).map eV).getD z, .bool (mget x L).isSome] else ((mget x L).map eV).getD z) w := by
  have hf := K.find β eV x L w
  have hp := place_get eV x L 0
  have hl : (ents eK eV L).toList = L.map (ent eK eV) := by simp [ents]
  simp only [Instr.lookup, Sem.run_bind, run_underlying ht, Result.andThen, MapKept.run_getObj_map h.heap, Sem.run_pure, K.chk, hl, hf]
  cases hpl : place eV x L 0 with
  | none =>
    rw [hpl] at hp
    have hn : mget x L = none := by simpa using hp.symm
    simp [hz, hn, Result.andThen]
  | some iv =>
    obtain ⟨i, v⟩ := iv
    rw [hpl] at hp
    have hs : (mget x L).map eV = some v := by simpa using hp.symm
    cases hm : mget x L with
    | none => simp [hm] at hs
    | some y =>
      have : eV y = v := by simpa [hm] using hs
      subst this
      simp
theorem run_lookup_nil {P : Program} {t kt et : TypeId} {eK : α → Value} (ht : P.underlying t = some (.map kt et)) (K : KeyOk P kt eK) {w : World} {z : Value} (hz : (zeroValue et).run P w = .ok z w) (x : α) (ok : Bool) :
    (Instr.lookup t (.map none) (eK x) ok).run P w = .ok (if ok then .tuple #[z, .bool false] else z) w := by
  have hf := K.find Nat (fun n => .int .i64 n) x [] w
  simp only [List.map_nil, place] at hf
  simp [Instr.lookup, run_underlying ht, Result.andThen, K.chk, hf, hz]
def MapO (eK : α → Value) (eV : β → Value) (w : World) (mo : Option Nat) (L : List (α × β × Nat)) : Prop :=
  match mo with
  | none => L = []
  | some b => ∃ c, MapAt eK eV w b L c
theorem run_lookupO {P : Program} {t kt et : TypeId} {eK : α → Value} {eV : β → Value} (ht : P.underlying t = some (.map kt et)) (K : KeyOk P kt eK) {w : World} {mo : Option Nat} {L : List (α × β × Nat)}
    (h : MapO eK eV w mo L) {z : Value} (hz : (zeroValue et).run P w = .ok z w) (x : α) (ok : Bool) :
    (Instr.lookup t (.map mo) (eK x) ok).run P w = .ok (if ok then .tuple #[((mget x L).map eV).getD z, .bool (mget x L).isSome] else ((mget x L).map eV).getD z) w := by
  cases mo with
  | none =>
    have : L = [] := h
    subst this
    rw [run_lookup_nil ht K hz]
    cases ok <;> simp [mget]
  | some b =>
    obtain ⟨c, h⟩ := h
    exact run_lookup ht K h hz x ok
theorem place_some {k : α} : ∀ {L : List (α × β × Nat)} {i : Nat} {p : Nat × Value}, place eV k L i = some p → ∃ j, p.1 = i + j ∧ ∃ e, L[j]? = some e ∧ e.1 = k
  | [], _, _, h => by simp [place] at h
  | e :: es, i, p, h => by
    unfold place at h
    by_cases hk : k = e.1
    · simp only [hk, if_true, Option.some.injEq] at h
      subst h
      exact ⟨0, rfl, e, rfl, hk.symm⟩
    · simp only [hk, if_false] at h
      obtain ⟨j, h1, e', h2, h3⟩ := place_some h
      exact ⟨j + 1, by omega, e', by simpa using h2, h3⟩
theorem modify_key {k : α} {v : β} : ∀ {L : List (α × β × Nat)}, L.Pairwise (fun x y => x.1 ≠ y.1) → ∀ {j : Nat} {e : α × β × Nat}, L[j]? = some e → e.1 = k →
    L.modify j (fun e => (e.1, v, e.2.2)) = L.map (fun e => if e.1 = k then (e.1, v, e.2.2) else e)
  | [], _, _, _, h, _ => by simp at h
  | x :: xs, hp, 0, e, h, hk => by
    simp only [List.getElem?_cons_zero, Option.some.injEq] at h
    subst h
    have h1 := (List.pairwise_cons.1 hp).1
    simp only [List.modify_zero_cons, List.map_cons, hk, if_true, List.cons.injEq, true_and]
    conv => lhs; rw [← List.map_id' xs]
    apply List.map_congr_left
    intro y hy
    rw [if_neg (fun q => h1 y hy (hk.trans q.symm))]
  | x :: xs, hp, j + 1, e, h, hk => by
    have h1 := List.pairwise_cons.1 hp
    have hx : ¬ x.1 = k := fun q => h1.1 e (List.mem_of_getElem? (by simpa using h)) (q.trans hk.symm)
    simp only [List.modify_succ_cons, List.map_cons, hx, if_false, List.cons.injEq, true_and]
    exact modify_key h1.2 (by simpa using h) hk
theorem erase_key {k : α} : ∀ {L : List (α × β × Nat)}, L.Pairwise (fun x y => x.1 ≠ y.1) → ∀ {j : Nat} {e : α × β × Nat}, L[j]? = some e → e.1 = k → L.eraseIdx j = mdel k L
  | [], _, _, _, h, _ => by simp at h
  | x :: xs, hp, 0, e, h, hk => by
    simp only [List.getElem?_cons_zero, Option.some.injEq] at h
    subst h
    have h1 := (List.pairwise_cons.1 hp).1
    simp only [List.eraseIdx_zero, List.tail_cons, mdel, List.filter_cons, hk, ne_eq, not_true, decide_false, Bool.false_eq_true, if_false]
    symm
    rw [List.filter_eq_self]
    intro y hy
    simpa using fun q => h1 y hy (hk.trans q.symm)
  | x :: xs, hp, j + 1, e, h, hk => by
    have h1 := List.pairwise_cons.1 hp
    have hx : ¬ x.1 = k := fun q => h1.1 e (List.mem_of_getElem? (by simpa using h)) (q.trans hk.symm)
    simp only [List.eraseIdx_cons_succ, mdel, List.filter_cons, hx, ne_eq, not_false_eq_true, decide_true, if_true, List.cons.injEq, true_and]
    exact erase_key h1.2 (by simpa using h) hk
theorem mget_none {k : α} {L : List (α × β × Nat)} : mget k L = none ↔ ∀ e ∈ L, e.1 ≠ k := by
  simp [mget, List.find?_eq_none]
theorem mdel_none {k : α} {L : List (α × β × Nat)} (h : mget k L = none) : mdel k L = L := by
  rw [mget_none] at h
  simp only [mdel, List.filter_eq_self]
  intro y hy
  simpa using h y hy
theorem Ok.put {L : List (α × β × Nat)} {c : Nat} (h : Ok L c) (k : α) (v : β) : Ok (mput k v c L) (if (mget k L).isSome then c else c + 1) := by
  unfold mput
  split
  · refine ⟨?_, ?_, ?_⟩
    · rw [List.pairwise_map]
      refine h.keys.imp ?_
      intro a b hab
      have e : ∀ x : α × β × Nat, (if x.1 = k then (x.1, v, x.2.2) else x).1 = x.1 := fun x => by split <;> rfl
      rw [e, e]; exact hab
    · have : (List.map (fun e => if e.1 = k then (e.1, v, e.2.2) else e) L).map (fun x => x.2.2) = L.map (fun x => x.2.2) := by
        rw [List.map_map]; apply List.map_congr_left; intro x _; simp only [Function.comp_apply]; split <;> rfl
      rw [this]; exact h.born
    · intro x hx
      obtain ⟨y, hy, rfl⟩ := List.mem_map.1 hx
      have := h.lt y hy
      split <;> exact this
  · rename_i hn
    have hn' : mget k L = none := by simpa using hn
    rw [mget_none] at hn'
    refine ⟨?_, ?_, ?_⟩
    · rw [List.pairwise_append]
      refine ⟨h.keys, by simp, ?_⟩
      intro a ha b hb
      simp at hb; subst hb
      exact hn' a ha
    · rw [List.map_append, List.nodup_append]
      refine ⟨h.born, by simp, ?_⟩
      intro a ha b hb
      simp at hb; subst hb
      obtain ⟨x, hx, rfl⟩ := List.mem_map.1 ha
      exact Nat.ne_of_lt (h.lt x hx)
    · intro x hx
      rcases List.mem_append.1 hx with hx | hx
      · exact Nat.lt_succ_of_lt (h.lt x hx)
      · simp at hx; subst hx; exact Nat.lt_succ_self _
theorem nodup_map_inj {γ δ : Type} {f : γ → δ} : ∀ {l : List γ}, (l.map f).Nodup → ∀ {x y : γ}, x ∈ l → y ∈ l → f x = f y → x = y
  | [], _, _, _, hx, _, _ => by cases hx
  | z :: zs, h, x, y, hx, hy, e => by
    simp only [List.map_cons, List.nodup_cons] at h
    rcases List.mem_cons.1 hx with ex | hx'
    · rcases List.mem_cons.1 hy with ey | hy'
      · rw [ex, ey]
      · exact absurd (show f z ∈ zs.map f from ex ▸ (e ▸ List.mem_map_of_mem hy')) h.1
    · rcases List.mem_cons.1 hy with ey | hy'
      · exact absurd (show f z ∈ zs.map f from ey ▸ (e ▸ List.mem_map_of_mem hx')) h.1
      · exact nodup_map_inj h.2 hx' hy' e
theorem Ok.born_inj {L : List (α × β × Nat)} {c : Nat} (h : Ok L c) {x y : α × β × Nat} (hx : x ∈ L) (hy : y ∈ L) (e : x.2.2 = y.2.2) : x = y := nodup_map_inj h.born hx hy e
theorem mfilter_lt {γ : Type} {p : γ → Bool} {l : List γ} {x : γ} (hx : x ∈ l) (h : p x = false) : (l.filter p).length < l.length := by
  rcases Nat.lt_or_ge (l.filter p).length l.length with h' | h'
  · exact h'
  · have := List.length_filter_eq_length_iff.1 (Nat.le_antisymm (List.length_filter_le p l) h') x hx
    rw [h] at this; cases this
theorem Ok.del {L : List (α × β × Nat)} {c : Nat} (h : Ok L c) (k : α) : Ok (mdel k L) c :=
  ⟨h.keys.filter _, (List.Sublist.map _ List.filter_sublist).nodup h.born, fun x hx => h.lt x (List.mem_filter.1 hx).1⟩
theorem Ok.nil (c : Nat) : Ok ([] : List (α × β × Nat)) c := ⟨by simp, by simp, by simp⟩
end
structure Fr (S : Nat → Prop) (w w' : World) : Prop where
  os : w'.os = w.os
  tape : w'.tape = w.tape
  output : w'.output = w.output
  size : w.heap.size ≤ w'.heap.size
  block : ∀ k, k < w.heap.size → ¬ S k → w'.heap[k]? = w.heap[k]?
theorem Fr.refl (S : Nat → Prop) (w : World) : Fr S w w := ⟨rfl, rfl, rfl, Nat.le_refl _, fun _ _ _ => rfl⟩
theorem Fr.trans {S S' : Nat → Prop} {a b c : World} (h : Fr S a b) (k : Fr S' b c) (hS : ∀ i, S' i → S i ∨ a.heap.size ≤ i) : Fr S a c :=
  ⟨k.os.trans h.os, k.tape.trans h.tape, k.output.trans h.output, Nat.le_trans h.size k.size, fun i hi hn =>
    (k.block i (Nat.lt_of_lt_of_le hi h.size) (fun q => (hS i q).elim hn (fun q => by omega))).trans (h.block i hi hn)⟩
theorem Fr.mono {S S' : Nat → Prop} {a b : World} (h : Fr S a b) (hS : ∀ i, S i → S' i) : Fr S' a b :=
  ⟨h.os, h.tape, h.output, h.size, fun i hi hn => h.block i hi (fun q => hn (hS i q))⟩
theorem Fr.alloc {S : Nat → Prop} {a w : World} (h : Fr S a w) (o : Obj) : Fr S a (w.alloc o) :=
  ⟨h.os, h.tape, h.output, by have := h.size; simp; omega, fun i hi hn => (Below.heap_alloc _ _ _ (by have := h.size; omega)).trans (h.block i hi hn)⟩
theorem Fr.drew {S : Nat → Prop} {a w : World} (h : Fr S a w) : Fr S a w.drew := ⟨h.os, h.tape, h.output, h.size, h.block⟩
theorem Fr.drewN {S : Nat → Prop} {a w : World} (h : Fr S a w) (n : Nat) : Fr S a (w.drewN n) := ⟨h.os, h.tape, h.output, h.size, h.block⟩
theorem Fr.setCell {S : Nat → Prop} {a w : World} (h : Fr S a w) {p : Addr} (hp : S p.block ∨ a.heap.size ≤ p.block) (u : Value) : Fr S a (w.setCell p u) :=
  ⟨h.os, h.tape, h.output, by simpa [World.setCell] using h.size, fun i hi hn => (Below.heap_setCell _ _ _ _ (fun e => by subst e; rcases hp with hp | hp; exact hn hp; omega)).trans (h.block i hi hn)⟩
theorem Fr.setBlock {S : Nat → Prop} {a w : World} (h : Fr S a w) {b : Nat} (hp : S b ∨ a.heap.size ≤ b) (o : Obj) : Fr S a (setBlock w b o) :=
  ⟨h.os, h.tape, h.output, by simpa [ChangeMaps.setBlock] using h.size, fun i hi hn => by
    have : i ≠ b := fun e => by subst e; rcases hp with hp | hp; exact hn hp; omega
    refine Eq.trans ?_ (h.block i hi hn)
    simp [ChangeMaps.setBlock, Array.getElem?_setIfInBounds, Ne.symm this]⟩
theorem Fr.below {S : Nat → Prop} {w w' : World} (h : Fr S w w') {B : Nat} (hB : B ≤ w.heap.size) (hS : ∀ k, k < B → ¬ S k) : Below B w w' :=
  ⟨h.os, h.tape, h.output, h.size, fun k hk => h.block k (by omega) (hS k hk)⟩
theorem Fr.cell {S : Nat → Prop} {w w' : World} (h : Fr S w w') {p : Addr} {v : Value} (hc : w.cell? p = some v) (hp : ¬ S p.block) : w'.cell? p = some v :=
  (World.cell?_of_block (w := w) (h.block p.block (World.block_lt_of_cell? _ _ hc) hp)).trans hc
theorem Fr.at_ {S : Nat → Prop} {w w' : World} (h : Fr S w w') {b : Nat} {o : Obj} (hb : w.heap[b]? = some o) (hp : ¬ S b) : w'.heap[b]? = some o :=
  (h.block b (Array.getElem?_eq_some_iff.1 hb).1 hp).trans hb
theorem Fr.of_below {B : Nat} {w w' : World} (h : Below B w w') (hB : w.heap.size ≤ B) : Fr (fun _ => False) w w' := ⟨h.os, h.tape, h.output, h.size, fun k hk _ => h.block k (by omega)⟩
theorem Fr.of_grown {w w' : World} {row : Option Nat} (h : w.grownBy w' row) : Fr (fun k => row = some k) w w' := ⟨h.os, h.tape, h.output, h.size, fun k hk hn => h.block k hk (fun e => hn e.symm)⟩
theorem setBlock_same {w : World} {b : Nat} {o : Obj} (h : w.heap[b]? = some o) (o' : Obj) : (setBlock w b o').heap[b]? = some o' := (MapKept.heap_set h).1
theorem setBlock_size (w : World) (b : Nat) (o : Obj) : (setBlock w b o).heap.size = w.heap.size := by simp [ChangeMaps.setBlock]
section
variable {α β : Type} [DecidableEq α] {eK : α → Value} {eV : β → Value}
theorem MapAt.lt {w : World} {b c : Nat} {L : List (α × β × Nat)} (h : MapAt eK eV w b L c) : b < w.heap.size := (Array.getElem?_eq_some_iff.1 h.heap).1
theorem MapAt.fr {S : Nat → Prop} {w w' : World} {b c : Nat} {L : List (α × β × Nat)} (h : MapAt eK eV w b L c) (hf : Fr S w w') (hb : ¬ S b) : MapAt eK eV w' b L c :=
  ⟨hf.at_ h.heap hb, h.ok⟩
theorem MapO.fr {S : Nat → Prop} {w w' : World} {mo : Option Nat} {L : List (α × β × Nat)} (h : MapO eK eV w mo L) (hf : Fr S w w') (hb : ∀ b, mo = some b → ¬ S b) : MapO eK eV w' mo L := by
  cases mo with
  | none => exact h
  | some b => obtain ⟨c, h⟩ := h; exact ⟨c, h.fr hf (hb b rfl)⟩
theorem MapO.ok {w : World} {mo : Option Nat} {L : List (α × β × Nat)} (h : MapO eK eV w mo L) : ∃ c, Ok L c := by
  cases mo with
  | none => have : L = [] := h; subst this; exact ⟨0, Ok.nil 0⟩
  | some b => obtain ⟨c, h⟩ := h; exact ⟨c, h.ok⟩
theorem run_len {P : Program} {t kt et ty : TypeId} (ht : P.underlying t = some (.map kt et)) {w : World} {mo : Option Nat} {L : List (α × β × Nat)} (h : MapO eK eV w mo L) :
    (Builtin.len_ #[t] ty #[.map mo]).run P w = .ok (.int .i64 L.length) w := by
  cases mo with
  | none => have : L = [] := h; subst this; simp [Builtin.len_, run_underlying ht, Result.andThen, goInt]
  | some b =>
    obtain ⟨c, h⟩ := h
    simp [Builtin.len_, run_underlying ht, Result.andThen, goInt, MapKept.run_getObj_map h.heap, ents]
theorem run_update {P : Program} {t kt et : TypeId} (ht : P.underlying t = some (.map kt et)) (K : KeyOk P kt eK) {w : World} {b c : Nat} {L : List (α × β × Nat)} (h : MapAt eK eV w b L c) (x : α) (v : β) :
    (Instr.mapUpdate t (.map (some b)) (eK x) (eV v)).run P w = .ok () (setBlock w b (.map (ents eK eV (mput x v c L)) (if (mget x L).isSome then c else c + 1))) := by
  have hf := K.find β eV x L w
  have hp := place_get eV x L 0
  have hl : (ents eK eV L).toList = L.map (ent eK eV) := by simp [ents]
  simp only [Instr.mapUpdate, Sem.run_bind, run_underlying ht, Result.andThen, MapKept.run_getObj_map h.heap, Sem.run_pure, K.chk, hl, hf]
  cases hpl : place eV x L 0 with
  | none =>
    rw [hpl] at hp
    have hn : mget x L = none := by simpa using hp.symm
    simp only [MapKept.run_setObj_map _ h.heap, hn, Option.isSome_none, Bool.false_eq_true, if_false, mput]
    congr 2
    simp [ents, ent]
  | some iv =>
    obtain ⟨j, hj, e, he, hek⟩ := place_some eV hpl
    obtain ⟨i, v'⟩ := iv
    rw [hpl] at hp
    have hs : (mget x L).isSome = true := by
      have : ((mget x L).map eV).isSome = true := by rw [← hp]; rfl
      simpa using this
    simp only [Nat.zero_add] at hj
    subst hj
    have hkey : (((ents eK eV L)[i]?).map (·.key)).getD (eK x) = eK x := by
      simp [ents, he, ent, hek]
    have hm : (ents eK eV L).modify i (fun e => { e with key := eK x, val := eV v }) = ents eK eV (mput x v c L) := by
      simp only [mput, hs, if_true]
      rw [← modify_key h.ok.keys (v := v) he hek]
      simp only [ents, List.modify_toArray]
      congr 1
      apply List.ext_getElem?
      intro k
      simp only [List.getElem?_modify, List.getElem?_map]
      by_cases hk : i = k
      · subst hk; simp [he, ent, hek]
      · simp [hk]
    simp only [hkey, Instr.keyThatStays, K.bits, if_true, Sem.run_bind, Sem.run_pure, Result.andThen, hm, MapKept.run_setObj_map _ h.heap, hs]
    rfl
theorem MapAt.put {w : World} {b c : Nat} {L : List (α × β × Nat)} (h : MapAt eK eV w b L c) (x : α) (v : β) :
    MapAt eK eV (setBlock w b (.map (ents eK eV (mput x v c L)) (if (mget x L).isSome then c else c + 1))) b (mput x v c L) (if (mget x L).isSome then c else c + 1) :=
  ⟨setBlock_same h.heap _, h.ok.put x v⟩
theorem run_update_at {P : Program} {t kt et : TypeId} (ht : P.underlying t = some (.map kt et)) (K : KeyOk P kt eK) {w : World} {b c : Nat} {L : List (α × β × Nat)} (h : MapAt eK eV w b L c) (x : α) (v : β) :
    ∃ w' c', (Instr.mapUpdate t (.map (some b)) (eK x) (eV v)).run P w = .ok () w' ∧ MapAt eK eV w' b (mput x v c L) c' ∧ Fr (· = b) w w' ∧ w'.heap.size = w.heap.size :=
  ⟨_, _, run_update ht K h x v, h.put x v, (Fr.refl (· = b) w).setBlock (b := b) (.inl rfl) _, setBlock_size _ _ _⟩
theorem run_delete {P : Program} {t kt et ty : TypeId} (ht : P.underlying t = some (.map kt et)) (K : KeyOk P kt eK) {w : World} {b c : Nat} {L : List (α × β × Nat)} (h : MapAt eK eV w b L c) (x : α) :
    ∃ w', (Builtin.delete_ #[t, kt] ty #[.map (some b), eK x]).run P w = .ok (.tuple #[]) w' ∧ MapAt eK eV w' b (mdel x L) c ∧ Fr (· = b) w w' ∧ w'.heap.size = w.heap.size := by
  have hf := K.find β eV x L w
  have hp := place_get eV x L 0
  have hl : (ents eK eV L).toList = L.map (ent eK eV) := by simp [ents]
  refine ⟨setBlock w b (.map (ents eK eV (mdel x L)) c), ?_, ⟨setBlock_same h.heap _, h.ok.del x⟩, (Fr.refl (· = b) w).setBlock (b := b) (.inl rfl) _, setBlock_size _ _ _⟩
  simp only [Builtin.delete_, List.getElem?_toArray, List.getElem?_cons_zero, List.getElem?_cons_succ, Sem.run_bind, run_underlying ht, Result.andThen, MapKept.run_getObj_map h.heap, Sem.run_pure, K.chk, hl, hf]
  cases hpl : place eV x L 0 with
  | none =>
    rw [hpl] at hp
    have hn : mget x L = none := by simpa using hp.symm
    simp only [Sem.run_bind, MapKept.run_setObj_map _ h.heap, mdel_none hn, Result.andThen, Sem.run_pure]
    rfl
  | some iv =>
    obtain ⟨j, hj, e, he, hek⟩ := place_some eV hpl
    obtain ⟨i, v'⟩ := iv
    simp only [Nat.zero_add] at hj
    subst hj
    have hlt : i < L.length := (List.getElem?_eq_some_iff.1 he).1
    have : (ents eK eV L).eraseIdxIfInBounds i = ents eK eV (mdel x L) := by
      rw [← erase_key h.ok.keys he hek]
      simp only [ents, Array.eraseIdxIfInBounds, List.size_toArray, List.length_map, hlt, dif_pos, List.eraseIdx_toArray]
      congr 1
      apply List.ext_getElem?
      intro k
      simp only [List.getElem?_eraseIdx, List.getElem?_map]
      split <;> rfl
    simp only [Sem.run_bind, MapKept.run_setObj_map _ h.heap, this, Result.andThen, Sem.run_pure]
    rfl
theorem run_delete_nil {P : Program} {t kt et ty : TypeId} (ht : P.underlying t = some (.map kt et)) (K : KeyOk P kt eK) (w : World) (x : α) :
    (Builtin.delete_ #[t, kt] ty #[.map none, eK x]).run P w = .ok (.tuple #[]) w := by
  simp [Builtin.delete_, run_underlying ht, Result.andThen, K.chk]
def IterAt (w : World) (r b c : Nat) (L left : List (α × β × Nat)) : Prop :=
  ∃ (seen : Array Nat), w.heap[r]? = some (.mapIter (some b) c seen c) ∧ (∀ x ∈ L, x.2.2 < c) ∧ left = L.filter (fun x => !seen.contains x.2.2)
theorem IterAt.fr {S : Nat → Prop} {w w' : World} {r b c : Nat} {L left : List (α × β × Nat)} (h : IterAt w r b c L left) (hf : Fr S w w') (hr : ¬ S r) : IterAt w' r b c L left := by
  obtain ⟨seen, h1, h2⟩ := h
  exact ⟨seen, hf.at_ h1 hr, h2⟩
theorem IterAt.sub {w : World} {r b c : Nat} {L left : List (α × β × Nat)} (h : IterAt w r b c L left) : ∀ y ∈ left, y ∈ L := by
  obtain ⟨seen, h1, h2, h3⟩ := h
  subst h3
  exact fun y hy => (List.mem_filter.1 hy).1
theorem IterAt.del {w : World} {r b c : Nat} {L left : List (α × β × Nat)} (h : IterAt w r b c L left) (k : α) (hk : ∀ y ∈ left, y.1 ≠ k) : IterAt w r b c (mdel k L) left := by
  obtain ⟨seen, h1, h2, h3⟩ := h
  refine ⟨seen, h1, fun x hx => h2 x (List.mem_filter.1 hx).1, ?_⟩
  rw [mdel, List.filter_filter]
  have : left = left.filter (fun y => decide (y.1 ≠ k)) := by
    symm
    rw [List.filter_eq_self]
    intro y hy
    simpa using hk y hy
  rw [this, h3, List.filter_filter]
  apply List.filter_congr
  intro y _
  rw [Bool.and_comm]
theorem IterAt.ne {w : World} {r b c : Nat} {L left : List (α × β × Nat)} (h : IterAt w r b c L left) (hm : MapAt eK eV w b L c) : r ≠ b := by
  rintro rfl
  obtain ⟨seen, h1, _⟩ := h
  have := hm.heap
  rw [h1] at this
  cases this
theorem leftOf_ents (L : List (α × β × Nat)) (seen : Array Nat) : leftOf (ents eK eV L) seen = ents eK eV (L.filter (fun x => !seen.contains x.2.2)) := by
  unfold leftOf ents
  rw [← Array.toList_inj]
  simp only [Array.toList_filter, List.filter_map]
  rfl
theorem run_range {P : Program} {t kt et : TypeId} (ht : P.underlying t = some (.map kt et)) {w : World} {b c : Nat} {L : List (α × β × Nat)} (h : MapAt eK eV w b L c) :
    ∃ w', (Instr.range t (.map (some b))).run P w = .ok (.pointer (some ⟨w.heap.size, 0, none⟩)) w' ∧ IterAt w' w.heap.size b c L L ∧ Fr (fun _ => False) w w' ∧ w'.heap.size = w.heap.size + 1 := by
  refine ⟨w.alloc (.mapIter (some b) c #[] c), ?_, ⟨#[], (MapKept.heap_alloc w _).1, h.ok.lt, by simp [List.filter_eq_self.2]⟩, (Fr.refl _ _).alloc _, by simp⟩
  simp only [Instr.range, Sem.run_bind, run_underlying ht, Result.andThen, MapKept.run_getObj_map h.heap, Sem.run_pure]
  rfl
theorem step_next {P : Program} {w : World} {r b c : Nat} {L left : List (α × β × Nat)} (hm : MapAt eK eV w b L c) (hi : IterAt w r b c L left) (ty : TypeId) :
    (left = [] ∧ (Instr.next (.pointer (some ⟨r, 0, none⟩)) false ty).run P w = .ok (.tuple #[.bool false]) w) ∨
    ∃ x ∈ left, ∃ w', x ∈ L ∧ (Instr.next (.pointer (some ⟨r, 0, none⟩)) false ty).run P w = .ok (.tuple #[.bool true, eK x.1, eV x.2.1]) w' ∧ MapAt eK eV w' b L c ∧
      IterAt w' r b c L (left.filter (fun y => decide (y.2.2 ≠ x.2.2))) ∧ (Instr.entry (.pointer (some ⟨r, 0, none⟩))).run P w' = .ok (.tuple #[eK x.1, eV x.2.1]) w' ∧ Fr (· = r) w w' ∧ w'.heap.size = w.heap.size := by
  have hne := hi.ne hm
  obtain ⟨seen, hr, hlt, hl⟩ := hi
  have hold : ∀ x ∈ (ents eK eV L).toList, x.born < c := by
    intro x hx
    simp only [ents, List.mem_map] at hx
    obtain ⟨y, hy, rfl⟩ := hx
    exact hlt y hy
  rcases run_next_at (P := P) w ty r b c c seen _ c hr hm.heap hold (Nat.le_refl _) with ⟨h0, hrun⟩ | ⟨e, he, w1, hw1, hrun⟩
  · left
    refine ⟨?_, hrun⟩
    rw [leftOf_ents, ents_size] at h0
    rw [hl]
    exact List.eq_nil_of_length_eq_zero h0
  · right
    rw [leftOf_ents, ← hl] at he
    simp only [ents, List.mem_map] at he
    obtain ⟨x, hx, rfl⟩ := he
    have hxL : x ∈ L := by rw [hl] at hx; exact (List.mem_filter.1 hx).1
    have hw : w1.heap = w.heap := by rcases hw1 with rfl | rfl <;> rfl
    have f1 : Fr (· = r) w w1 := by rcases hw1 with rfl | rfl; exact Fr.refl _ _; exact (Fr.refl _ _).drew
    have f2 := f1.setBlock (b := r) (.inl rfl) (.mapIter (some b) c (seen.push x.2.2) c)
    have hr1 : w1.heap[r]? = some (.mapIter (some b) c seen c) := by rw [hw]; exact hr
    have hr2 := setBlock_same hr1 (.mapIter (some b) c (seen.push x.2.2) c)
    have hm' : MapAt eK eV (setBlock w1 r (.mapIter (some b) c (seen.push x.2.2) c)) b L c := hm.fr f2 (fun q => hne q.symm)
    refine ⟨x, hx, _, hxL, hrun, hm', ⟨seen.push x.2.2, hr2, hlt, ?_⟩, ?_, f2, by rw [setBlock_size, hw]⟩
    · rw [hl, List.filter_filter]
      apply List.filter_congr
      intro y _
      simp only [Array.contains_push, Bool.not_or, ne_eq, decide_not]
      rw [Bool.and_comm]
      congr 1
    · refine run_entry_at _ r b c seen (ents eK eV L) c (ent eK eV x) hr2 hm'.heap ?_ ?_
      · simp only [ents, List.mem_map]; exact ⟨x, hxL, rfl⟩
      · simp only [ents, List.map_map]; exact hm.ok.born
end
theorem run_range_nil {P : Program} {t kt et : TypeId} (ht : P.underlying t = some (.map kt et)) (w : World) : (Instr.range t (.map none)).run P w = .ok (.pointer (some ⟨w.heap.size, 0, none⟩)) (w.alloc (.mapIter none 0 #[] 0)) := by
  simp only [Instr.range, Sem.run_bind, run_underlying ht, Result.andThen, Sem.run_pure]
  rfl
section
variable {α β : Type} [DecidableEq α] {eK : α → Value} {eV : β → Value} {P : Program} {w : World} {ops : Array Oper} {rest : List Oper} {o : Oper} {a : Act} {Q : Exit → Act → World → Prop}
theorem wl_range (hg : o.guard = none) {m : Operand} {t : TypeId} (hop : o.op = Op.range t m) {kt et : TypeId} (ht : P.underlying t = some (.map kt et)) {b c : Nat} {L : List (α × β × Nat)}
    (hm : a.eval m = .map (some b)) (h : MapAt eK eV w b L c) (r : Nat) (hr : w.heap.size = r)
    (hK : ∀ w', IterAt w' r b c L L → Fr (fun _ => False) w w' → Hid (w'.heap.size = r + 1) → wpList P ops Q rest (a.put o.dst (.pointer (some ⟨r, 0, none⟩))) w') :
    wpList P ops Q (o :: rest) a w := by
  subst hr
  refine wpList_plain hg fun K' hK' => ?_
  obtain ⟨w', hrun, r1, r2, r3⟩ := run_range (P := P) ht h
  unfold Oper.wp
  simp [execOp, hop, hm, hrun, Result.andThen]
  exact hK' _ _ (hK w' r1 r2 r3)
theorem wl_next (hg : o.guard = none) {it : Operand} (hop : o.op = Op.next it false) {r b c : Nat} {L left : List (α × β × Nat)}
    (hit : a.eval it = .pointer (some ⟨r, 0, none⟩)) (hm : MapAt eK eV w b L c) (hi : IterAt w r b c L left)
    (hDone : Hid (left = []) → Stop (wpList P ops Q rest (a.put o.dst (.tuple #[.bool false])) w))
    (hMore : ∀ (k : α) (v : β) (st : Nat), (k, v, st) ∈ left → ∀ w', (k, v, st) ∈ L → MapAt eK eV w' b L c → IterAt w' r b c L (left.filter (fun y => decide (y.2.2 ≠ st))) →
      (Instr.entry (.pointer (some ⟨r, 0, none⟩))).run P w' = .ok (.tuple #[eK k, eV v]) w' → Fr (· = r) w w' → Hid (w'.heap.size = w.heap.size) →
      Stop (wpList P ops Q rest (a.put o.dst (.tuple #[.bool true, eK k, eV v])) w')) :
    wpList P ops Q (o :: rest) a w := by
  refine wpList_plain hg fun K' hK' => ?_
  unfold Oper.wp
  rcases step_next (P := P) hm hi o.type with ⟨h0, hrun⟩ | ⟨x, hx, w', hxL, hrun, h1, h2, h3, h4, h5⟩
  · simp [execOp, hop, hit, hrun, Result.andThen]
    exact hK' _ _ (hDone h0)
  · simp [execOp, hop, hit, hrun, Result.andThen]
    exact hK' _ _ (hMore x.1 x.2.1 x.2.2 hx w' hxL h1 h2 h3 h4 h5)
theorem heap_last (w : World) (o : Obj) {r : Nat} (h : w.heap.size = r) : (w.alloc o).heap[r]? = some o := h ▸ (MapKept.heap_alloc w o).1
theorem wl_next_nil (hg : o.guard = none) {it : Operand} (hop : o.op = Op.next it false) {r s c : Nat} {seen : Array Nat} (hit : a.eval it = .pointer (some ⟨r, 0, none⟩)) (hr : w.heap[r]? = some (.mapIter none s seen c))
    (hDone : Stop (wpList P ops Q rest (a.put o.dst (.tuple #[.bool false])) w)) : wpList P ops Q (o :: rest) a w := by
  refine wpList_plain hg fun K' hK' => ?_
  unfold Oper.wp
  have hrun : (Instr.next (.pointer (some ⟨r, 0, none⟩)) false o.type).run P w = .ok (.tuple #[.bool false]) w := by
    simp only [Instr.next, getObj, Sem.run_bind, Sem.run, hr, Result.andThen, Sem.run_pure]
  simp [execOp, hop, hit, hrun, Result.andThen]
  exact hK' _ _ hDone
end
end Go.Mine
namespace Go.Mine
open Go.RowKit
set_option linter.unusedVariables false
set_option linter.unusedSimpArgs false
set_option linter.unusedSectionVars false
section
variable {α β : Type} [DecidableEq α] {eK : α → Value} {eV : β → Value} {P : Program} {w : World} {ops : Array Oper} {rest : List Oper} {o : Oper} {a : Act} {Q : Exit → Act → World → Prop}
theorem IterAt.nodup {w : World} {r b c c' : Nat} {L left : List (α × β × Nat)} (h : IterAt w r b c L left) (ho : Ok L c') : (left.map (·.2.2)).Nodup := by
  obtain ⟨seen, h1, h2, h3⟩ := h
  subst h3
  exact (List.Sublist.map _ List.filter_sublist).nodup ho.born
theorem take_out {left : List (α × β × Nat)} {x : α × β × Nat} (hn : (left.map (·.2.2)).Nodup) (hx : x ∈ left) : ∃ l1 l2, left = l1 ++ x :: l2 ∧ left.filter (fun y => decide (y.2.2 ≠ x.2.2)) = l1 ++ l2 := by
  obtain ⟨l1, l2, rfl⟩ := List.append_of_mem hx
  refine ⟨l1, l2, rfl, ?_⟩
  rw [List.map_append, List.map_cons, List.nodup_append, List.nodup_cons] at hn
  obtain ⟨n1, ⟨n2, n3⟩, n4⟩ := hn
  rw [List.filter_append, List.filter_cons]
  simp only [ne_eq, not_true, decide_false, Bool.false_eq_true, if_false]
  congr 1
  · rw [List.filter_eq_self]
    intro y hy
    simpa using n4 _ (List.mem_map_of_mem hy) _ (List.mem_cons_self ..)
  · rw [List.filter_eq_self]
    intro y hy
    simpa using fun q => n2 (List.mem_map.2 ⟨y, hy, q⟩)
theorem wl_next2 (hg : o.guard = none) {it : Operand} (hop : o.op = Op.next it false) {r b c : Nat} {L left : List (α × β × Nat)}
    (hit : a.eval it = .pointer (some ⟨r, 0, none⟩)) (hm : MapAt eK eV w b L c) (hi : IterAt w r b c L left)
    (hDone : Hid (left = []) → Stop (wpList P ops Q rest (a.put o.dst (.tuple #[.bool false])) w))
    (hMore : ∀ (k : α) (v : β) (st : Nat) (l1 l2 : List (α × β × Nat)), Hid (left = l1 ++ (k, v, st) :: l2) → ∀ w', (k, v, st) ∈ L → MapAt eK eV w' b L c → IterAt w' r b c L (l1 ++ l2) →
      (Instr.entry (.pointer (some ⟨r, 0, none⟩))).run P w' = .ok (.tuple #[eK k, eV v]) w' → Fr (· = r) w w' → Hid (w'.heap.size = w.heap.size) →
      Stop (wpList P ops Q rest (a.put o.dst (.tuple #[.bool true, eK k, eV v])) w')) :
    wpList P ops Q (o :: rest) a w :=
  wl_next hg hop hit hm hi hDone (fun k v st hx w' h1 h2 h3 h4 h5 h6 => by
    obtain ⟨l1, l2, e1, e2⟩ := take_out (hi.nodup hm.ok) hx
    rw [e2] at h3
    exact hMore k v st l1 l2 e1 w' h1 h2 h3 h4 h5 h6)
theorem IterAt.fresh {w : World} {r b c c' : Nat} {L l1 l2 : List (α × β × Nat)} {x : α × β × Nat} (h : IterAt w r b c L (l1 ++ x :: l2)) (ho : Ok L c') : ∀ y ∈ l1 ++ l2, y.1 ≠ x.1 := by
  have hs := h.sub
  have hn := h.nodup ho
  intro y hy q
  have hyL : y ∈ L := hs y (by rcases List.mem_append.1 hy with h | h <;> simp [h])
  have hxL : x ∈ L := hs x (by simp)
  have hyx : y = x := by
    by_cases e : y = x
    · exact e
    · obtain ⟨i, hi⟩ := List.getElem?_of_mem hyL
      obtain ⟨j, hj⟩ := List.getElem?_of_mem hxL
      have hk := ho.keys
      rw [List.pairwise_iff_getElem] at hk
      have hil := (List.getElem?_eq_some_iff.1 hi).1
      have hjl := (List.getElem?_eq_some_iff.1 hj).1
      have ei : L[i] = y := (List.getElem?_eq_some_iff.1 hi).2
      have ej : L[j] = x := (List.getElem?_eq_some_iff.1 hj).2
      rcases Nat.lt_trichotomy i j with h | h | h
      · exact absurd (by rw [ei, ej]; exact q) (hk i j hil hjl h)
      · subst h; exact (ei.symm.trans ej)
      · exact absurd (by rw [ei, ej]; exact q.symm) (hk j i hjl hil h)
  subst hyx
  rw [List.map_append, List.map_cons, List.nodup_append, List.nodup_cons] at hn
  obtain ⟨n1, ⟨n2, n3⟩, n4⟩ := hn
  rcases List.mem_append.1 hy with h | h
  · exact n4 _ (List.mem_map_of_mem h) _ (List.mem_cons_self ..) rfl
  · exact n2 (List.mem_map_of_mem h)
end
end Go.Mine
namespace Go.Mine
set_option linter.unusedVariables false
set_option linter.unusedSimpArgs false
set_option linter.unusedSectionVars false
section
variable {α β : Type} [DecidableEq α]
def kv (L : List (α × β × Nat)) : List (α × β) := L.map fun e => (e.1, e.2.1)
def aget (k : α) (A : List (α × β)) : Option β := (A.find? (fun e => e.1 = k)).map (·.2)
def aput (k : α) (v : β) (A : List (α × β)) : List (α × β) := if (aget k A).isSome then A.map (fun e => if e.1 = k then (e.1, v) else e) else A ++ [(k, v)]
def adel (k : α) (A : List (α × β)) : List (α × β) := A.filter (fun e => e.1 ≠ k)
theorem kv_get (k : α) (L : List (α × β × Nat)) : mget k L = aget k (kv L) := by
  unfold mget aget kv
  rw [List.find?_map]
  simp only [Option.map_map]
  rfl
theorem kv_put (k : α) (v : β) (c : Nat) (L : List (α × β × Nat)) : kv (mput k v c L) = aput k v (kv L) := by
  unfold mput aput
  rw [kv_get]
  split
  · simp only [kv, List.map_map]
    apply List.map_congr_left
    intro e _
    simp only [Function.comp_apply]
    split <;> rfl
  · simp [kv]
theorem kv_del (k : α) (L : List (α × β × Nat)) : kv (mdel k L) = adel k (kv L) := by
  unfold mdel adel kv
  rw [List.filter_map]
  rfl
theorem kv_filter (p : α × β → Bool) (L : List (α × β × Nat)) : kv (L.filter (fun e => p (e.1, e.2.1))) = (kv L).filter p := by
  unfold kv
  rw [List.filter_map]
  rfl
theorem kv_length (L : List (α × β × Nat)) : (kv L).length = L.length := by simp [kv]
theorem kv_keys {L : List (α × β × Nat)} {c : Nat} (h : Ok L c) : (kv L).Pairwise (fun x y => x.1 ≠ y.1) := by
  unfold kv
  rw [List.pairwise_map]
  exact h.keys
theorem aget_mem {k : α} {v : β} {A : List (α × β)} (h : aget k A = some v) : (k, v) ∈ A := by
  unfold aget at h
  cases hf : A.find? (fun e => decide (e.1 = k)) with
  | none => simp [hf] at h
  | some e =>
    have h1 := List.mem_of_find?_eq_some hf
    have h2 := List.find?_some hf
    simp only [decide_eq_true_eq] at h2
    simp [hf] at h
    rw [← h, ← h2]
    exact h1
theorem aget_of_mem {k : α} {v : β} : ∀ {A : List (α × β)}, A.Pairwise (fun x y => x.1 ≠ y.1) → (k, v) ∈ A → aget k A = some v
  | [], _, h => by cases h
  | e :: es, hp, h => by
    have h1 := List.pairwise_cons.1 hp
    unfold aget
    by_cases he : e.1 = k
    · rcases List.mem_cons.1 h with h | h
      · subst h; simp [List.find?_cons]
      · exact absurd he (h1.1 _ h)
    · rcases List.mem_cons.1 h with h | h
      · subst h; exact absurd rfl he
      · have := aget_of_mem h1.2 h
        unfold aget at this
        simpa [List.find?_cons, he] using this
theorem aget_none {k : α} {A : List (α × β)} : aget k A = none ↔ ∀ e ∈ A, e.1 ≠ k := by
  simp [aget, List.find?_eq_none]
theorem mem_aput {k : α} {v : β} {A : List (α × β)} {e : α × β} (h : e ∈ aput k v A) : e = (k, v) ∨ (e ∈ A ∧ e.1 ≠ k) := by
  unfold aput at h
  split at h
  · obtain ⟨x, hx, rfl⟩ := List.mem_map.1 h
    by_cases q : x.1 = k
    · simp [q]
    · simp [q, hx]
  · rename_i hn
    have hn' : aget k A = none := by simpa using hn
    rw [aget_none] at hn'
    rcases List.mem_append.1 h with h | h
    · exact .inr ⟨h, hn' e h⟩
    · exact .inl (by simpa using h)
theorem mem_aput_self (k : α) (v : β) (A : List (α × β)) : (k, v) ∈ aput k v A := by
  unfold aput
  split
  · rename_i hs
    obtain ⟨y, hy⟩ := Option.isSome_iff_exists.1 hs
    exact List.mem_map.2 ⟨(k, y), aget_mem hy, by simp⟩
  · simp
theorem mem_aput_other {k : α} {v : β} {A : List (α × β)} {e : α × β} (h : e ∈ A) (hk : e.1 ≠ k) : e ∈ aput k v A := by
  unfold aput
  split
  · exact List.mem_map.2 ⟨e, h, by simp [hk]⟩
  · exact List.mem_append_left _ h
theorem aput_keys {k : α} {v : β} {A : List (α × β)} (h : A.Pairwise (fun x y => x.1 ≠ y.1)) : (aput k v A).Pairwise (fun x y => x.1 ≠ y.1) := by
  unfold aput
  split
  · rw [List.pairwise_map]
    refine h.imp ?_
    intro a b hab
    have e : ∀ x : α × β, (if x.1 = k then (x.1, v) else x).1 = x.1 := fun x => by split <;> rfl
    rw [e, e]; exact hab
  · rename_i hn
    have hn' : aget k A = none := by simpa using hn
    rw [aget_none] at hn'
    rw [List.pairwise_append]
    refine ⟨h, by simp, ?_⟩
    intro a ha b hb
    simp at hb; subst hb
    exact hn' a ha
theorem aget_put_self (k : α) (v : β) {A : List (α × β)} (h : A.Pairwise (fun x y => x.1 ≠ y.1)) : aget k (aput k v A) = some v := aget_of_mem (aput_keys h) (mem_aput_self k v A)
theorem aget_put_other {k j : α} (v : β) {A : List (α × β)} (h : A.Pairwise (fun x y => x.1 ≠ y.1)) (hj : j ≠ k) : aget j (aput k v A) = aget j A := by
  cases hg : aget j A with
  | none =>
    rw [aget_none] at hg ⊢
    intro e he
    rcases mem_aput he with rfl | ⟨he, _⟩
    · exact fun q => hj q.symm
    · exact hg e he
  | some y => exact aget_of_mem (aput_keys h) (mem_aput_other (aget_mem hg) hj)
theorem aput_length_le (k : α) (v : β) (A : List (α × β)) : (aput k v A).length ≤ A.length + 1 := by
  unfold aput
  split <;> simp
theorem aput_length_same {k : α} {v : β} {A : List (α × β)} (h : (aget k A).isSome = true) : (aput k v A).length = A.length := by
  unfold aput
  simp [h]
end
abbrev LTab := List ((Int × Int) × Bool)
def confA (o k : Int) (al was : Bool) (e : (Int × Int) × Bool) : Bool := e.1.1 == k && e.1.2 != o && (e.2 || al || was)
def takeA (A : LTab) (o k : Int) (al : Bool) : Int × LTab :=
  if A.any (confA o k al ((aget (k, o) A).getD false)) then (120, A)
  else if !(aget (k, o) A).isSome && decide (64 ≤ A.length) then (5, A)
  else (0, aput (k, o) ((aget (k, o) A).getD false || al) A)
def ownA (o : Int) (e : (Int × Int) × Bool) : Bool := e.1.2 == o
def dropA (o : Int) (A : LTab) : LTab := A.filter (fun e => !ownA o e)
def dropNA (o : Int) (A : LTab) : Nat := (A.filter (ownA o)).length
structure Right (A : LTab) : Prop where
  keys : A.Pairwise (fun x y => x.1 ≠ y.1)
  len : A.length ≤ 64
  clash : ∀ x ∈ A, ∀ y ∈ A, x.1.1 = y.1.1 → x.1.2 ≠ y.1.2 → x.2 = false
theorem Right.nil : Right [] := ⟨by simp, by simp, by simp⟩
theorem Right.drop {A : LTab} (h : Right A) (o : Int) : Right (dropA o A) :=
  ⟨h.keys.filter _, Nat.le_trans (List.length_filter_le _ _) h.len, fun x hx y hy => h.clash x (List.mem_filter.1 hx).1 y (List.mem_filter.1 hy).1⟩
theorem Right.take {A : LTab} (h : Right A) (o k : Int) (al : Bool) : Right (takeA A o k al).2 := by
  unfold takeA
  split
  · exact h
  · rename_i hno
    split
    · exact h
    · rename_i hroom
      have hno' : ∀ e ∈ A, confA o k al ((aget (k, o) A).getD false) e = false := by
        intro e he
        simp only [List.any_eq_true, not_exists, not_and, Bool.not_eq_true] at hno
        exact hno e he
      refine ⟨aput_keys h.keys, ?_, ?_⟩
      · show (aput (k, o) _ A).length ≤ 64
        cases hs : (aget (k, o) A).isSome
        · have h1 := aput_length_le (k, o) ((aget (k, o) A).getD false || al) A
          simp only [hs, Bool.not_false, Bool.true_and, decide_eq_true_eq] at hroom
          omega
        · rw [aput_length_same hs]; exact h.len
      · intro x hx y hy hk ho
        rcases mem_aput hx with rfl | ⟨hxA, hxk⟩
        · rcases mem_aput hy with rfl | ⟨hyA, hyk⟩
          · exact absurd rfl ho
          · have hc := hno' y hyA
            simp only at hk ho
            simp only [confA, ← hk, beq_self_eq_true, Bool.true_and] at hc
            have : (y.1.2 != o) = true := by simpa using fun q => ho q.symm
            rw [this, Bool.true_and] at hc
            cases h1 : y.2 <;> cases al <;> cases h2 : (aget (k, o) A).getD false <;> simp_all
        · rcases mem_aput hy with rfl | ⟨hyA, hyk⟩
          · have hc := hno' x hxA
            simp only at hk ho
            simp only [confA, hk, beq_self_eq_true, Bool.true_and] at hc
            have : (x.1.2 != o) = true := by simpa using ho
            rw [this, Bool.true_and] at hc
            cases h1 : x.2 <;> simp_all
          · exact h.clash x hxA y hyA hk ho
end Go.Mine
namespace Go.Mine
set_option linter.unusedVariables false
set_option linter.unusedSimpArgs false
structure Ch where
  kind : Int
  key : Int
  val : Int
deriving DecidableEq
structure KW where
  l : List Ch
  p : Bool
deriving DecidableEq
structure KS where
  vs : List Int
  th : List Bool
  ws : List (Int × KW)
  lk : LTab
deriving DecidableEq
def KS.new : KS := ⟨List.replicate 16 0, List.replicate 16 false, [], []⟩
def chAt (k : Int) (l : List Ch) : Option Nat := l.findIdx? (fun c => c.key == k)
def atI (k : Int) (l : List Ch) : Int := match chAt k l with | some i => i | none => -1
def KS.touch (s : KS) (n key : Int) (al : Bool) : Int × KS :=
  if n < 1 ∨ key < 0 ∨ 16 ≤ key then (1, s)
  else if ((aget n s.ws).map (·.p)).getD false then (7, s)
  else if (takeA s.lk n key al).1 ≠ 0 then ((takeA s.lk n key al).1, s)
  else (0, ⟨s.vs, s.th, if (aget n s.ws).isSome then s.ws else s.ws ++ [(n, ⟨[], false⟩)], (takeA s.lk n key al).2⟩)
def KS.listOf (s : KS) (n : Int) : List Ch := ((aget n s.ws).map (·.l)).getD []
def seenV (s : KS) (n key : Int) : Int × Bool :=
  match (s.listOf n).find? (fun c => c.key == key) with
  | some c => (c.val, c.kind == 1)
  | none => (s.vs.getD key.toNat 0, s.th.getD key.toNat false)
def KS.get (s : KS) (n key : Int) : (Int × Bool × Int) × KS :=
  let t := s.touch n key false
  if t.1 ≠ 0 then ((0, false, t.1), t.2) else (((seenV t.2 n key).1, (seenV t.2 n key).2, 0), t.2)
def putCh (c : Ch) (l : List Ch) : List Ch := match chAt c.key l with | some i => l.set i c | none => l ++ [c]
def KS.change (s : KS) (n : Int) (c : Ch) : Int × KS :=
  let t := s.touch n c.key true
  if t.1 ≠ 0 then (t.1, t.2) else (0, { t.2 with ws := aput n ⟨putCh c (t.2.listOf n), false⟩ t.2.ws })
def KS.gone (s : KS) (n : Int) : KS := { s with ws := adel n s.ws, lk := dropA n s.lk }
def KS.prepare (s : KS) (n : Int) : (List Ch × Int) × KS :=
  if n < 1 then (([], 1), s)
  else match aget n s.ws with
    | none => (([], 0), s.gone n)
    | some w => if w.p then (([], 7), s) else if w.l = [] then (([], 0), s.gone n) else ((w.l, 0), { s with ws := aput n ⟨w.l, true⟩ s.ws })
def setV (s : KS) (c : Ch) : KS := { s with vs := s.vs.set c.key.toNat c.val, th := s.th.set c.key.toNat (c.kind == 1) }
def KS.commit (s : KS) (n : Int) : Int × KS :=
  if n < 1 then (1, s) else (0, ((s.listOf n).foldl setV s).gone n)
def KS.backout (s : KS) (n : Int) : Int × KS := if n < 1 then (1, s) else (0, s.gone n)
def chOk (c : Ch) : Bool := !((c.kind != 1 && (c.kind != 2 || c.val != 0)) || decide (c.key < 0) || decide (16 ≤ c.key))
def rightL : List Ch → List Int → Bool
  | [], _ => true
  | c :: cs, seen => chOk c && !seen.contains c.key && rightL cs (c.key :: seen)
def takeAll (n : Int) : List Ch → LTab → Int × LTab
  | [], A => (0, A)
  | c :: cs, A => if (takeA A n c.key true).1 ≠ 0 then ((takeA A n c.key true).1, A) else takeAll n cs (takeA A n c.key true).2
def KS.restore (s : KS) (n : Int) (l : List Ch) : Int × KS :=
  if n < 1 then (1, s)
  else if rightL l [] = false then (1, s)
  else if (aget n s.ws).isSome then (7, s)
  else if (takeAll n l s.lk).1 ≠ 0 then ((takeAll n l s.lk).1, { s with lk := dropA n (takeAll n l s.lk).2 })
  else (0, ⟨s.vs, s.th, if l = [] then s.ws else s.ws ++ [(n, ⟨l, true⟩)], (takeAll n l s.lk).2⟩)
def KS.value (s : KS) (key : Int) : Int × Bool := if key < 0 ∨ 16 ≤ key then (0, false) else (s.vs.getD key.toNat 0, s.th.getD key.toNat false)
def KS.busy (s : KS) (n : Int) : Bool := (aget n s.ws).isSome
end Go.Mine
namespace Go.Mine
set_option linter.unusedVariables false
set_option linter.unusedSimpArgs false
theorem rightL_spec : ∀ (l : List Ch) (seen : List Int), rightL l seen = true ↔ (∀ c ∈ l, chOk c = true) ∧ (l.map (·.key)).Nodup ∧ ∀ c ∈ l, c.key ∉ seen
  | [], seen => by simp [rightL]
  | c :: cs, seen => by
    rw [rightL, Bool.and_eq_true, Bool.and_eq_true, rightL_spec cs (c.key :: seen)]
    simp only [List.map_cons, List.nodup_cons, List.mem_cons, forall_eq_or_imp, List.mem_map, not_exists, not_and, not_or, Bool.not_eq_true', List.contains_eq_mem, decide_eq_false_iff_not]
    constructor
    · rintro ⟨⟨h1, h2⟩, h3, h4, h5⟩
      exact ⟨⟨h1, h3⟩, ⟨fun x hx he => (h5 x hx).1 he, h4⟩, h2, fun x hx => (h5 x hx).2⟩
    · rintro ⟨⟨h1, h3⟩, ⟨h6, h4⟩, h2, h5⟩
      exact ⟨⟨h1, h2⟩, h3, h4, fun x hx => ⟨fun he => h6 x hx he, h5 x hx⟩⟩
def RW (l : List Ch) : Prop := (∀ c ∈ l, chOk c = true) ∧ (l.map (·.key)).Nodup
theorem rw_iff (l : List Ch) : rightL l [] = true ↔ RW l := by rw [rightL_spec]; simp [RW]
theorem chOk_iff (c : Ch) : chOk c = true ↔ (c.kind = 1 ∨ (c.kind = 2 ∧ c.val = 0)) ∧ 0 ≤ c.key ∧ c.key < 16 := by
  unfold chOk
  simp only [Bool.not_eq_true', Bool.or_eq_false_iff, Bool.and_eq_false_iff, bne_eq_false_iff_eq, decide_eq_false_iff_not, Bool.or_eq_false_iff]
  constructor
  · rintro ⟨⟨h1, h2⟩, h3⟩
    exact ⟨h1, by omega, by omega⟩
  · rintro ⟨h1, h2, h3⟩
    exact ⟨⟨h1, by omega⟩, by omega⟩
theorem nodup_lt : ∀ (n : Nat) (l : List Int), l.Nodup → (∀ x ∈ l, 0 ≤ x ∧ x < n) → l.length ≤ n
  | 0, l, _, h => by
    cases l with
    | nil => simp
    | cons x xs => have := h x (by simp); omega
  | n + 1, l, hn, h => by
    have h1 : (l.erase n).length ≤ n := nodup_lt n (l.erase n) (hn.erase _) (fun x hx => by
      have h2 := h x (List.mem_of_mem_erase hx)
      have h3 : x ≠ n := fun e => by subst e; exact hn.not_mem_erase hx
      exact ⟨h2.1, by omega⟩)
    have h2 := List.length_erase_le (a := (n : Int)) (l := l)
    by_cases hm : (n : Int) ∈ l
    · rw [List.length_erase_of_mem hm] at h1; omega
    · rw [List.erase_of_not_mem hm] at h1; omega
theorem RW.len {l : List Ch} (h : RW l) : l.length ≤ 16 := by
  have := nodup_lt 16 (l.map (·.key)) h.2 (fun x hx => by
    obtain ⟨c, hc, rfl⟩ := List.mem_map.1 hx
    have := (chOk_iff c).1 (h.1 c hc)
    exact ⟨this.2.1, this.2.2⟩)
  simpa using this
theorem RW.nil : RW [] := ⟨by simp, by simp⟩
theorem chAt_some {k : Int} {l : List Ch} {i : Nat} (h : chAt k l = some i) : ∃ x, l[i]? = some x ∧ x.key = k := by
  unfold chAt at h
  rw [List.findIdx?_eq_some_iff_getElem] at h
  obtain ⟨hi, h1, _⟩ := h
  exact ⟨l[i], List.getElem?_eq_getElem hi, by simpa using h1⟩
theorem chAt_none {k : Int} {l : List Ch} (h : chAt k l = none) : ∀ c ∈ l, c.key ≠ k := by
  unfold chAt at h
  rw [List.findIdx?_eq_none_iff] at h
  intro c hc
  simpa using h c hc
theorem RW.put {l : List Ch} (h : RW l) {c : Ch} (hc : chOk c = true) : RW (putCh c l) := by
  unfold putCh
  cases hq : chAt c.key l with
  | none =>
    refine ⟨fun x hx => ?_, ?_⟩
    · rcases List.mem_append.1 hx with hx | hx
      · exact h.1 x hx
      · obtain rfl := List.mem_singleton.1 hx; exact hc
    · rw [List.map_append, List.nodup_append]
      refine ⟨h.2, by simp, fun x hx y hy e => ?_⟩
      obtain ⟨d, hd, rfl⟩ := List.mem_map.1 hx
      simp at hy
      exact chAt_none hq d hd (e.trans hy)
  | some i =>
    obtain ⟨x, hx, hk⟩ := chAt_some hq
    refine ⟨fun y hy => ?_, ?_⟩
    · rcases List.mem_or_eq_of_mem_set hy with hy | rfl
      · exact h.1 y hy
      · exact hc
    · have : (l.set i c).map (·.key) = l.map (·.key) := by
        rw [List.map_set]
        apply List.ext_getElem?
        intro j
        rw [List.getElem?_set]
        split
        · rename_i e
          subst e
          rw [List.getElem?_map, hx]
          have hil := (List.getElem?_eq_some_iff.1 hx).1
          simp [hil, hk]
        · rfl
      rw [this]
      exact h.2
structure KS.Ok (s : KS) : Prop where
  lv : s.vs.length = 16
  lt : s.th.length = 16
  z : ∀ k, s.th.getD k false = false → s.vs.getD k 0 = 0
  keys : s.ws.Pairwise (fun x y => x.1 ≠ y.1)
  chs : ∀ x ∈ s.ws, RW x.2.l
  rk : Right s.lk
theorem KS.Ok.new : KS.new.Ok := ⟨rfl, rfl, fun k _ => by
  show (List.replicate 16 (0 : Int)).getD k 0 = 0
  rw [List.getD_eq_getElem?_getD, List.getElem?_replicate]
  split <;> rfl, List.Pairwise.nil, fun x hx => absurd hx List.not_mem_nil, Right.nil⟩
theorem takeA_keep {A : LTab} {o k : Int} {al : Bool} (h : (takeA A o k al).1 ≠ 0) : (takeA A o k al).2 = A := by
  unfold takeA at h ⊢
  split
  · rfl
  · rename_i h1
    rw [if_neg h1] at h
    split
    · rfl
    · rename_i h2
      rw [if_neg h2] at h
      exact absurd rfl h
theorem pw_snoc {α β : Type} {ws : List (α × β)} {n : α} {v : β} (h : ws.Pairwise (fun x y => x.1 ≠ y.1)) (hn : ∀ x ∈ ws, x.1 ≠ n) : (ws ++ [(n, v)]).Pairwise (fun x y => x.1 ≠ y.1) := by
  rw [List.pairwise_append]
  refine ⟨h, by simp, fun x hx y hy => ?_⟩
  obtain rfl := List.mem_singleton.1 hy
  exact hn x hx
theorem KS.Ok.touch {s : KS} (h : s.Ok) (n key : Int) (al : Bool) : (s.touch n key al).2.Ok := by
  unfold KS.touch
  split
  · exact h
  · split
    · exact h
    · split
      · exact h
      · refine ⟨h.lv, h.lt, h.z, ?_, ?_, h.rk.take _ _ _⟩
        · show (if (aget n s.ws).isSome = true then s.ws else s.ws ++ [(n, ⟨[], false⟩)]).Pairwise _
          split
          · exact h.keys
          · rename_i hn
            have hn' : aget n s.ws = none := by simpa using hn
            exact pw_snoc h.keys (aget_none.1 hn')
        · show ∀ x ∈ (if (aget n s.ws).isSome = true then s.ws else s.ws ++ [(n, ⟨[], false⟩)]), _
          split
          · exact h.chs
          · intro x hx
            rcases List.mem_append.1 hx with hx | hx
            · exact h.chs x hx
            · obtain rfl := List.mem_singleton.1 hx; exact RW.nil
theorem touch_zero {s : KS} {n key : Int} {al : Bool} (h : (s.touch n key al).1 = 0) :
    1 ≤ n ∧ 0 ≤ key ∧ key < 16 ∧ ((aget n s.ws).map (·.p)).getD false = false ∧ (takeA s.lk n key al).1 = 0 ∧
      (s.touch n key al).2 = ⟨s.vs, s.th, if (aget n s.ws).isSome then s.ws else s.ws ++ [(n, ⟨[], false⟩)], (takeA s.lk n key al).2⟩ := by
  unfold KS.touch at h ⊢
  split at h
  · cases h
  · rename_i h1
    rw [if_neg h1]
    split at h
    · cases h
    · rename_i h2
      rw [if_neg h2]
      split at h
      · rename_i h3; exact absurd h h3
      · rename_i h3
        rw [if_neg h3]
        have h3' : (takeA s.lk n key al).1 = 0 := by simpa using h3
        exact ⟨by omega, by omega, by omega, by simpa using h2, h3', rfl⟩
theorem aget_snoc_self {ws : List (Int × KW)} {n : Int} {v : KW} (h : aget n ws = none) : aget n (ws ++ [(n, v)]) = some v := by
  unfold aget at h ⊢
  rw [List.find?_append]
  simp only [Option.map_eq_none_iff] at h
  rw [h]
  simp
theorem touch_list {s : KS} {n key : Int} {al : Bool} (h : (s.touch n key al).1 = 0) : aget n (s.touch n key al).2.ws = some ⟨s.listOf n, false⟩ := by
  obtain ⟨_, _, _, h4, _, h6⟩ := touch_zero h
  rw [h6]
  show aget n (if (aget n s.ws).isSome = true then s.ws else s.ws ++ [(n, ⟨[], false⟩)]) = _
  cases hg : aget n s.ws with
  | none =>
    simp only [Option.isSome_none, Bool.false_eq_true, if_false]
    rw [aget_snoc_self hg]
    simp [KS.listOf, hg]
  | some v =>
    simp only [Option.isSome_some, if_true]
    rw [hg] at h4 ⊢
    simp at h4
    simp [KS.listOf, hg, ← h4]
theorem KS.Ok.listOf {s : KS} (h : s.Ok) (n : Int) : RW (s.listOf n) := by
  unfold KS.listOf
  cases hg : aget n s.ws with
  | none => exact RW.nil
  | some v => exact h.chs _ (aget_mem hg)
theorem KS.Ok.aputs {s : KS} (h : s.Ok) (n : Int) (v : KW) (hv : RW v.l) : ({ s with ws := aput n v s.ws } : KS).Ok :=
  ⟨h.lv, h.lt, h.z, aput_keys h.keys, fun x hx => by
    rcases mem_aput hx with rfl | ⟨hx, _⟩
    · exact hv
    · exact h.chs x hx, h.rk⟩
theorem KS.Ok.change {s : KS} (h : s.Ok) (n : Int) (c : Ch) (hc : c.kind = 1 ∨ (c.kind = 2 ∧ c.val = 0)) : (s.change n c).2.Ok := by
  unfold KS.change
  simp only
  split
  · exact h.touch _ _ _
  · rename_i h0
    have h0' : (s.touch n c.key true).1 = 0 := by simpa using h0
    have hz := touch_zero h0'
    have ht := h.touch n c.key true
    exact ht.aputs n _ ((ht.listOf n).put ((chOk_iff c).2 ⟨hc, hz.2.1, hz.2.2.1⟩))
theorem KS.Ok.gone {s : KS} (h : s.Ok) (n : Int) : (s.gone n).Ok :=
  ⟨h.lv, h.lt, h.z, h.keys.filter _, fun x hx => h.chs x (List.mem_filter.1 hx).1, h.rk.drop n⟩
theorem KS.Ok.get {s : KS} (h : s.Ok) (n key : Int) : (s.get n key).2.Ok := by
  unfold KS.get
  simp only
  split <;> exact h.touch _ _ _
theorem KS.Ok.prepare {s : KS} (h : s.Ok) (n : Int) : (s.prepare n).2.Ok := by
  unfold KS.prepare
  split
  · exact h
  · cases hg : aget n s.ws with
    | none => exact h.gone n
    | some v =>
      simp only
      split
      · exact h
      · split
        · exact h.gone n
        · exact h.aputs n _ (h.chs _ (aget_mem hg))
theorem KS.Ok.setV {s : KS} (h : s.Ok) {c : Ch} (hc : chOk c = true) : (setV s c).Ok := by
  have hk := (chOk_iff c).1 hc
  refine ⟨by simp [Mine.setV, h.lv], by simp [Mine.setV, h.lt], fun k hk' => ?_, h.keys, h.chs, h.rk⟩
  simp only [Mine.setV, List.getD_eq_getElem?_getD, List.getElem?_set] at hk' ⊢
  by_cases e : c.key.toNat = k
  · subst e
    have h1 : c.key.toNat < s.th.length := by rw [h.lt]; omega
    have h2 : c.key.toNat < s.vs.length := by rw [h.lv]; omega
    simp only [h1, h2, if_true, Option.getD_some, beq_eq_false_iff_ne] at hk' ⊢
    rcases hk.1 with q | q
    · exact absurd q hk'
    · exact q.2
  · simp only [e, if_false] at hk' ⊢
    have := h.z k (by simpa [List.getD_eq_getElem?_getD] using hk')
    simpa [List.getD_eq_getElem?_getD] using this
theorem KS.Ok.setVs : ∀ (l : List Ch) {s : KS}, s.Ok → (∀ c ∈ l, chOk c = true) → (l.foldl Mine.setV s).Ok
  | [], _, h, _ => h
  | c :: cs, _, h, hc => KS.Ok.setVs cs (h.setV (hc c (by simp))) (fun x hx => hc x (by simp [hx]))
theorem KS.Ok.commit {s : KS} (h : s.Ok) (n : Int) : (s.commit n).2.Ok := by
  unfold KS.commit
  split
  · exact h
  · exact (KS.Ok.setVs _ h (h.listOf n).1).gone n
theorem KS.Ok.backout {s : KS} (h : s.Ok) (n : Int) : (s.backout n).2.Ok := by
  unfold KS.backout
  split
  · exact h
  · exact h.gone n
theorem Right.takeAll (n : Int) : ∀ (l : List Ch) {A : LTab}, Right A → Right (takeAll n l A).2
  | [], _, h => h
  | c :: cs, A, h => by
    unfold Mine.takeAll
    split
    · exact h
    · exact Right.takeAll n cs (h.take _ _ _)
theorem KS.Ok.restore {s : KS} (h : s.Ok) (n : Int) (l : List Ch) : (s.restore n l).2.Ok := by
  unfold KS.restore
  split
  · exact h
  · split
    · exact h
    · rename_i hr
      have hr' : RW l := (rw_iff l).1 (by simpa using hr)
      split
      · exact h
      · rename_i hs
        have hs' : aget n s.ws = none := by simpa using hs
        split
        · exact ⟨h.lv, h.lt, h.z, h.keys, h.chs, (Right.takeAll n l h.rk).drop n⟩
        · refine ⟨h.lv, h.lt, h.z, ?_, ?_, Right.takeAll n l h.rk⟩
          · show (if l = [] then s.ws else s.ws ++ [(n, ⟨l, true⟩)]).Pairwise _
            split
            · exact h.keys
            · exact pw_snoc h.keys (aget_none.1 hs')
          · show ∀ x ∈ (if l = [] then s.ws else s.ws ++ [(n, ⟨l, true⟩)]), _
            split
            · exact h.chs
            · intro x hx
              rcases List.mem_append.1 hx with hx | hx
              · exact h.chs x hx
              · obtain rfl := List.mem_singleton.1 hx; exact hr'
end Go.Mine
