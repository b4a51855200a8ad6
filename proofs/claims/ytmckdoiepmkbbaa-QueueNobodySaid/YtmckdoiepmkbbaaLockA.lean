/- The lock table as a list, plain: no program, no memory. -/
import Derived.Test.YtmckdoiepmkbbaaMapLibB
namespace Go.Mine
set_option linter.unusedVariables false
set_option linter.unusedSimpArgs false
set_option linter.unusedSectionVars false
section
variable {α β : Type} [DecidableEq α]
def kv (L : List (α × β × Nat)) : List (α × β) := L.map fun e => (e.1, e.2.1)
def aget (k : α) (A : List (α × β)) : Option β := (A.find? (fun e => e.1 = k)).map (·.2)
def aput (k : α) (v : β) (A : List (α × β)) : List (α × β) := if (aget k A).isSome then A.map (fun e => if e.1 = k then (e.1, v) else e) else A ++ [(k, v)]
def adel (k : α) (A : List (α × β)) : List (α × β) := A.filter (fun e => e.1 ≠ k)
theorem kv_get (k : α) (L : List (α × β × Nat)) : mget k L = aget k (kv L) := by
  unfold mget aget kv
  rw [List.find?_map]
  simp only [Option.map_map]
  rfl
theorem kv_put (k : α) (v : β) (c : Nat) (L : List (α × β × Nat)) : kv (mput k v c L) = aput k v (kv L) := by
  unfold mput aput
  rw [kv_get]
  split
  · simp only [kv, List.map_map]
    apply List.map_congr_left
    intro e _
    simp only [Function.comp_apply]
    split <;> rfl
  · simp [kv]
theorem kv_del (k : α) (L : List (α × β × Nat)) : kv (mdel k L) = adel k (kv L) := by
  unfold mdel adel kv
  rw [List.filter_map]
  rfl
theorem kv_filter (p : α × β → Bool) (L : List (α × β × Nat)) : kv (L.filter (fun e => p (e.1, e.2.1))) = (kv L).filter p := by
  unfold kv
  rw [List.filter_map]
  rfl
theorem kv_length (L : List (α × β × Nat)) : (kv L).length = L.length := by simp [kv]
theorem kv_keys {L : List (α × β × Nat)} {c : Nat} (h : Ok L c) : (kv L).Pairwise (fun x y => x.1 ≠ y.1) := by
  unfold kv
  rw [List.pairwise_map]
  exact h.keys
theorem aget_mem {k : α} {v : β} {A : List (α × β)} (h : aget k A = some v) : (k, v) ∈ A := by
  unfold aget at h
  cases hf : A.find? (fun e => decide (e.1 = k)) with
  | none => simp [hf] at h
  | some e =>
    have h1 := List.mem_of_find?_eq_some hf
    have h2 := List.find?_some hf
    simp only [decide_eq_true_eq] at h2
    simp [hf] at h
    rw [← h, ← h2]
    exact h1
theorem aget_of_mem {k : α} {v : β} : ∀ {A : List (α × β)}, A.Pairwise (fun x y => x.1 ≠ y.1) → (k, v) ∈ A → aget k A = some v
  | [], _, h => by cases h
  | e :: es, hp, h => by
    have h1 := List.pairwise_cons.1 hp
    unfold aget
    by_cases he : e.1 = k
    · rcases List.mem_cons.1 h with h | h
      · subst h; simp [List.find?_cons]
      · exact absurd he (h1.1 _ h)
    · rcases List.mem_cons.1 h with h | h
      · subst h; exact absurd rfl he
      · have := aget_of_mem h1.2 h
        unfold aget at this
        simpa [List.find?_cons, he] using this
theorem aget_none {k : α} {A : List (α × β)} : aget k A = none ↔ ∀ e ∈ A, e.1 ≠ k := by
  simp [aget, List.find?_eq_none]
theorem mem_aput {k : α} {v : β} {A : List (α × β)} {e : α × β} (h : e ∈ aput k v A) : e = (k, v) ∨ (e ∈ A ∧ e.1 ≠ k) := by
  unfold aput at h
  split at h
  · obtain ⟨x, hx, rfl⟩ := List.mem_map.1 h
    by_cases q : x.1 = k
    · simp [q]
    · simp [q, hx]
  · rename_i hn
    have hn' : aget k A = none := by simpa using hn
    rw [aget_none] at hn'
    rcases List.mem_append.1 h with h | h
    · exact .inr ⟨h, hn' e h⟩
    · exact .inl (by simpa using h)
theorem mem_aput_self (k : α) (v : β) (A : List (α × β)) : (k, v) ∈ aput k v A := by
  unfold aput
  split
  · rename_i hs
    obtain ⟨y, hy⟩ := Option.isSome_iff_exists.1 hs
    exact List.mem_map.2 ⟨(k, y), aget_mem hy, by simp⟩
  · simp
theorem mem_aput_other {k : α} {v : β} {A : List (α × β)} {e : α × β} (h : e ∈ A) (hk : e.1 ≠ k) : e ∈ aput k v A := by
  unfold aput
  split
  · exact List.mem_map.2 ⟨e, h, by simp [hk]⟩
  · exact List.mem_append_left _ h
theorem aput_keys {k : α} {v : β} {A : List (α × β)} (h : A.Pairwise (fun x y => x.1 ≠ y.1)) : (aput k v A).Pairwise (fun x y => x.1 ≠ y.1) := by
  unfold aput
  split
  · rw [List.pairwise_map]
    refine h.imp ?_
    intro a b hab
    have e : ∀ x : α × β, (if x.1 = k then (x.1, v) else x).1 = x.1 := fun x => by split <;> rfl
    rw [e, e]; exact hab
  · rename_i hn
    have hn' : aget k A = none := by simpa using hn
    rw [aget_none] at hn'
    rw [List.pairwise_append]
    refine ⟨h, by simp, ?_⟩
    intro a ha b hb
    simp at hb; subst hb
    exact hn' a ha
theorem aget_put_self (k : α) (v : β) {A : List (α × β)} (h : A.Pairwise (fun x y => x.1 ≠ y.1)) : aget k (aput k v A) = some v := aget_of_mem (aput_keys h) (mem_aput_self k v A)
theorem aget_put_other {k j : α} (v : β) {A : List (α × β)} (h : A.Pairwise (fun x y => x.1 ≠ y.1)) (hj : j ≠ k) : aget j (aput k v A) = aget j A := by
  cases hg : aget j A with
  | none =>
    rw [aget_none] at hg ⊢
    intro e he
    rcases mem_aput he with rfl | ⟨he, _⟩
    · exact fun q => hj q.symm
    · exact hg e he
  | some y => exact aget_of_mem (aput_keys h) (mem_aput_other (aget_mem hg) hj)
theorem aput_length_le (k : α) (v : β) (A : List (α × β)) : (aput k v A).length ≤ A.length + 1 := by
  unfold aput
  split <;> simp
theorem aput_length_same {k : α} {v : β} {A : List (α × β)} (h : (aget k A).isSome = true) : (aput k v A).length = A.length := by
  unfold aput
  simp [h]
end

/-! ### Locks: (key, owner), alone or not -/
abbrev LTab := List ((Int × Int) × Bool)
def confA (o k : Int) (al was : Bool) (e : (Int × Int) × Bool) : Bool := e.1.1 == k && e.1.2 != o && (e.2 || al || was)
def takeA (A : LTab) (o k : Int) (al : Bool) : Int × LTab :=
  if A.any (confA o k al ((aget (k, o) A).getD false)) then (120, A)
  else if !(aget (k, o) A).isSome && decide (64 ≤ A.length) then (5, A)
  else (0, aput (k, o) ((aget (k, o) A).getD false || al) A)
def ownA (o : Int) (e : (Int × Int) × Bool) : Bool := e.1.2 == o
def dropA (o : Int) (A : LTab) : LTab := A.filter (fun e => !ownA o e)
def dropNA (o : Int) (A : LTab) : Nat := (A.filter (ownA o)).length

/-- What every table is: each lock once, at most 64, no two clash. -/
structure Right (A : LTab) : Prop where
  keys : A.Pairwise (fun x y => x.1 ≠ y.1)
  len : A.length ≤ 64
  clash : ∀ x ∈ A, ∀ y ∈ A, x.1.1 = y.1.1 → x.1.2 ≠ y.1.2 → x.2 = false

theorem Right.nil : Right [] := ⟨by simp, by simp, by simp⟩
theorem Right.drop {A : LTab} (h : Right A) (o : Int) : Right (dropA o A) :=
  ⟨h.keys.filter _, Nat.le_trans (List.length_filter_le _ _) h.len, fun x hx y hy => h.clash x (List.mem_filter.1 hx).1 y (List.mem_filter.1 hy).1⟩
theorem Right.take {A : LTab} (h : Right A) (o k : Int) (al : Bool) : Right (takeA A o k al).2 := by
  unfold takeA
  split
  · exact h
  · rename_i hno
    split
    · exact h
    · rename_i hroom
      have hno' : ∀ e ∈ A, confA o k al ((aget (k, o) A).getD false) e = false := by
        intro e he
        simp only [List.any_eq_true, not_exists, not_and, Bool.not_eq_true] at hno
        exact hno e he
      refine ⟨aput_keys h.keys, ?_, ?_⟩
      · show (aput (k, o) _ A).length ≤ 64
        cases hs : (aget (k, o) A).isSome
        · have h1 := aput_length_le (k, o) ((aget (k, o) A).getD false || al) A
          simp only [hs, Bool.not_false, Bool.true_and, decide_eq_true_eq] at hroom
          omega
        · rw [aput_length_same hs]; exact h.len
      · intro x hx y hy hk ho
        rcases mem_aput hx with rfl | ⟨hxA, hxk⟩
        · rcases mem_aput hy with rfl | ⟨hyA, hyk⟩
          · exact absurd rfl ho
          · have hc := hno' y hyA
            simp only at hk ho
            simp only [confA, ← hk, beq_self_eq_true, Bool.true_and] at hc
            have : (y.1.2 != o) = true := by simpa using fun q => ho q.symm
            rw [this, Bool.true_and] at hc
            cases h1 : y.2 <;> cases al <;> cases h2 : (aget (k, o) A).getD false <;> simp_all
        · rcases mem_aput hy with rfl | ⟨hyA, hyk⟩
          · have hc := hno' x hxA
            simp only at hk ho
            simp only [confA, hk, beq_self_eq_true, Bool.true_and] at hc
            have : (x.1.2 != o) = true := by simpa using ho
            rw [this, Bool.true_and] at hc
            cases h1 : x.2 <;> simp_all
          · exact h.clash x hxA y hyA hk ho
end Go.Mine
