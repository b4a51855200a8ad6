/- The plain queue's invariant: held items are the first ones, and one work's; numbers run on. No walk. -/
import Derived.Test.YtmckdoiepmkbbaaQuT
namespace Go.Mine
set_option linter.unusedVariables false
set_option linter.unusedSimpArgs false
theorem aget_split {n : Int} {v : KW} {ws : List (Int × KW)} (hk : ws.Pairwise (fun x y => x.1 ≠ y.1)) (h : aget n ws = some v) :
    ∃ X Y, ws = X ++ (n, v) :: Y ∧ (∀ e ∈ X, e.1 ≠ n) ∧ (∀ e ∈ Y, e.1 ≠ n) ∧ (∀ v', aput n v' ws = X ++ (n, v') :: Y) ∧ adel n ws = X ++ Y := by
  have hm := aget_mem h
  obtain ⟨X, Y, rfl⟩ := List.append_of_mem hm
  rw [List.pairwise_append, List.pairwise_cons] at hk
  have hX : ∀ e ∈ X, e.1 ≠ n := fun e he => hk.2.2 e he (n, v) (by simp)
  have hY : ∀ e ∈ Y, e.1 ≠ n := fun e he q => hk.2.1.1 e he q.symm
  have mX : ∀ (v' : KW) (Z : List (Int × KW)), (∀ e ∈ Z, e.1 ≠ n) → Z.map (fun e => if e.1 = n then (e.1, v') else e) = Z := fun v' Z hZ => by
    conv => rhs; rw [← List.map_id Z]
    exact List.map_congr_left (fun e he => by rw [if_neg (hZ e he)]; rfl)
  refine ⟨X, Y, rfl, hX, hY, fun v' => ?_, ?_⟩
  · unfold aput
    rw [if_pos (by rw [h]; rfl), List.map_append, List.map_cons, mX v' X hX, mX v' Y hY]
    simp
  · unfold adel
    have fX : ∀ (Z : List (Int × KW)), (∀ e ∈ Z, e.1 ≠ n) → Z.filter (fun e => decide (e.1 ≠ n)) = Z := fun Z hZ => List.filter_eq_self.2 (fun e he => by simpa using hZ e he)
    rw [List.filter_append, List.filter_cons, fX X hX, fX Y hY]
    simp
theorem adel_none {n : Int} {ws : List (Int × KW)} (h : aget n ws = none) : adel n ws = ws := by
  unfold adel
  exact List.filter_eq_self.2 (fun e he => by simpa using aget_none.1 h e he)
theorem aget_adel {m n : Int} {ws : List (Int × KW)} : aget m (adel n ws) = if m = n then none else aget m ws := by
  induction ws with
  | nil => simp [aget, adel]
  | cons x ws ih =>
    unfold adel at ih ⊢
    rw [List.filter_cons]
    by_cases h1 : x.1 = n
    · rw [if_neg (by simpa using h1), ih]
      by_cases h2 : m = n
      · rw [if_pos h2, if_pos h2]
      · rw [if_neg h2, if_neg h2]
        unfold aget
        rw [List.find?_cons_of_neg (by simp [h1, Ne.symm h2])]
    · rw [if_pos (by simpa using h1)]
      by_cases h2 : x.1 = m
      · unfold aget
        rw [List.find?_cons_of_pos (by simpa using h2), List.find?_cons_of_pos (by simpa using h2), if_neg (by omega)]
      · unfold aget at ih ⊢
        rw [List.find?_cons_of_neg (by simpa using h2), List.find?_cons_of_neg (by simpa using h2)]
        exact ih
theorem aget_snoc {m n : Int} {v : KW} {ws : List (Int × KW)} (h : aget n ws = none) : aget m (ws ++ [(n, v)]) = if m = n then some v else aget m ws := by
  by_cases h1 : m = n
  · subst h1; rw [if_pos rfl]; exact aget_snoc_self h
  · rw [if_neg h1]
    unfold aget
    rw [List.find?_append]
    cases List.find? (fun e => decide (e.1 = m)) ws with
    | some y => rfl
    | none => simp [Ne.symm h1]
theorem aget_aput {m n : Int} {v : KW} {ws : List (Int × KW)} (hk : ws.Pairwise (fun x y => x.1 ≠ y.1)) : aget m (aput n v ws) = if m = n then some v else aget m ws := by
  by_cases h1 : m = n
  · subst h1; rw [if_pos rfl]; exact aget_put_self _ _ hk
  · rw [if_neg h1]; exact aget_put_other _ hk h1
theorem aget_noteW {m n : Int} {c : Ch} {ws : List (Int × KW)} (hk : ws.Pairwise (fun x y => x.1 ≠ y.1)) : aget m (noteW n c ws) = if m = n then some ⟨listOfW n ws ++ [c], prepd n ws⟩ else aget m ws := by
  unfold noteW listOfW prepd
  cases h : aget n ws with
  | some v => simp only [Option.map_some, Option.getD_some]; exact aget_aput hk
  | none => simp only [Option.map_none, Option.getD_none]; exact aget_snoc h
theorem listOfW_noteW {m n : Int} {c : Ch} {ws : List (Int × KW)} (hk : ws.Pairwise (fun x y => x.1 ≠ y.1)) : listOfW m (noteW n c ws) = if m = n then listOfW n ws ++ [c] else listOfW m ws := by
  conv => lhs; unfold listOfW
  rw [aget_noteW hk]
  by_cases h : m = n
  · rw [if_pos h, if_pos h]; rfl
  · rw [if_neg h, if_neg h]; rfl
theorem noteW_keys {n : Int} {c : Ch} {ws : List (Int × KW)} (hk : ws.Pairwise (fun x y => x.1 ≠ y.1)) : (noteW n c ws).Pairwise (fun x y => x.1 ≠ y.1) := by
  unfold noteW
  cases h : aget n ws with
  | some v => exact aput_keys hk
  | none => exact pw_snoc hk (fun x hx => aget_none.1 h x hx)
theorem noteW_mem {n : Int} {c : Ch} {ws : List (Int × KW)} {x : Int × KW} (hx : x ∈ noteW n c ws) : x ∈ ws ∨ x = (n, ⟨listOfW n ws ++ [c], prepd n ws⟩) := by
  unfold noteW at hx
  unfold listOfW prepd
  cases h : aget n ws with
  | some v =>
    rw [h] at hx
    rcases mem_aput hx with q | q
    · exact .inr q
    · exact .inl q.1
  | none =>
    rw [h] at hx
    rcases List.mem_append.1 hx with q | q
    · exact .inl q
    · exact .inr (List.mem_singleton.1 q)
theorem putsW_noteW {n : Int} {c : Ch} {ws : List (Int × KW)} (hk : ws.Pairwise (fun x y => x.1 ≠ y.1)) : putsW (noteW n c ws) = putsW ws + (if c.kind == 3 then 1 else 0) := by
  unfold noteW
  cases h : aget n ws with
  | some v =>
    obtain ⟨X, Y, hw, _, _, hp, _⟩ := aget_split hk h
    show putsW (aput n ⟨v.l ++ [c], v.p⟩ ws) = _
    rw [hp, hw, putsW_append, putsW_append]
    simp only [putsW, putsL_append, putsL]
    omega
  | none =>
    show putsW (ws ++ [(n, ⟨[c], false⟩)]) = _
    rw [putsW_append]
    simp only [putsW, putsL]
    omega
theorem listOfW_mem {n : Int} {ws : List (Int × KW)} {c : Ch} (h : c ∈ listOfW n ws) : ∃ x ∈ ws, c ∈ x.2.l := by
  unfold listOfW at h
  cases hg : aget n ws with
  | none => rw [hg] at h; simp at h
  | some v =>
    rw [hg] at h
    exact ⟨(n, v), aget_mem hg, h⟩
def chOf (x : It) : Ch := ⟨4, x.num, x.val⟩
def heldI (n : Int) (its : List It) : List It := its.filter (fun x => x.by_ == n)
def takesOf (l : List Ch) : List Ch := l.filter (fun c => c.kind == 4)
theorem takesOf_len (l : List Ch) : (takesOf l).length = takesL l := by
  induction l with
  | nil => rfl
  | cons x l ih =>
    unfold takesOf at ih ⊢
    rw [List.filter_cons, takesL]
    split <;> simp [*] <;> omega
structure QS.Ok (s : QS) : Prop where
  keys : s.ws.Pairwise (fun x y => x.1 ≠ y.1)
  pos : ∀ x ∈ s.ws, 1 ≤ x.1
  ne : ∀ x ∈ s.ws, x.2.l ≠ []
  ch : ∀ x ∈ s.ws, ∀ c ∈ x.2.l, (c.kind = 3 ∧ c.key = 0) ∨ c.kind = 4
  sz : s.its.length + putsW s.ws ≤ 16
  g0 : (s.its.length : Int) ≤ s.gv
  g1 : s.gv + 1 + putsW s.ws ≤ 4611686018427387904
  front : ∃ A B h, s.its = A ++ B ∧ (∀ x ∈ A, x.by_ = h) ∧ (∀ x ∈ B, x.by_ = 0) ∧ (A ≠ [] → 1 ≤ h)
  held : ∀ n, n ≠ 0 → (heldI n s.its).map chOf = takesOf (listOfW n s.ws)
  num : ∀ (i : Nat) (x : It), s.its[i]? = some x → x.num = s.gv - s.its.length + 1 + i
theorem QS.Ok.new : QS.new.Ok := ⟨List.Pairwise.nil, by simp [QS.new], by simp [QS.new], by simp [QS.new], by decide, by decide, by decide, ⟨[], [], 0, rfl, by simp, by simp, by simp⟩, fun n _ => rfl, by simp [QS.new]⟩
theorem held_front {A B : List It} {h n : Int} (hA : ∀ x ∈ A, x.by_ = h) (hB : ∀ x ∈ B, x.by_ = 0) (hn : n ≠ 0) : heldI n (A ++ B) = if h = n then A else [] := by
  unfold heldI
  rw [List.filter_append]
  have h2 : B.filter (fun x => x.by_ == n) = [] := List.filter_eq_nil_iff.2 (fun x hx => by rw [hB x hx]; simpa using Ne.symm hn)
  rw [h2, List.append_nil]
  by_cases q : h = n
  · rw [if_pos q]; exact List.filter_eq_self.2 (fun x hx => by rw [hA x hx]; simpa using q)
  · rw [if_neg q]; exact List.filter_eq_nil_iff.2 (fun x hx => by rw [hA x hx]; simpa using q)
theorem len_puts_others {h : Int} : ∀ {ws : List (Int × KW)}, (∀ x ∈ ws, x.1 ≠ h) → (∀ x ∈ ws, x.1 ≠ h → 1 ≤ putsL x.2.l) → ws.length ≤ putsW ws
  | [], _, _ => Nat.le_refl _
  | x :: ws, h1, h2 => by
    have := len_puts_others (ws := ws) (fun y hy => h1 y (List.mem_cons_of_mem _ hy)) (fun y hy => h2 y (List.mem_cons_of_mem _ hy))
    have := h2 x (by simp) (h1 x (by simp))
    simp only [List.length_cons, putsW]
    omega
theorem len_puts {h : Int} : ∀ {ws : List (Int × KW)}, ws.Pairwise (fun x y => x.1 ≠ y.1) → (∀ x ∈ ws, x.1 ≠ h → 1 ≤ putsL x.2.l) → ws.length ≤ putsW ws + 1
  | [], _, _ => Nat.zero_le _
  | x :: ws, hk, h2 => by
    rw [List.pairwise_cons] at hk
    by_cases q : x.1 = h
    · have := len_puts_others (h := h) (ws := ws) (fun y hy e => hk.1 y hy (by rw [q, e])) (fun y hy => h2 y (List.mem_cons_of_mem _ hy))
      simp only [List.length_cons, putsW]
      omega
    · have := len_puts (h := h) hk.2 (fun y hy => h2 y (List.mem_cons_of_mem _ hy))
      have := h2 x (by simp) q
      simp only [List.length_cons, putsW]
      omega
theorem len_split {l : List Ch} (h : ∀ c ∈ l, (c.kind = 3 ∧ c.key = 0) ∨ c.kind = 4) : l.length = putsL l + takesL l := by
  induction l with
  | nil => rfl
  | cons x l ih =>
    have := ih (fun c hc => h c (List.mem_cons_of_mem _ hc))
    simp only [List.length_cons, putsL, takesL]
    rcases h x (by simp) with ⟨q, _⟩ | q <;> rw [q] <;> simp <;> omega
theorem QS.Ok.takes_le {s : QS} (h : s.Ok) {x : Int × KW} (hx : x ∈ s.ws) : takesL x.2.l ≤ s.its.length := by
  have h1 := h.held x.1 (by have := h.pos x hx; omega)
  have h2 : listOfW x.1 s.ws = x.2.l := by unfold listOfW; rw [aget_of_mem h.keys (show (x.1, x.2) ∈ s.ws from hx)]; rfl
  rw [h2] at h1
  have h3 := congrArg List.length h1
  rw [List.length_map, takesOf_len] at h3
  rw [← h3]
  exact List.length_filter_le _ _
theorem QS.Ok.ws_len {s : QS} (h : s.Ok) : s.ws.length ≤ putsW s.ws + 1 := by
  obtain ⟨A, B, hh, e, hA, hB, hp⟩ := h.front
  refine len_puts (h := hh) h.keys (fun x hx hne => ?_)
  have hn0 : x.1 ≠ 0 := by have := h.pos x hx; omega
  have h1 := h.held x.1 hn0
  have h2 : listOfW x.1 s.ws = x.2.l := by unfold listOfW; rw [aget_of_mem h.keys (show (x.1, x.2) ∈ s.ws from hx)]; rfl
  rw [h2, e, held_front hA hB hn0, if_neg (Ne.symm hne)] at h1
  have h3 := congrArg List.length h1
  rw [takesOf_len] at h3
  have h4 := len_split (h.ch x hx)
  have h5 := h.ne x hx
  have h6 : x.2.l.length ≠ 0 := fun q => h5 (List.eq_nil_of_length_eq_zero q)
  simp at h3
  omega
theorem QS.Ok.bd {s : QS} (h : s.Ok) : s.Bd := by
  have h1 := h.sz
  have h2 := h.ws_len
  have h3 := h.g0
  have h4 := h.g1
  refine ⟨h.keys, by omega, by omega, fun x hx => ?_, by omega, by omega, by omega⟩
  have h5 := h.takes_le hx
  have h6 := len_split (h.ch x hx)
  have h7 := putsW_mem hx
  omega
theorem QS.Ok.ws_le {s : QS} (h : s.Ok) : s.ws.length ≤ 17 := by have h1 := h.sz; have h2 := h.ws_len; omega
theorem fit_pos {s : QS} {n : Int} (h : s.fit n = 0) : 1 ≤ n ∧ prepd n s.ws = false := by
  unfold QS.fit at h
  by_cases h1 : n < 1
  · rw [if_pos h1] at h; omega
  · rw [if_neg h1] at h
    cases hp : prepd n s.ws with
    | false => exact ⟨by omega, rfl⟩
    | true => rw [hp] at h; simp at h
end Go.Mine
