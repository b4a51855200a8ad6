/- Texts of this seat, put together: QuU, RdZ, LockX. -/
import Derived.Test.YtdejbinmnoabeaaGreatBm10
import Derived.Test.YtdejbinmnoabeaaGreatBm5
namespace Go.Mine
set_option linter.unusedVariables false
set_option linter.unusedSimpArgs false
theorem aget_split {n : Int} {v : KW} {ws : List (Int × KW)} (hk : ws.Pairwise (fun x y => x.1 ≠ y.1)) (h : aget n ws = some v) :
    ∃ X Y, ws = X ++ (n, v) :: Y ∧ (∀ e ∈ X, e.1 ≠ n) ∧ (∀ e ∈ Y, e.1 ≠ n) ∧ (∀ v', aput n v' ws = X ++ (n, v') :: Y) ∧ adel n ws = X ++ Y := by
  have hm := aget_mem h
  obtain ⟨X, Y, rfl⟩ := List.append_of_mem hm
  rw [List.pairwise_append, List.pairwise_cons] at hk
  have hX : ∀ e ∈ X, e.1 ≠ n := fun e he => hk.2.2 e he (n, v) (by simp)
  have hY : ∀ e ∈ Y, e.1 ≠ n := fun e he q => hk.2.1.1 e he q.symm
  have mX : ∀ (v' : KW) (Z : List (Int × KW)), (∀ e ∈ Z, e.1 ≠ n) → Z.map (fun e => if e.1 = n then (e.1, v') else e) = Z := fun v' Z hZ => by
    conv => rhs; rw [← List.map_id Z]
    exact List.map_congr_left (fun e he => by rw [if_neg (hZ e he)]; rfl)
  refine ⟨X, Y, rfl, hX, hY, fun v' => ?_, ?_⟩
  · unfold aput
    rw [if_pos (by rw [h]; rfl), List.map_append, List.map_cons, mX v' X hX, mX v' Y hY]
    simp
  · unfold adel
    have fX : ∀ (Z : List (Int × KW)), (∀ e ∈ Z, e.1 ≠ n) → Z.filter (fun e => decide (e.1 ≠ n)) = Z := fun Z hZ => List.filter_eq_self.2 (fun e he => by simpa using hZ e he)
    rw [List.filter_append, List.filter_cons, fX X hX, fX Y hY]
    simp
theorem adel_none {n : Int} {ws : List (Int × KW)} (h : aget n ws = none) : adel n ws = ws := by
  unfold adel
  exact List.filter_eq_self.2 (fun e he => by simpa using aget_none.1 h e he)
theorem aget_adel {m n : Int} {ws : List (Int × KW)} : aget m (adel n ws) = if m = n then none else aget m ws := by
  induction ws with
  | nil => simp [aget, adel]
  | cons x ws ih =>
    unfold adel at ih ⊢
    rw [List.filter_cons]
    by_cases h1 : x.1 = n
    · rw [if_neg (by simpa using h1), ih]
      by_cases h2 : m = n
      · rw [if_pos h2, if_pos h2]
      · rw [if_neg h2, if_neg h2]
        unfold aget
        rw [List.find?_cons_of_neg (by simp [h1, Ne.symm h2])]
    · rw [if_pos (by simpa using h1)]
      by_cases h2 : x.1 = m
      · unfold aget
        rw [List.find?_cons_of_pos (by simpa using h2), List.find?_cons_of_pos (by simpa using h2), if_neg (by omega)]
      · unfold aget at ih ⊢
        rw [List.find?_cons_of_neg (by simpa using h2), List.find?_cons_of_neg (by simpa using h2)]
        exact ih
theorem aget_snoc {m n : Int} {v : KW} {ws : List (Int × KW)} (h : aget n ws = none) : aget m (ws ++ [(n, v)]) = if m = n then some v else aget m ws := by
  by_cases h1 : m = n
  · subst h1; rw [if_pos rfl]; exact aget_snoc_self h
  · rw [if_neg h1]
    unfold aget
    rw [List.find?_append]
    cases List.find? (fun e => decide (e.1 = m)) ws with
    | some y => rfl
    | none => simp [Ne.symm h1]
theorem aget_aput {m n : Int} {v : KW} {ws : List (Int × KW)} (hk : ws.Pairwise (fun x y => x.1 ≠ y.1)) : aget m (aput n v ws) = if m = n then some v else aget m ws := by
  by_cases h1 : m = n
  · subst h1; rw [if_pos rfl]; exact aget_put_self _ _ hk
  · rw [if_neg h1]; exact aget_put_other _ hk h1
theorem aget_noteW {m n : Int} {c : Ch} {ws : List (Int × KW)} (hk : ws.Pairwise (fun x y => x.1 ≠ y.1)) : aget m (noteW n c ws) = if m = n then some ⟨listOfW n ws ++ [c], prepd n ws⟩ else aget m ws := by
  unfold noteW listOfW prepd
  cases h : aget n ws with
  | some v => simp only [Option.map_some, Option.getD_some]; exact aget_aput hk
  | none => simp only [Option.map_none, Option.getD_none]; exact aget_snoc h
theorem listOfW_noteW {m n : Int} {c : Ch} {ws : List (Int × KW)} (hk : ws.Pairwise (fun x y => x.1 ≠ y.1)) : listOfW m (noteW n c ws) = if m = n then listOfW n ws ++ [c] else listOfW m ws := by
  conv => lhs; unfold listOfW
  rw [aget_noteW hk]
  by_cases h : m = n
  · rw [if_pos h, if_pos h]; rfl
  · rw [if_neg h, if_neg h]; rfl
theorem noteW_keys {n : Int} {c : Ch} {ws : List (Int × KW)} (hk : ws.Pairwise (fun x y => x.1 ≠ y.1)) : (noteW n c ws).Pairwise (fun x y => x.1 ≠ y.1) := by
  unfold noteW
  cases h : aget n ws with
  | some v => exact aput_keys hk
  | none => exact pw_snoc hk (fun x hx => aget_none.1 h x hx)
theorem noteW_mem {n : Int} {c : Ch} {ws : List (Int × KW)} {x : Int × KW} (hx : x ∈ noteW n c ws) : x ∈ ws ∨ x = (n, ⟨listOfW n ws ++ [c], prepd n ws⟩) := by
  unfold noteW at hx
  unfold listOfW prepd
  cases h : aget n ws with
  | some v =>
    rw [h] at hx
    rcases mem_aput hx with q | q
    · exact .inr q
    · exact .inl q.1
  | none =>
    rw [h] at hx
    rcases List.mem_append.1 hx with q | q
    · exact .inl q
    · exact .inr (List.mem_singleton.1 q)
theorem putsW_noteW {n : Int} {c : Ch} {ws : List (Int × KW)} (hk : ws.Pairwise (fun x y => x.1 ≠ y.1)) : putsW (noteW n c ws) = putsW ws + (if c.kind == 3 then 1 else 0) := by
  unfold noteW
  cases h : aget n ws with
  | some v =>
    obtain ⟨X, Y, hw, _, _, hp, _⟩ := aget_split hk h
    show putsW (aput n ⟨v.l ++ [c], v.p⟩ ws) = _
    rw [hp, hw, putsW_append, putsW_append]
    simp only [putsW, putsL_append, putsL]
    omega
  | none =>
    show putsW (ws ++ [(n, ⟨[c], false⟩)]) = _
    rw [putsW_append]
    simp only [putsW, putsL]
    omega
theorem listOfW_mem {n : Int} {ws : List (Int × KW)} {c : Ch} (h : c ∈ listOfW n ws) : ∃ x ∈ ws, c ∈ x.2.l := by
  unfold listOfW at h
  cases hg : aget n ws with
  | none => rw [hg] at h; simp at h
  | some v =>
    rw [hg] at h
    exact ⟨(n, v), aget_mem hg, h⟩
def chOf (x : It) : Ch := ⟨4, x.num, x.val⟩
def heldI (n : Int) (its : List It) : List It := its.filter (fun x => x.by_ == n)
def takesOf (l : List Ch) : List Ch := l.filter (fun c => c.kind == 4)
theorem takesOf_len (l : List Ch) : (takesOf l).length = takesL l := by
  induction l with
  | nil => rfl
  | cons x l ih =>
    unfold takesOf at ih ⊢
    rw [List.filter_cons, takesL]
    split <;> simp [*] <;> omega
structure QS.Ok (s : QS) : Prop where
  keys : s.ws.Pairwise (fun x y => x.1 ≠ y.1)
  pos : ∀ x ∈ s.ws, 1 ≤ x.1
  ne : ∀ x ∈ s.ws, x.2.l ≠ []
  ch : ∀ x ∈ s.ws, ∀ c ∈ x.2.l, (c.kind = 3 ∧ c.key = 0) ∨ c.kind = 4
  sz : s.its.length + putsW s.ws ≤ 16
  g0 : (s.its.length : Int) ≤ s.gv
  g1 : s.gv + 1 + putsW s.ws ≤ 4611686018427387904
  front : ∃ A B h, s.its = A ++ B ∧ (∀ x ∈ A, x.by_ = h) ∧ (∀ x ∈ B, x.by_ = 0) ∧ (A ≠ [] → 1 ≤ h)
  held : ∀ n, n ≠ 0 → (heldI n s.its).map chOf = takesOf (listOfW n s.ws)
  num : ∀ (i : Nat) (x : It), s.its[i]? = some x → x.num = s.gv - s.its.length + 1 + i
theorem QS.Ok.new : QS.new.Ok := ⟨List.Pairwise.nil, by simp [QS.new], by simp [QS.new], by simp [QS.new], by decide, by decide, by decide, ⟨[], [], 0, rfl, by simp, by simp, by simp⟩, fun n _ => rfl, by simp [QS.new]⟩
theorem held_front {A B : List It} {h n : Int} (hA : ∀ x ∈ A, x.by_ = h) (hB : ∀ x ∈ B, x.by_ = 0) (hn : n ≠ 0) : heldI n (A ++ B) = if h = n then A else [] := by
  unfold heldI
  rw [List.filter_append]
  have h2 : B.filter (fun x => x.by_ == n) = [] := List.filter_eq_nil_iff.2 (fun x hx => by rw [hB x hx]; simpa using Ne.symm hn)
  rw [h2, List.append_nil]
  by_cases q : h = n
  · rw [if_pos q]; exact List.filter_eq_self.2 (fun x hx => by rw [hA x hx]; simpa using q)
  · rw [if_neg q]; exact List.filter_eq_nil_iff.2 (fun x hx => by rw [hA x hx]; simpa using q)
theorem len_puts_others {h : Int} : ∀ {ws : List (Int × KW)}, (∀ x ∈ ws, x.1 ≠ h) → (∀ x ∈ ws, x.1 ≠ h → 1 ≤ putsL x.2.l) → ws.length ≤ putsW ws
  | [], _, _ => Nat.le_refl _
  | x :: ws, h1, h2 => by
    have := len_puts_others (ws := ws) (fun y hy => h1 y (List.mem_cons_of_mem _ hy)) (fun y hy => h2 y (List.mem_cons_of_mem _ hy))
    have := h2 x (by simp) (h1 x (by simp))
    simp only [List.length_cons, putsW]
    omega
theorem len_puts {h : Int} : ∀ {ws : List (Int × KW)}, ws.Pairwise (fun x y => x.1 ≠ y.1) → (∀ x ∈ ws, x.1 ≠ h → 1 ≤ putsL x.2.l) → ws.length ≤ putsW ws + 1
  | [], _, _ => Nat.zero_le _
  | x :: ws, hk, h2 => by
    rw [List.pairwise_cons] at hk
    by_cases q : x.1 = h
    · have := len_puts_others (h := h) (ws := ws) (fun y hy e => hk.1 y hy (by rw [q, e])) (fun y hy => h2 y (List.mem_cons_of_mem _ hy))
      simp only [List.length_cons, putsW]
      omega
    · have := len_puts (h := h) hk.2 (fun y hy => h2 y (List.mem_cons_of_mem _ hy))
      have := h2 x (by simp) q
      simp only [List.length_cons, putsW]
      omega
theorem len_split {l : List Ch} (h : ∀ c ∈ l, (c.kind = 3 ∧ c.key = 0) ∨ c.kind = 4) : l.length = putsL l + takesL l := by
  induction l with
  | nil => rfl
  | cons x l ih =>
    have := ih (fun c hc => h c (List.mem_cons_of_mem _ hc))
    simp only [List.length_cons, putsL, takesL]
    rcases h x (by simp) with ⟨q, _⟩ | q <;> rw [q] <;> simp <;> omega
theorem QS.Ok.takes_le {s : QS} (h : s.Ok) {x : Int × KW} (hx : x ∈ s.ws) : takesL x.2.l ≤ s.its.length := by
  have h1 := h.held x.1 (by have := h.pos x hx; omega)
  have h2 : listOfW x.1 s.ws = x.2.l := by unfold listOfW; rw [aget_of_mem h.keys (show (x.1, x.2) ∈ s.ws from hx)]; rfl
  rw [h2] at h1
  have h3 := congrArg List.length h1
  rw [List.length_map, takesOf_len] at h3
  rw [← h3]
  exact List.length_filter_le _ _
theorem QS.Ok.ws_len {s : QS} (h : s.Ok) : s.ws.length ≤ putsW s.ws + 1 := by
  obtain ⟨A, B, hh, e, hA, hB, hp⟩ := h.front
  refine len_puts (h := hh) h.keys (fun x hx hne => ?_)
  have hn0 : x.1 ≠ 0 := by have := h.pos x hx; omega
  have h1 := h.held x.1 hn0
  have h2 : listOfW x.1 s.ws = x.2.l := by unfold listOfW; rw [aget_of_mem h.keys (show (x.1, x.2) ∈ s.ws from hx)]; rfl
  rw [h2, e, held_front hA hB hn0, if_neg (Ne.symm hne)] at h1
  have h3 := congrArg List.length h1
  rw [takesOf_len] at h3
  have h4 := len_split (h.ch x hx)
  have h5 := h.ne x hx
  have h6 : x.2.l.length ≠ 0 := fun q => h5 (List.eq_nil_of_length_eq_zero q)
  simp at h3
  omega
theorem QS.Ok.bd {s : QS} (h : s.Ok) : s.Bd := by
  have h1 := h.sz
  have h2 := h.ws_len
  have h3 := h.g0
  have h4 := h.g1
  refine ⟨h.keys, by omega, by omega, fun x hx => ?_, by omega, by omega, by omega⟩
  have h5 := h.takes_le hx
  have h6 := len_split (h.ch x hx)
  have h7 := putsW_mem hx
  omega
theorem QS.Ok.ws_le {s : QS} (h : s.Ok) : s.ws.length ≤ 17 := by have h1 := h.sz; have h2 := h.ws_len; omega
theorem fit_pos {s : QS} {n : Int} (h : s.fit n = 0) : 1 ≤ n ∧ prepd n s.ws = false := by
  unfold QS.fit at h
  by_cases h1 : n < 1
  · rw [if_pos h1] at h; omega
  · rw [if_neg h1] at h
    cases hp : prepd n s.ws with
    | false => exact ⟨by omega, rfl⟩
    | true => rw [hp] at h; simp at h
end Go.Mine
namespace Go.Mine
set_option linter.unusedVariables false
set_option linter.unusedSimpArgs false
theorem takesOf_append (a b : List Ch) : takesOf (a ++ b) = takesOf a ++ takesOf b := List.filter_append ..
theorem prepd_list {n : Int} {ws : List (Int × KW)} {c : Ch} : listOfW n ws ++ [c] ≠ [] := by simp
theorem QS.Ok.put {s : QS} (h : s.Ok) (n v : Int) : (s.put n v).2.Ok := by
  unfold QS.put
  by_cases h1 : s.fit n = 0
  · rw [if_neg (by simp [h1])]
    by_cases h2 : s.room < 1
    · rw [if_pos h2]; exact h
    · rw [if_neg h2]
      obtain ⟨hn, hp⟩ := fit_pos h1
      have hr : s.room = min (16 - (s.its.length : Int) - putsW s.ws) (4611686018427387904 - (s.gv + 1) - putsW s.ws) := rfl
      have hpw := putsW_noteW (n := n) (c := ⟨3, 0, v⟩) h.keys
      have hpw' : putsW (noteW n ⟨3, 0, v⟩ s.ws) = putsW s.ws + 1 := hpw
      refine ⟨noteW_keys h.keys, fun x hx => ?_, fun x hx => ?_, fun x hx => ?_, ?_, h.g0, ?_, h.front, fun m hm => ?_, h.num⟩
      · rcases noteW_mem hx with q | rfl
        · exact h.pos x q
        · exact hn
      · rcases noteW_mem hx with q | rfl
        · exact h.ne x q
        · exact prepd_list
      · rcases noteW_mem hx with q | rfl
        · exact h.ch x q
        · intro c hc
          rcases List.mem_append.1 hc with hc | hc
          · obtain ⟨y, hy, hcy⟩ := listOfW_mem hc
            exact h.ch y hy c hcy
          · obtain rfl := List.mem_singleton.1 hc
            exact .inl ⟨rfl, rfl⟩
      · show s.its.length + putsW (noteW n ⟨3, 0, v⟩ s.ws) ≤ 16
        omega
      · show s.gv + 1 + putsW (noteW n ⟨3, 0, v⟩ s.ws) ≤ _
        omega
      · show (heldI m s.its).map chOf = takesOf (listOfW m (noteW n ⟨3, 0, v⟩ s.ws))
        rw [listOfW_noteW h.keys, h.held m hm]
        by_cases q : m = n
        · rw [if_pos q, takesOf_append, q]
          show _ = _ ++ []
          rw [List.append_nil]
        · rw [if_neg q]
  · rw [if_pos h1]; exact h
theorem take_split {n : Int} {its : List It} {i : Nat} (h : its.findIdx? (fun x => x.by_ != n) = some i) : ∃ L1 x L2, its = L1 ++ x :: L2 ∧ L1.length = i ∧ (∀ y ∈ L1, y.by_ = n) ∧ x.by_ ≠ n ∧ its.getD i ⟨0, 0, 0⟩ = x := by
  rw [List.findIdx?_eq_some_iff_getElem] at h
  obtain ⟨hi, h1, h2⟩ := h
  refine ⟨its.take i, its[i], its.drop (i + 1), ?_, by simp; omega, fun y hy => ?_, by simpa using h1, by simp [List.getD_eq_getElem?_getD, hi]⟩
  · rw [← List.drop_eq_getElem_cons hi, List.take_append_drop]
  · obtain ⟨j, hj, rfl⟩ := List.mem_iff_getElem.1 hy
    rw [List.length_take] at hj
    have := h2 j (by omega)
    rw [List.getElem_take]
    simpa using this
theorem front_mid {A B L1 L2 : List It} {x : It} {h : Int} (e : A ++ B = L1 ++ x :: L2) (hA : ∀ x ∈ A, x.by_ = h) (hB : ∀ x ∈ B, x.by_ = 0) (hp : A ≠ [] → 1 ≤ h) (hx : x.by_ = 0) : ∀ y ∈ L2, y.by_ = 0 := by
  rcases List.append_eq_append_iff.1 e with ⟨a', h1, h2⟩ | ⟨c', h1, h2⟩
  · intro y hy
    exact hB y (by rw [h2]; simp [hy])
  · cases c' with
    | nil =>
      intro y hy
      refine hB y ?_
      have h3 : B = x :: L2 := by simpa using h2.symm
      rw [h3]; simp [hy]
    | cons z zs =>
      exfalso
      have h3 : x = z := by
        have := congrArg List.head? h2
        simpa using this
      have hm : x ∈ A := by rw [h1, h3]; simp
      have := hA x hm
      have := hp (List.ne_nil_of_mem hm)
      omega
theorem filt_zero {m : Int} (hm : m ≠ 0) {L : List It} (h : ∀ x ∈ L, x.by_ = 0) : heldI m L = [] := List.filter_eq_nil_iff.2 (fun x hx => by rw [h x hx]; simpa using Ne.symm hm)
theorem filt_all {n : Int} {L : List It} (h : ∀ x ∈ L, x.by_ = n) : heldI n L = L := List.filter_eq_self.2 (fun x hx => by simpa using h x hx)
theorem filt_other {m n : Int} (hm : m ≠ n) {L : List It} (h : ∀ x ∈ L, x.by_ = n) : heldI m L = [] := List.filter_eq_nil_iff.2 (fun x hx => by rw [h x hx]; simpa using Ne.symm hm)
theorem heldI_append (m : Int) (a b : List It) : heldI m (a ++ b) = heldI m a ++ heldI m b := List.filter_append ..
theorem heldI_cons (m : Int) (a : It) (b : List It) : heldI m (a :: b) = (if a.by_ = m then [a] else []) ++ heldI m b := by
  unfold heldI
  rw [List.filter_cons]
  by_cases h : a.by_ = m
  · rw [if_pos (by simpa using h), if_pos h]; rfl
  · rw [if_neg (by simpa using h), if_neg h]; rfl
theorem QS.Ok.take {s : QS} (h : s.Ok) (n : Int) : (s.take n).2.Ok := by
  unfold QS.take
  by_cases h1 : s.fit n = 0
  · rw [if_neg (by simp [h1])]
    cases hi : s.its.findIdx? (fun x => x.by_ != n) with
    | none => exact h
    | some i =>
      simp only
      obtain ⟨L1, x, L2, e, hl, hL1, hxn, hxd⟩ := take_split hi
      rw [hxd]
      by_cases h2 : x.by_ = 0
      · rw [if_neg (by simpa using h2)]
        obtain ⟨hn, hp⟩ := fit_pos h1
        obtain ⟨A, B, hh, e2, hA, hB, hpos⟩ := h.front
        have hL2 := front_mid (e2.symm.trans e) hA hB hpos h2
        have hset : s.its.set i ⟨x.num, x.val, n⟩ = L1 ++ ⟨x.num, x.val, n⟩ :: L2 := by
          rw [e, List.set_append_right _ _ (by omega), hl, Nat.sub_self]
          rfl
        have hpw : putsW (noteW n ⟨4, x.num, x.val⟩ s.ws) = putsW s.ws + 0 := putsW_noteW (n := n) (c := ⟨4, x.num, x.val⟩) h.keys
        have hlen : (s.its.set i ⟨x.num, x.val, n⟩).length = s.its.length := by simp
        refine ⟨noteW_keys h.keys, fun x hx => ?_, fun x hx => ?_, fun y hx => ?_, ?_, ?_, ?_, ?_, fun m hm => ?_, fun j y hy => ?_⟩
        · rcases noteW_mem hx with q | rfl
          · exact h.pos x q
          · exact hn
        · rcases noteW_mem hx with q | rfl
          · exact h.ne x q
          · exact prepd_list
        · rcases noteW_mem hx with q | rfl
          · exact h.ch y q
          · intro c hc
            rcases List.mem_append.1 hc with hc | hc
            · obtain ⟨y, hy, hcy⟩ := listOfW_mem hc
              exact h.ch y hy c hcy
            · obtain rfl := List.mem_singleton.1 hc
              exact .inr rfl
        · have := h.sz
          show (s.its.set i ⟨x.num, x.val, n⟩).length + putsW (noteW n ⟨4, x.num, x.val⟩ s.ws) ≤ 16
          omega
        · have := h.g0
          show ((s.its.set i ⟨x.num, x.val, n⟩).length : Int) ≤ s.gv
          omega
        · have := h.g1
          show s.gv + 1 + putsW (noteW n ⟨4, x.num, x.val⟩ s.ws) ≤ _
          omega
        · refine ⟨L1 ++ [⟨x.num, x.val, n⟩], L2, n, ?_, fun y hy => ?_, hL2, fun _ => hn⟩
          · show s.its.set i ⟨x.num, x.val, n⟩ = _
            rw [hset]; simp
          · rcases List.mem_append.1 hy with q | q
            · exact hL1 y q
            · obtain rfl := List.mem_singleton.1 q; rfl
        · show (heldI m (s.its.set i ⟨x.num, x.val, n⟩)).map chOf = takesOf (listOfW m (noteW n ⟨4, x.num, x.val⟩ s.ws))
          have hold := h.held m hm
          rw [e, heldI_append, heldI_cons, filt_zero hm hL2, List.append_nil, if_neg (by omega : ¬ x.by_ = m), List.append_nil] at hold
          rw [hset, listOfW_noteW h.keys, heldI_append, heldI_cons, filt_zero hm hL2, List.append_nil]
          by_cases q : m = n
          · rw [if_pos q.symm, if_pos q, takesOf_append, ← q, ← hold, List.map_append]
            rfl
          · rw [if_neg (by exact fun e => q e.symm), if_neg q, List.append_nil]
            exact hold
        · show y.num = s.gv - (s.its.set i ⟨x.num, x.val, n⟩).length + 1 + j
          rw [hlen]
          have hy' : (s.its.set i ⟨x.num, x.val, n⟩)[j]? = some y := hy
          by_cases q : j = i
          · subst q
            have hx := h.num j x (by rw [e, List.getElem?_append_right (by omega), hl, Nat.sub_self]; rfl)
            rw [hset, List.getElem?_append_right (by omega), hl, Nat.sub_self] at hy'
            simp only [List.getElem?_cons_zero, Option.some.injEq] at hy'
            rw [← hy']
            exact hx
          · rw [List.getElem?_set_ne (Ne.symm q)] at hy'
            exact h.num j y hy'
      · rw [if_pos (by simpa using h2)]; exact h
  · rw [if_pos h1]; exact h
theorem QS.Ok.prepare {s : QS} (h : s.Ok) (n : Int) : (s.prepare n).2.Ok := by
  unfold QS.prepare
  by_cases h1 : s.fit n = 0
  · rw [if_neg (by simp [h1])]
    cases hg : aget n s.ws with
    | none => exact h
    | some v =>
      simp only
      obtain ⟨X, Y, hw, hX, hY, hp, _⟩ := aget_split h.keys hg
      have hpw : putsW (aput n ⟨v.l, true⟩ s.ws) = putsW s.ws := by
        rw [hp, hw, putsW_append, putsW_append]; rfl
      have hmem : ∀ x ∈ aput n ⟨v.l, true⟩ s.ws, ∃ y ∈ s.ws, y.1 = x.1 ∧ y.2.l = x.2.l := fun x hx => by
        rcases mem_aput hx with q | q
        · exact ⟨(n, v), aget_mem hg, by rw [q], by rw [q]⟩
        · exact ⟨x, q.1, rfl, rfl⟩
      refine ⟨aput_keys h.keys, fun x hx => ?_, fun x hx => ?_, fun x hx => ?_, ?_, h.g0, ?_, h.front, fun m hm => ?_, h.num⟩
      · obtain ⟨y, hy, e1, e2⟩ := hmem x hx; rw [← e1]; exact h.pos y hy
      · obtain ⟨y, hy, e1, e2⟩ := hmem x hx; rw [← e2]; exact h.ne y hy
      · obtain ⟨y, hy, e1, e2⟩ := hmem x hx; rw [← e2]; exact h.ch y hy
      · show s.its.length + putsW (aput n ⟨v.l, true⟩ s.ws) ≤ 16
        rw [hpw]; exact h.sz
      · show s.gv + 1 + putsW (aput n ⟨v.l, true⟩ s.ws) ≤ _
        rw [hpw]; exact h.g1
      · show (heldI m s.its).map chOf = takesOf (listOfW m (aput n ⟨v.l, true⟩ s.ws))
        rw [h.held m hm]
        unfold listOfW
        rw [aget_aput h.keys]
        by_cases q : m = n
        · rw [if_pos q, q, hg]; rfl
        · rw [if_neg q]
  · rw [if_pos h1]; exact h
theorem listOfW_adel {m n : Int} {ws : List (Int × KW)} : listOfW m (adel n ws) = if m = n then [] else listOfW m ws := by
  conv => lhs; unfold listOfW
  rw [aget_adel]
  by_cases h : m = n
  · rw [if_pos h, if_pos h]; rfl
  · rw [if_neg h, if_neg h]; rfl
theorem putsW_adel {n : Int} {ws : List (Int × KW)} (hk : ws.Pairwise (fun x y => x.1 ≠ y.1)) : putsW (adel n ws) + putsL (listOfW n ws) = putsW ws := by
  unfold listOfW
  cases hg : aget n ws with
  | none => rw [adel_none hg]; simp [putsL]
  | some v =>
    obtain ⟨X, Y, hw, _, _, _, hd⟩ := aget_split hk hg
    rw [hd, hw, putsW_append, putsW_append]
    simp only [putsW, Option.map_some, Option.getD_some]
    omega
theorem adel_mem {n : Int} {ws : List (Int × KW)} {x : Int × KW} (h : x ∈ adel n ws) : x ∈ ws ∧ x.1 ≠ n := by
  unfold adel at h
  simpa using List.mem_filter.1 h
theorem QS.Ok.backout {s : QS} (h : s.Ok) (n : Int) : (s.backout n).2.Ok := by
  unfold QS.backout
  by_cases h1 : n < 1
  · rw [if_pos h1]; exact h
  · rw [if_neg h1]
    have hpw := putsW_adel (n := n) h.keys
    obtain ⟨A, B, hh, e, hA, hB, hp⟩ := h.front
    have hfz : ∀ x : It, x.by_ ≠ n → freeI n x = x := fun x hx => by unfold freeI; rw [if_neg (by simpa using hx)]
    have hB' : B.map (freeI n) = B := by
      conv => rhs; rw [← List.map_id B]
      exact List.map_congr_left (fun x hx => by rw [hfz x (by rw [hB x hx]; omega)]; rfl)
    refine ⟨h.keys.filter _, fun x hx => h.pos x (adel_mem hx).1, fun x hx => h.ne x (adel_mem hx).1, fun x hx => h.ch x (adel_mem hx).1, ?_, ?_, ?_, ?_, fun m hm => ?_, fun i x hx => ?_⟩
    · show (s.its.map (freeI n)).length + putsW (adel n s.ws) ≤ 16
      rw [List.length_map]; have := h.sz; omega
    · show ((s.its.map (freeI n)).length : Int) ≤ s.gv
      rw [List.length_map]; exact h.g0
    · show s.gv + 1 + putsW (adel n s.ws) ≤ _
      have := h.g1; omega
    · show ∃ A B h, s.its.map (freeI n) = A ++ B ∧ _
      rw [e, List.map_append, hB']
      by_cases q : hh = n
      · refine ⟨[], A.map (freeI n) ++ B, 0, rfl, by simp, fun x hx => ?_, by simp⟩
        rcases List.mem_append.1 hx with hx | hx
        · obtain ⟨y, hy, rfl⟩ := List.mem_map.1 hx
          unfold freeI
          rw [if_pos (by rw [hA y hy]; simpa using q)]
        · exact hB x hx
      · have hA' : A.map (freeI n) = A := by
          conv => rhs; rw [← List.map_id A]
          exact List.map_congr_left (fun x hx => by rw [hfz x (by rw [hA x hx]; exact q)]; rfl)
        rw [hA']
        exact ⟨A, B, hh, rfl, hA, hB, hp⟩
    · show (heldI m (s.its.map (freeI n))).map chOf = takesOf (listOfW m (adel n s.ws))
      rw [listOfW_adel]
      by_cases q : m = n
      · rw [if_pos q]
        have : heldI m (s.its.map (freeI n)) = [] := List.filter_eq_nil_iff.2 (fun x hx => by
          obtain ⟨y, hy, rfl⟩ := List.mem_map.1 hx
          unfold freeI
          by_cases hy2 : y.by_ = n
          · rw [if_pos (by simpa using hy2)]; simpa using Ne.symm hm
          · rw [if_neg (by simpa using hy2)]; simpa [q] using hy2)
        rw [this]; rfl
      · rw [if_neg q, ← h.held m hm]
        congr 1
        unfold heldI
        have : ∀ L : List It, (L.map (freeI n)).filter (fun x => x.by_ == m) = L.filter (fun x => x.by_ == m) := fun L => by
          induction L with
          | nil => rfl
          | cons x L ih =>
            rw [List.map_cons, List.filter_cons, List.filter_cons, ih]
            by_cases hx : x.by_ = n
            · have h2 : freeI n x = ⟨x.num, x.val, 0⟩ := by unfold freeI; rw [if_pos (by simpa using hx)]
              rw [h2, if_neg (by simpa using Ne.symm hm), if_neg (by rw [hx]; simpa using Ne.symm q)]
            · rw [hfz x hx]
        exact this _
    · show x.num = s.gv - (s.its.map (freeI n)).length + 1 + i
      rw [List.length_map]
      have hx' : (s.its.map (freeI n))[i]? = some x := hx
      rw [List.getElem?_map] at hx'
      cases hy : s.its[i]? with
      | none => rw [hy] at hx'; simp at hx'
      | some y =>
        rw [hy] at hx'
        simp only [Option.map_some, Option.some.injEq] at hx'
        rw [← h.num i y hy, ← hx']
        unfold freeI
        split <;> rfl
theorem newI_num (l : List Ch) : ∀ (g : Int) (i : Nat) (x : It), (newI l g)[i]? = some x → x.num = g + 1 + i ∧ x.by_ = 0 := by
  induction l with
  | nil => intro g i x h; simp [newI] at h
  | cons c l ih =>
    intro g i x h
    rw [newI] at h
    split at h
    · cases i with
      | zero => simp at h; rw [← h]; exact ⟨by simp, rfl⟩
      | succ i =>
        rw [List.getElem?_cons_succ] at h
        have := ih _ i x h
        exact ⟨by have := this.1; push_cast; omega, this.2⟩
    · exact ih _ i x h
theorem newI_by {l : List Ch} {g : Int} {x : It} (h : x ∈ newI l g) : x.by_ = 0 := by
  obtain ⟨i, hi, rfl⟩ := List.mem_iff_getElem.1 h
  exact (newI_num l g i _ (List.getElem?_eq_getElem hi)).2
theorem kept_front {A B : List It} {h n : Int} (hn : 1 ≤ n) (hA : ∀ x ∈ A, x.by_ = h) (hB : ∀ x ∈ B, x.by_ = 0) : keptI n (A ++ B) = if h = n then B else A ++ B := by
  unfold keptI
  rw [List.filter_append]
  have h2 : B.filter (fun x => !(x.by_ == n)) = B := List.filter_eq_self.2 (fun x hx => by rw [hB x hx]; simp; omega)
  rw [h2]
  by_cases q : h = n
  · rw [if_pos q, List.filter_eq_nil_iff.2 (fun x hx => by rw [hA x hx]; simpa using q)]; rfl
  · rw [if_neg q, List.filter_eq_self.2 (fun x hx => by rw [hA x hx]; simpa using q)]
theorem QS.Ok.commit {s : QS} (h : s.Ok) (n : Int) : (s.commit n).2.Ok := by
  unfold QS.commit
  by_cases h1 : n < 1
  · rw [if_pos h1]; exact h
  · rw [if_neg h1]
    have hpw := putsW_adel (n := n) h.keys
    have hnl := newI_len (listOfW n s.ws) s.gv
    obtain ⟨A, B, hh, e, hA, hB, hp⟩ := h.front
    obtain ⟨A', B', hk, hA', hB', hp', he, hsub⟩ : ∃ A' B', keptI n s.its = A' ++ B' ∧ (∀ x ∈ A', x.by_ = hh) ∧ (∀ x ∈ B', x.by_ = 0) ∧ (A' ≠ [] → 1 ≤ hh) ∧ (∀ x ∈ A', x.by_ ≠ n) ∧ ∃ Z, s.its = Z ++ (A' ++ B') := by
      rw [e, kept_front (by omega) hA hB]
      by_cases q : hh = n
      · rw [if_pos q]; exact ⟨[], B, rfl, by simp, hB, by simp, by simp, A, rfl⟩
      · rw [if_neg q]; exact ⟨A, B, rfl, hA, hB, hp, fun x hx => by rw [hA x hx]; exact q, [], rfl⟩
    have hN : ∀ x ∈ newI (listOfW n s.ws) s.gv, x.by_ = 0 := fun x hx => newI_by hx
    obtain ⟨Z, hZ⟩ := hsub
    have hlen : s.its.length = Z.length + (keptI n s.its).length := by rw [hk]; rw [hZ]; simp
    have h2 := h.sz
    have h3 := h.g0
    have h4 := h.g1
    refine ⟨h.keys.filter _, fun x hx => h.pos x (adel_mem hx).1, fun x hx => h.ne x (adel_mem hx).1, fun x hx => h.ch x (adel_mem hx).1, ?_, ?_, ?_, ?_, fun m hm => ?_, fun i x hx => ?_⟩
    · show (keptI n s.its ++ newI (listOfW n s.ws) s.gv).length + putsW (adel n s.ws) ≤ 16
      rw [List.length_append]; omega
    · show ((keptI n s.its ++ newI (listOfW n s.ws) s.gv).length : Int) ≤ s.gv + putsL (listOfW n s.ws)
      rw [List.length_append]; omega
    · show s.gv + putsL (listOfW n s.ws) + 1 + putsW (adel n s.ws) ≤ _
      omega
    · refine ⟨A', B' ++ newI (listOfW n s.ws) s.gv, hh, ?_, hA', fun x hx => ?_, hp'⟩
      · show keptI n s.its ++ _ = _
        rw [hk, List.append_assoc]
      · rcases List.mem_append.1 hx with q | q
        · exact hB' x q
        · exact hN x q
    · show (heldI m (keptI n s.its ++ newI (listOfW n s.ws) s.gv)).map chOf = takesOf (listOfW m (adel n s.ws))
      rw [listOfW_adel, heldI_append, filt_zero hm hN, List.append_nil]
      by_cases q : m = n
      · rw [if_pos q]
        have : heldI m (keptI n s.its) = [] := List.filter_eq_nil_iff.2 (fun x hx => by
          have := (List.mem_filter.1 hx).2
          rw [q]; simpa using this)
        rw [this]; rfl
      · rw [if_neg q, ← h.held m hm]
        congr 1
        unfold heldI keptI
        rw [List.filter_filter]
        apply List.filter_congr
        intro x _
        by_cases hx : x.by_ = m
        · have : x.by_ ≠ n := by omega
          simp [hx, q]
        · simp [hx]
    · show x.num = s.gv + putsL (listOfW n s.ws) - (keptI n s.its ++ newI (listOfW n s.ws) s.gv).length + 1 + i
      rw [List.length_append, hnl]
      have hx' : (keptI n s.its ++ newI (listOfW n s.ws) s.gv)[i]? = some x := hx
      by_cases q : i < (keptI n s.its).length
      · rw [List.getElem?_append_left q] at hx'
        have h5 := h.num (Z.length + i) x (by
          rw [hZ, ← hk, List.getElem?_append_right (by omega), Nat.add_sub_cancel_left]
          exact hx')
        rw [h5]
        push_cast
        omega
      · rw [List.getElem?_append_right (by omega)] at hx'
        have h5 := (newI_num _ _ _ _ hx').1
        rw [h5]
        push_cast
        omega
end Go.Mine
namespace Go.Mine
set_option linter.unusedVariables false
set_option linter.unusedSimpArgs false
theorem front_takes {its : List It} : ∀ (l : List Ch) (f : Nat), f ≤ its.length → frontOk its l f = true → (∀ c ∈ l, (c.kind = 3 ∧ c.key = 0) ∨ c.kind = 4) ∧ takesOf l = ((its.drop f).take (takesL l)).map chOf ∧ f + takesL l ≤ its.length ∧ ∀ x ∈ (its.drop f).take (takesL l), x.by_ = 0
  | [], f, hf, _ => ⟨by simp, by simp [takesOf, takesL], by simpa [takesL] using hf, by simp [takesL]⟩
  | c :: l, f, hf, h => by
    rw [frontOk] at h
    by_cases h1 : (c.kind == 3 && c.key == 0) = true
    · rw [if_pos h1] at h
      obtain ⟨a1, a2, a3, a4⟩ := front_takes l f hf h
      rw [Bool.and_eq_true] at h1
      have k3 : c.kind = 3 := by simpa using h1.1
      have k0 : c.key = 0 := by simpa using h1.2
      have hn : (c.kind == 4) = false := by rw [k3]; rfl
      have e1 : takesL (c :: l) = takesL l := by simp [takesL, hn]
      have e2 : takesOf (c :: l) = takesOf l := by simp [takesOf, List.filter_cons, hn]
      rw [e1, e2]
      refine ⟨fun x hx => ?_, a2, a3, a4⟩
      rcases List.mem_cons.1 hx with rfl | hx
      · exact .inl ⟨k3, k0⟩
      · exact a1 x hx
    · rw [if_neg h1] at h
      by_cases h2 : c.kind = 4 ∧ its[f]? = some ⟨c.key, c.val, 0⟩
      · rw [if_pos h2] at h
        have hfl := (List.getElem?_eq_some_iff.1 h2.2).1
        have hfe := (List.getElem?_eq_some_iff.1 h2.2).2
        obtain ⟨a1, a2, a3, a4⟩ := front_takes l (f + 1) hfl h
        have hy : (c.kind == 4) = true := by rw [h2.1]; rfl
        have e1 : takesL (c :: l) = takesL l + 1 := by simp [takesL, hy]; omega
        have e2 : takesOf (c :: l) = c :: takesOf l := by simp [takesOf, List.filter_cons, hy]
        have e3 : (its.drop f).take (takesL l + 1) = ⟨c.key, c.val, 0⟩ :: (its.drop (f + 1)).take (takesL l) := by rw [List.drop_eq_getElem_cons hfl, List.take_succ_cons, hfe]
        have e4 : c = chOf ⟨c.key, c.val, 0⟩ := by obtain ⟨a, b, d⟩ := c; simp only at h2; simp [chOf, h2.1]
        rw [e1, e2, e3, List.map_cons, ← e4, a2]
        refine ⟨fun x hx => ?_, rfl, by omega, fun x hx => ?_⟩
        · rcases List.mem_cons.1 hx with rfl | hx
          · exact .inr h2.1
          · exact a1 x hx
        · rcases List.mem_cons.1 hx with rfl | hx
          · rfl
          · exact a4 x hx
      · rw [if_neg h2] at h; cases h
theorem listOfW_free {n : Int} {ws : List (Int × KW)} (h : aget n ws = none) : listOfW n ws = [] := by unfold listOfW; rw [h]; rfl
theorem busy_iff {s : QS} {n : Int} : s.busy n = false ↔ aget n s.ws = none := by
  unfold QS.busy
  cases aget n s.ws <;> simp
theorem listOfW_addW {m n : Int} {p : Bool} {l : List Ch} {ws : List (Int × KW)} (h : aget n ws = none) : listOfW m (addW n p l ws) = if m = n then l else listOfW m ws := by
  unfold addW
  by_cases hl : l = []
  · rw [if_pos hl]
    by_cases q : m = n
    · rw [if_pos q, q, listOfW_free h, hl]
    · rw [if_neg q]
  · rw [if_neg hl]
    unfold listOfW
    rw [aget_snoc h]
    by_cases q : m = n
    · rw [if_pos q, if_pos q]; rfl
    · rw [if_neg q, if_neg q]
theorem putsW_addW {n : Int} {p : Bool} {l : List Ch} {ws : List (Int × KW)} : putsW (addW n p l ws) = putsW ws + putsL l := by
  unfold addW
  by_cases hl : l = []
  · rw [if_pos hl, hl]; rfl
  · rw [if_neg hl, putsW_append]; simp [putsW]
theorem room_nonneg {s : QS} (h : s.Ok) : 0 ≤ s.room := by
  have := h.sz
  have := h.g1
  unfold QS.room
  omega
theorem QS.Ok.restore {s : QS} (h : s.Ok) (n : Int) (l : List Ch) : (s.restore n l).2.Ok := by
  unfold QS.restore
  by_cases h1 : n < 1
  · rw [if_pos h1]; exact h
  · rw [if_neg h1]
    by_cases h2 : s.right l = false
    · rw [if_pos h2]; exact h
    · rw [if_neg h2]
      by_cases h3 : s.busy n = true
      · rw [if_pos h3]; exact h
      · rw [if_neg h3]
        have hr : s.right l = true := by simpa using h2
        have hg : aget n s.ws = none := busy_iff.1 (by simpa using h3)
        have hfr := QS.right_front hr
        have hpl : (putsL l : Int) ≤ max s.room 0 := by
          unfold QS.right at hr
          rw [Bool.and_eq_true] at hr
          simpa using hr.2
        have hrn := room_nonneg h
        have hroom : s.room = min (16 - (s.its.length : Int) - putsW s.ws) (4611686018427387904 - (s.gv + 1) - putsW s.ws) := rfl
        obtain ⟨a1, a2, a3, a4⟩ := front_takes l 0 (Nat.zero_le _) hfr
        rw [List.drop_zero] at a2 a4
        have hml := mixI_len (tkI n) s.its (takesL l)
        have hpw : putsW (addW n true l s.ws) = putsW s.ws + putsL l := putsW_addW
        have hmem : ∀ x ∈ addW n true l s.ws, x ∈ s.ws ∨ (x = (n, ⟨l, true⟩) ∧ l ≠ []) := fun x hx => by
          unfold addW at hx
          by_cases hl : l = []
          · rw [if_pos hl] at hx; exact .inl hx
          · rw [if_neg hl] at hx
            rcases List.mem_append.1 hx with q | q
            · exact .inl q
            · exact .inr ⟨List.mem_singleton.1 q, hl⟩
        have hsz := h.sz
        have hg0 := h.g0
        have hg1 := h.g1
        obtain ⟨A, B, hh, e, hA, hB, hp⟩ := h.front
        have hdrop : takesL l ≠ 0 → ∀ x ∈ s.its, x.by_ = 0 := fun ht => by
          have hA0 : A = [] := by
            cases A with
            | nil => rfl
            | cons a A =>
              exfalso
              have h5 := a4 a (by
                rw [e]
                obtain ⟨t, ht'⟩ := Nat.exists_eq_succ_of_ne_zero ht
                rw [ht', List.cons_append, List.take_succ_cons]; simp)
              have h6 := hA a (by simp)
              have h7 := hp (by simp)
              omega
          rw [e, hA0]; exact hB
        refine ⟨?_, fun x hx => ?_, fun x hx => ?_, fun x hx => ?_, ?_, ?_, ?_, ?_, fun m hm => ?_, fun i x hx => ?_⟩
        · show (addW n true l s.ws).Pairwise _
          unfold addW
          by_cases hl : l = []
          · rw [if_pos hl]; exact h.keys
          · rw [if_neg hl]; exact pw_snoc h.keys (fun x hx => aget_none.1 hg x hx)
        · rcases hmem x hx with q | ⟨rfl, _⟩
          · exact h.pos x q
          · show 1 ≤ n; omega
        · rcases hmem x hx with q | ⟨rfl, q⟩
          · exact h.ne x q
          · exact q
        · rcases hmem x hx with q | ⟨rfl, q⟩
          · exact h.ch x q
          · exact a1
        · show (mixI (tkI n) s.its (takesL l)).length + putsW (addW n true l s.ws) ≤ 16
          omega
        · show ((mixI (tkI n) s.its (takesL l)).length : Int) ≤ s.gv
          omega
        · show s.gv + 1 + putsW (addW n true l s.ws) ≤ _
          omega
        · by_cases ht : takesL l = 0
          · refine ⟨A, B, hh, ?_, hA, hB, hp⟩
            show mixI (tkI n) s.its (takesL l) = _
            rw [ht, ← e]; simp [mixI]
          · refine ⟨(s.its.take (takesL l)).map (tkI n), s.its.drop (takesL l), n, rfl, fun x hx => ?_, fun x hx => hdrop ht x (List.mem_of_mem_drop hx), fun _ => by omega⟩
            obtain ⟨y, hy, rfl⟩ := List.mem_map.1 hx
            rfl
        · show (heldI m (mixI (tkI n) s.its (takesL l))).map chOf = takesOf (listOfW m (addW n true l s.ws))
          rw [listOfW_addW hg]
          by_cases ht : takesL l = 0
          · have h0 : mixI (tkI n) s.its (takesL l) = s.its := by rw [ht]; simp [mixI]
            rw [h0, h.held m hm]
            by_cases q : m = n
            · rw [if_pos q, q, listOfW_free hg]
              exact (List.eq_nil_of_length_eq_zero (by rw [takesOf_len]; exact ht)).symm
            · rw [if_neg q]
          · have hz := hdrop ht
            have hold := h.held m hm
            rw [filt_zero hm hz] at hold
            unfold mixI
            rw [heldI_append, filt_zero hm (fun x hx => hz x (List.mem_of_mem_drop hx)), List.append_nil]
            have hall : ∀ x ∈ (s.its.take (takesL l)).map (tkI n), x.by_ = n := fun x hx => by
              obtain ⟨y, hy, rfl⟩ := List.mem_map.1 hx
              rfl
            by_cases q : m = n
            · rw [if_pos q, q, filt_all hall, a2, List.map_map]
              rfl
            · rw [if_neg q, filt_other q hall]
              exact hold
        · show x.num = s.gv - (mixI (tkI n) s.its (takesL l)).length + 1 + i
          rw [hml]
          have hx' : (mixI (tkI n) s.its (takesL l))[i]? = some x := hx
          have hi : i < s.its.length := by rw [← hml]; exact (List.getElem?_eq_some_iff.1 hx').1
          have hy : s.its[i]? = some s.its[i] := List.getElem?_eq_getElem hi
          have hnum : x.num = (s.its[i]).num := by
            unfold mixI at hx'
            by_cases q : i < takesL l
            · rw [List.getElem?_append_left (by simp; omega), List.getElem?_map, List.getElem?_take_of_lt q, hy] at hx'
              simp only [Option.map_some, Option.some.injEq] at hx'
              rw [← hx']; rfl
            · rw [List.getElem?_append_right (by simp; omega), List.getElem?_drop] at hx'
              have e5 : takesL l + (i - ((s.its.take (takesL l)).map (tkI n)).length) = i := by simp; omega
              rw [e5, hy] at hx'
              simp only [Option.some.injEq] at hx'
              rw [hx']
          rw [hnum]
          exact h.num i _ hy
theorem QS.Ok.load {s : QS} (h : s.Ok) (vals : List Int) (next : Int) : (s.load vals next).2.Ok := by
  unfold QS.load
  by_cases h1 : 0 < s.its.length + s.ws.length
  · rw [if_pos h1]; exact h
  · rw [if_neg h1]
    by_cases h2 : 16 < vals.length ∨ next ≤ vals.length ∨ 4611686018427387904 < next
    · rw [if_pos h2]; exact h
    · rw [if_neg h2]
      have hw : s.ws = [] := List.eq_nil_of_length_eq_zero (by omega)
      have hl := loadI_len vals next
      rw [hw]
      have hget : ∀ (i : Nat) (x : It), (loadI vals next)[i]? = some x → x.num = next - vals.length + i ∧ x.by_ = 0 := fun i x hx => by
        unfold loadI at hx
        rw [List.getElem?_map] at hx
        obtain ⟨y, hy, rfl⟩ := Option.map_eq_some_iff.1 hx
        have hy2 := (List.getElem?_eq_some_iff.1 hy)
        obtain ⟨hy3, hy4⟩ := hy2
        rw [List.getElem_range] at hy4
        subst hy4
        exact ⟨rfl, rfl⟩
      have hz : ∀ x ∈ loadI vals next, x.by_ = 0 := fun x hx => by
        obtain ⟨i, hi, rfl⟩ := List.mem_iff_getElem.1 hx
        exact (hget i _ (List.getElem?_eq_getElem hi)).2
      refine ⟨List.Pairwise.nil, by simp, by simp, by simp, ?_, ?_, ?_, ⟨[], loadI vals next, 0, rfl, by simp, hz, by simp⟩, fun m hm => ?_, fun i x hx => ?_⟩
      · show (loadI vals next).length + 0 ≤ 16; omega
      · show ((loadI vals next).length : Int) ≤ next - 1; omega
      · show next - 1 + 1 + (0 : Nat) ≤ _; omega
      · show (heldI m (loadI vals next)).map chOf = []
        rw [filt_zero hm hz]; rfl
      · show x.num = next - 1 - (loadI vals next).length + 1 + i
        rw [hl, (hget i x hx).1]; omega
end Go.Mine
namespace Go.Proofs.YtdejbinmnoabeaaGreat
structure Z3 where
  a : Value
  b : Value
  c : Value
end Go.Proofs.YtdejbinmnoabeaaGreat
namespace Go.Mine
set_option linter.unusedVariables false
set_option linter.unusedSimpArgs false
abbrev Lk := (Int × Int) × Bool
def placeN (A : LTab) (o k : Int) : Option Nat := A.findIdx? (fun e => e.1.1 == k && e.1.2 == o)
def placeA (A : LTab) (o k : Int) : Int := match placeN A o k with | some i => i | none => -1
def clashA (A : LTab) : Bool := A.any (fun x => A.any (fun y => x.1.1 == y.1.1 && x.1.2 != y.1.2 && x.2))
end Go.Mine
namespace Go.Proofs.YtdejbinmnoabeaaGreat.D
open Go.Proofs.YtdejbinmnoabeaaGreat.K
variable {Ze : Z3}
open Go.RowKit Go.Mine Go.Proofs.YtdejbinmnoabeaaGreatW.PrintWords
set_option linter.unusedVariables false
set_option linter.unusedSimpArgs false
theorem drewN_two (w : World) (a b : Nat) : (w.drewN a).drewN b = w.drewN (a + b) := by simp [World.drewN, Nat.add_comm, Nat.add_left_comm, Nat.add_assoc]
def encLk (x : Lk) : List Value := [.int .i64 x.1.1, .int .i64 x.1.2, .bool x.2]
def klk : Kd Lk where
  sz := 3
  E := []
  K := fun _ x cs => cs = encLk x
  M := fun _ _ _ x cs => cs = encLk x
  K_len := fun h => by rw [h]; rfl
  K_one := fun h u hu => by rw [h] at hu; simp [encLk] at hu; rcases hu with rfl | rfl | rfl <;> rfl
  K_below := fun _ h => h
  K_of_M := fun h => h
  M_mono := fun _ h => h
  M_bound := fun h => h
  M_move := fun _ h => h
  M_lower := fun _ h => h
abbrev LkRow (w : World) (v : Value) (l : LTab) : Prop := klk.R 167 w 0 (fun _ => True) v l
theorem LkRow.move {w w1 : World} {v : Value} {l : LTab} (h : LkRow w v l) (hm : ∀ k, v.ownBlock = some k → w1.heap[k]? = w.heap[k]?) : LkRow w1 v l := by
  obtain ⟨h0, inner, ho, hr⟩ := h
  exact ⟨h0, inner, own_move ho hm, hr⟩
theorem LkRow.lt {w : World} {v : Value} {l : LTab} (h : LkRow w v l) (k : Nat) (hk : v.ownBlock = some k) : k < w.heap.size := by
  obtain ⟨h0, inner, ho, hr⟩ := h
  obtain ⟨cells, hc⟩ := own_typed ho k hk
  exact (Array.getElem?_eq_some_iff.1 hc).1
theorem LkRow.ne {w : World} {v u : Value} {l : LTab} (h : LkRow w v l) {b : Nat} (hb : w.heap[b]? = some (.cells #[u] 30 (0, 0))) : v.ownBlock ≠ some b := by
  intro hk
  obtain ⟨h0, inner, ho, hr⟩ := h
  obtain ⟨cells, hc⟩ := own_typed ho b hk
  rw [hb] at hc
  simp at hc
def LkAt (w : World) (A : Option Addr) (l : LTab) : Prop :=
  ∀ i x, l[i]? = some x → ∃ b off, A = some ⟨b, off, none⟩ ∧ b < w.heap.size ∧ ∀ j v, (encLk x)[j]? = some v → w.cell? ⟨b, off + i * 3 + j, none⟩ = some v
theorem LkRow.at_ {w : World} {v : Value} {l : LTab} (h : LkRow w v l) : ∃ A c, v = .slice A l.length c ∧ l.length ≤ c ∧ LkAt w A l := by
  obtain ⟨h0, inner, ho, hr⟩ := h
  rcases ho.2 with ⟨hv, h0⟩ | ⟨g, cap, cur, hv, hg, hh, h1, h2, h3, h4⟩
  · have hl : l = [] := List.eq_nil_of_length_eq_zero h0
    subst hl
    exact ⟨none, 0, hv, Nat.le_refl _, fun i x hx => by simp at hx⟩
  · refine ⟨_, cap, hv, h1, fun i x hx => ⟨g, 0, rfl, (Array.getElem?_eq_some_iff.1 hh).1, fun j u hu => ?_⟩⟩
    have h5 : (inner.drop (i * 3)).take 3 = encLk x := hr.2 i x hx
    have hj : j < 3 := by have := (List.getElem?_eq_some_iff.1 hu).1; simpa [encLk] using this
    have h6 : inner[i * 3 + j]? = some u := by
      rw [← h5, List.getElem?_take_of_lt hj, List.getElem?_drop] at hu
      exact hu
    have := ho.cells (g := g) (by rw [hv]; simp [Value.ownBlock]) _ u h6
    rw [add_plain] at this
    rw [Nat.zero_add]
    exact this
def RT (w : World) (b1 : Nat) (v : Value) (A : LTab) : Prop := w.heap[b1]? = some (.cells #[v] 30 (0, 0)) ∧ LkRow w v A
theorem RT.lt {w : World} {b1 : Nat} {v : Value} {A : LTab} (h : RT w b1 v A) : b1 < w.heap.size := (Array.getElem?_eq_some_iff.1 h.1).1
theorem RT.cell {w : World} {b1 : Nat} {v : Value} {A : LTab} (h : RT w b1 v A) : w.cell? ⟨b1, 0, none⟩ = some v := by rw [cell_of_row w b1 0 _ _ _ h.1]; rfl
theorem RT.below {w w' : World} {b1 : Nat} {v : Value} {A : LTab} (h : RT w b1 v A) (hb : Below w.heap.size w w') : RT w' b1 v A :=
  ⟨(hb.block _ h.lt).trans h.1, h.2.move (fun k hk => hb.block _ (h.2.lt k hk))⟩
set_option maxRecDepth 100000 in
set_option maxHeartbeats 2000000 in
theorem place_any {w : World} {b1 : Nat} {v : Value} {A : LTab} (h : RT w b1 v A) (hn : A.length ≤ 1000000) (o k : Int) :
    Calls Tryz.prog 116 #[.pointer (some ⟨b1, 0, none⟩), .int .i64 o, .int .i64 k] w fun e w' => e = .returned (.int .i64 (placeA A o k)) ∧ w = w' := by
  have hc := h.cell
  obtain ⟨A', c, rfl, hAc, hat⟩ := h.2.at_
  have HAT := hid hat
  clear hat h
  go_enter Tryz.func116, Tryz.ntmps116
  go_wp2_with fail
  go_loopg [7] (A.length + 1) (fun m v wr => ∃ i : Nat, v = .int .i64 i ∧ i ≤ A.length ∧ m = A.length + 1 - i ∧ wr = w ∧ ∀ j x, j < i → A[j]? = some x → (x.1.1 == k && x.1.2 == o) = false)
  case atStart => exact ⟨0, rfl, Nat.zero_le _, rfl, rfl, fun j x hj => by omega⟩
  case round =>
    obtain ⟨i, rfl, hi, hm, hw, hno⟩ := hrel
    subst hw
    have HN := hid hm
    have HNO := hid hno
    clear hm hno
    by_cases h1 : i < A.length
    · obtain ⟨x, hx⟩ : ∃ x, A[i]? = some x := ⟨_, List.getElem?_eq_getElem h1⟩
      obtain ⟨b, off, rfl, hb, hcc⟩ := HAT.out i x hx
      have k0 : wr.cell? ⟨b, off + i * 3, none⟩ = some (.int .i64 x.1.1) := hcc 0 _ rfl
      have k1 := hcc 1 _ rfl
      have HX := hid hx
      clear hcc hx
      cases q1 : (x.1.1 == k)
      · go_wp2_with fail
        go_roundg (A.length + 1 - (i + 1))
        case measure => rw [HN.out]; omega
        case rel =>
          refine ⟨i + 1, by go_num, by omega, rfl, rfl, fun j y hj hy => ?_⟩
          rcases Nat.lt_succ_iff_lt_or_eq.1 hj with hj | rfl
          · exact HNO.out j y hj hy
          · rw [HX.out] at hy; cases hy; rw [q1]; rfl
      · cases q2 : (x.1.2 == o)
        · go_wp2_with fail
          go_roundg (A.length + 1 - (i + 1))
          case measure => rw [HN.out]; omega
          case rel =>
            refine ⟨i + 1, by go_num, by omega, rfl, rfl, fun j y hj hy => ?_⟩
            rcases Nat.lt_succ_iff_lt_or_eq.1 hj with hj | rfl
            · exact HNO.out j y hj hy
            · rw [HX.out] at hy; cases hy; rw [q1, q2]; rfl
        · have hp : placeA A o k = i := by
            have : placeN A o k = some i := by
              unfold placeN
              rw [List.findIdx?_eq_some_iff_getElem]
              obtain ⟨hi2, he⟩ := List.getElem?_eq_some_iff.1 HX.out
              refine ⟨hi2, by rw [he, q1, q2]; rfl, fun j hj => ?_⟩
              rw [HNO.out j _ hj (List.getElem?_eq_getElem (by omega))]
              decide
            unfold placeA
            rw [this]
          have HP := hid hp
          clear hp
          go_wp2_with fail
          go_ret
          exact ⟨by rw [HP.out]; rfl, rfl⟩
    · have hp : placeA A o k = -1 := by
        have : placeN A o k = none := by
          unfold placeN
          rw [List.findIdx?_eq_none_iff]
          intro x hx
          obtain ⟨j, hj, rfl⟩ := List.mem_iff_getElem.1 hx
          exact HNO.out j _ (by omega) (List.getElem?_eq_getElem hj)
        unfold placeA
        rw [this]
      have HP := hid hp
      clear hp
      go_wp2_with fail
      go_ret
      exact ⟨by rw [HP.out]; rfl, rfl⟩
set_option maxRecDepth 100000 in
set_option maxHeartbeats 2000000 in
theorem clash_ref {w : World} {b1 : Nat} {v : Value} {A : LTab} (h : RT w b1 v A) (hn : A.length ≤ 1000000) :
    Calls Tryz.prog 117 #[.pointer (some ⟨b1, 0, none⟩)] w fun e w' => e = .returned (.bool (clashA A)) ∧ ∃ q, w' = w.drewN q := by
  have hc := h.cell
  obtain ⟨A', c, rfl, hAc, hat⟩ := h.2.at_
  have HAT := hid hat
  clear hat h
  go_enter Tryz.func117, Tryz.ntmps117
  go_wp2_with fail
  go_loopg [3] (A.length + 1) (fun m v wr => ∃ i : Nat, v = .int .i64 i ∧ i ≤ A.length ∧ m = A.length + 1 - i ∧ (∃ q, wr = w.drewN q) ∧ ∀ j x, j < i → A[j]? = some x → A.any (fun y => x.1.1 == y.1.1 && x.1.2 != y.1.2 && x.2) = false)
  case atStart => exact ⟨0, rfl, Nat.zero_le _, rfl, ⟨0, rfl⟩, fun j x hj => by omega⟩
  case round =>
    obtain ⟨i, rfl, hi, hm, ⟨q, hq⟩, hno⟩ := hrel
    subst hq
    have HN := hid hm
    have HNO := hid hno
    clear hm hno
    by_cases h1 : i < A.length
    · obtain ⟨x, hx⟩ : ∃ x, A[i]? = some x := ⟨_, List.getElem?_eq_getElem h1⟩
      obtain ⟨b, off, rfl, hb, hcc⟩ := HAT.out i x hx
      have x0 : w.cell? ⟨b, off + i * 3, none⟩ = some (.int .i64 x.1.1) := hcc 0 _ rfl
      have x1 : w.cell? ⟨b, off + i * 3 + 1, none⟩ = some (.int .i64 x.1.2) := hcc 1 _ rfl
      have x2 : w.cell? ⟨b, off + i * 3 + 2, none⟩ = some (.bool x.2) := hcc 2 _ rfl
      have HX := hid hx
      clear hcc hx
      go_wp2_with fail
      go_loopg [4] (A.length + 1) (fun m v wq => ∃ j : Nat, v = .int .i64 j ∧ j ≤ A.length ∧ m = A.length + 1 - j ∧ (∃ q, wq = w.drewN q) ∧ ∀ k y, k < j → A[k]? = some y → (x.1.1 == y.1.1 && x.1.2 != y.1.2 && x.2) = false)
      case atStart => exact ⟨0, rfl, Nat.zero_le _, rfl, ⟨q, rfl⟩, fun j x hj => by omega⟩
      case round =>
        obtain ⟨j, rfl, hj, hm, ⟨q2, hq2⟩, hno2⟩ := hrel
        subst hq2
        have HM := hid hm
        have HNO2 := hid hno2
        clear hm hno2
        by_cases h2 : j < A.length
        · obtain ⟨y, hy⟩ : ∃ y, A[j]? = some y := ⟨_, List.getElem?_eq_getElem h2⟩
          obtain ⟨b', off', he, _, hcc⟩ := HAT.out j y hy
          cases he
          have y0 : w.cell? ⟨b, off + j * 3, none⟩ = some (.int .i64 y.1.1) := hcc 0 _ rfl
          have y1 : w.cell? ⟨b, off + j * 3 + 1, none⟩ = some (.int .i64 y.1.2) := hcc 1 _ rfl
          have HY := hid hy
          clear hcc hy
          cases q1 : (x.1.1 == y.1.1)
          · go_wp2_with fail
            go_quiet (fail)
            go_wp2_with fail
            go_roundg (A.length + 1 - (j + 1))
            case measure => rw [HM.out]; omega
            case rel =>
              refine ⟨j + 1, by go_num, by omega, rfl, ⟨_, rfl⟩, fun k z hk hz => ?_⟩
              rcases Nat.lt_succ_iff_lt_or_eq.1 hk with hk | rfl
              · exact HNO2.out k z hk hz
              · rw [HY.out] at hz; cases hz; simp [q1]
          · cases q2 : (x.1.2 != y.1.2)
            · go_wp2_with fail
              go_quiet (fail)
              go_wp2_with fail
              go_roundg (A.length + 1 - (j + 1))
              case measure => rw [HM.out]; omega
              case rel =>
                refine ⟨j + 1, by go_num, by omega, rfl, ⟨_, rfl⟩, fun k z hk hz => ?_⟩
                rcases Nat.lt_succ_iff_lt_or_eq.1 hk with hk | rfl
                · exact HNO2.out k z hk hz
                · rw [HY.out] at hz; cases hz; simp [q2]
            · cases q3 : x.2
              · go_wp2_with fail
                go_quiet (fail)
                go_wp2_with fail
                go_roundg (A.length + 1 - (j + 1))
                case measure => rw [HM.out]; omega
                case rel =>
                  refine ⟨j + 1, by go_num, by omega, rfl, ⟨_, rfl⟩, fun k z hk hz => ?_⟩
                  rcases Nat.lt_succ_iff_lt_or_eq.1 hk with hk | rfl
                  · exact HNO2.out k z hk hz
                  · rw [HY.out] at hz; cases hz; simp [q3]
              · have hcl : clashA A = true := by
                  unfold clashA
                  rw [List.any_eq_true]
                  refine ⟨x, List.mem_of_getElem? HX.out, ?_⟩
                  rw [List.any_eq_true]
                  exact ⟨y, List.mem_of_getElem? HY.out, by rw [q1, q2, q3]; rfl⟩
                have HCL := hid hcl
                clear hcl
                go_wp2_with fail
                go_quiet (fail)
                go_wp2_with fail
                go_ret
                exact ⟨by rw [HCL.out]; rfl, _, by first | rfl | exact drewN_two _ _ _⟩
        · have hji : j = A.length := by omega
          subst hji
          have hrow : A.any (fun y => x.1.1 == y.1.1 && x.1.2 != y.1.2 && x.2) = false := by
            rw [List.any_eq_false]
            intro y hy
            obtain ⟨k, hk, rfl⟩ := List.mem_iff_getElem.1 hy
            rw [HNO2.out k _ hk (List.getElem?_eq_getElem hk)]
            decide
          have HROW := hid hrow
          clear hrow
          go_wp2_with fail
          go_roundg (A.length + 1 - (i + 1))
          case measure => rw [HN.out]; omega
          case rel =>
            refine ⟨i + 1, by go_num, by omega, rfl, ⟨_, rfl⟩, fun k z hk hz => ?_⟩
            rcases Nat.lt_succ_iff_lt_or_eq.1 hk with hk | rfl
            · exact HNO.out k z hk hz
            · rw [HX.out] at hz; cases hz; exact HROW.out
    · have hcl : clashA A = false := by
        unfold clashA
        rw [List.any_eq_false]
        intro x hx
        obtain ⟨k, hk, rfl⟩ := List.mem_iff_getElem.1 hx
        rw [HNO.out k _ (by omega) (List.getElem?_eq_getElem hk)]
        decide
      have HCL := hid hcl
      clear hcl
      go_wp2_with fail
      go_ret
      exact ⟨by rw [HCL.out]; rfl, _, rfl⟩
theorem placeN_some {A : LTab} {o k : Int} {i : Nat} (h : placeN A o k = some i) : ∃ x, A[i]? = some x ∧ x.1 = (k, o) := by
  unfold placeN at h
  rw [List.findIdx?_eq_some_iff_getElem] at h
  obtain ⟨hi, h1, _⟩ := h
  refine ⟨A[i], List.getElem?_eq_getElem hi, ?_⟩
  simp only [Bool.and_eq_true, beq_iff_eq] at h1
  exact Prod.ext h1.1 h1.2
theorem placeN_get {A : LTab} (hA : A.Pairwise (fun x y => x.1 ≠ y.1)) {o k : Int} {i : Nat} {x : Lk} (h : placeN A o k = some i) (hx : A[i]? = some x) : aget (k, o) A = some x.2 := by
  obtain ⟨y, hy, hk⟩ := placeN_some h
  rw [hx] at hy
  cases hy
  refine aget_of_mem hA ?_
  have := List.mem_of_getElem? hx
  rw [← hk]
  exact this
theorem placeN_none {A : LTab} {o k : Int} (h : placeN A o k = none) : aget (k, o) A = none := by
  unfold placeN at h
  rw [List.findIdx?_eq_none_iff] at h
  rw [aget_none]
  intro e he q
  have := h e he
  rw [q] at this
  simp at this
end Go.Proofs.YtdejbinmnoabeaaGreat.D
