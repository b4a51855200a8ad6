/- The plain queue; walks of the queue's small functions: find, fit, decided, Next, Busy, puts, room. Conditions: the queue reads as QAt Zz says. -/
import Derived.Test.YtdejbinmnoabeaaQuF
namespace Go.Mine
set_option linter.unusedVariables false
set_option linter.unusedSimpArgs false
/-- A queue, plain: items, works, the last number. -/
structure QS where
  its : List It
  ws : List (Int × KW)
  gv : Int
deriving DecidableEq
def QS.new : QS := ⟨[], [], 0⟩
def prepd (n : Int) (ws : List (Int × KW)) : Bool := ((aget n ws).map (·.p)).getD false
def listOfW (n : Int) (ws : List (Int × KW)) : List Ch := ((aget n ws).map (·.l)).getD []
def QS.fit (s : QS) (n : Int) : Int := if n < 1 then 1 else if prepd n s.ws then 7 else 0
def putsL : List Ch → Nat
  | [] => 0
  | c :: cs => (if c.kind == 3 then 1 else 0) + putsL cs
def putsW : List (Int × KW) → Nat
  | [] => 0
  | x :: xs => putsL x.2.l + putsW xs
theorem putsL_append (a b : List Ch) : putsL (a ++ b) = putsL a + putsL b := by
  induction a with
  | nil => simp [putsL]
  | cons x a ih => simp only [List.cons_append, putsL, ih]; omega
theorem putsW_append (a b : List (Int × KW)) : putsW (a ++ b) = putsW a + putsW b := by
  induction a with
  | nil => simp [putsW]
  | cons x a ih => simp only [List.cons_append, putsW, ih]; omega
theorem putsL_le (l : List Ch) : putsL l ≤ l.length := by
  induction l with
  | nil => simp [putsL]
  | cons x l ih => simp only [putsL, List.length_cons]; split <;> omega
theorem putsW_mem {ws : List (Int × KW)} {x : Int × KW} (h : x ∈ ws) : putsL x.2.l ≤ putsW ws := by
  induction ws with
  | nil => exact absurd h List.not_mem_nil
  | cons y ws ih =>
    simp only [putsW]
    rcases List.mem_cons.1 h with rfl | h
    · omega
    · have := ih h; omega
def QS.room (s : QS) : Int := min (16 - (s.its.length : Int) - putsW s.ws) (4611686018427387904 - (s.gv + 1) - putsW s.ws)
def noteW (n : Int) (c : Ch) (ws : List (Int × KW)) : List (Int × KW) := match aget n ws with | some v => aput n ⟨v.l ++ [c], v.p⟩ ws | none => ws ++ [(n, ⟨[c], false⟩)]
def QS.busy (s : QS) (n : Int) : Bool := (aget n s.ws).isSome
/-- Bounds, for the walks. -/
structure QS.Bd (s : QS) : Prop where
  keys : s.ws.Pairwise (fun x y => x.1 ≠ y.1)
  its : s.its.length ≤ 100
  ws : s.ws.length ≤ 1000
  ls : ∀ x ∈ s.ws, x.2.l.length ≤ 1000
  pw : putsW s.ws ≤ 1000000
  g0 : 0 ≤ s.gv
  gt : s.gv ≤ 4611686018427387904
end Go.Mine
namespace Go.Proofs.Ytdejbinmnoabeaa.Q
variable {Zz : QZ}
open Go.RowKit Go.Mine Go.Proofs.YtdejbinmnoabeaaW.PrintWords
set_option linter.unusedVariables false
set_option linter.unusedSimpArgs false
/-- The program's queue at block b reads as s. -/
def QAt (Zz : QZ) (F : Nat → Prop) (w : World) (b : Nat) (s : QS) : Prop := ∃ I iv qv, QR Zz eIt T0 F w b s.its I s.gv iv qv ∧ s.ws = wsOf I
theorem QAt.fb {F : Nat → Prop} {w : World} {b : Nat} {s : QS} (h : QAt Zz F w b s) : ∀ i, F i → i < w.heap.size := by
  obtain ⟨I, iv, qv, h1, h2⟩ := h
  exact h1.fb
theorem QAt.fr {F S : Nat → Prop} {w w' : World} {b : Nat} {s : QS} (h : QAt Zz F w b s) (hf : Fr S w w') (hS : ∀ i, F i → ¬ S i) : QAt Zz F w' b s := by
  obtain ⟨I, iv, qv, h1, h2⟩ := h
  exact ⟨I, iv, qv, h1.fr hf hS, h2⟩
theorem QAt.below {F : Nat → Prop} {w w' : World} {b : Nat} {s : QS} (h : QAt Zz F w b s) (hb : Below w.heap.size w w') : QAt Zz F w' b s := h.fr (Fr.of_below hb (Nat.le_refl _)) (fun _ _ q => q)
/-- Where a work lies. -/
def findB (I : List WI) (n : Int) : Option Nat := (I.find? (fun x => decide (x.n = n))).map (·.wb)
abbrev ChAt (w : World) (B : Nat) (A : Option Addr) (l : List Ch) : Prop := RowAt encCh 3 w B A l
abbrev ChV (c : Ch) : Value := .agg #[.int .i64 c.kind, .int .i64 c.key, .int .u64 c.val]

set_option maxRecDepth 100000 in
set_option maxHeartbeats 2000000 in
theorem find_any {F : Nat → Prop} {w : World} {b : Nat} {L : List It} {I : List WI} {g : Int} {iv qv : Value} (h : QR Zz eIt T0 F w b L I g iv qv) (hn : I.length ≤ 1000000) (n : Int) :
    Calls Try.prog 57 #[.pointer (some ⟨b, 34, none⟩), .int .i64 n] w fun e w' => e = .returned (.pointer ((findB I n).map (fun b => ⟨b, 0, none⟩))) ∧ w = w' := by
  have hc : w.cell? ⟨b, 35, none⟩ = some qv := by rw [cell_of_row w b 35 _ _ _ h.blk]; exact qget1 _ _ _ _
  obtain ⟨A, c, rfl, hAc, hat⟩ := h.wp.at_
  have HAT := hid hat
  have H := hid h
  clear hat h
  go_enter Try.func57, Try.ntmps57
  go_wp2_with fail
  go_loopg [12] (I.length + 1) (fun m v wr => ∃ i : Nat, v = .int .i64 i ∧ i ≤ I.length ∧ m = I.length + 1 - i ∧ wr = w ∧ ∀ j x, j < i → I[j]? = some x → (x.n == n) = false)
  case atStart => exact ⟨0, rfl, Nat.zero_le _, rfl, rfl, fun j x hj => by omega⟩
  case round =>
    obtain ⟨i, rfl, hi, hm, hw, hno⟩ := hrel
    subst hw
    have HN := hid hm
    have HNO := hid hno
    clear hm hno
    by_cases h1 : i < I.length
    · obtain ⟨x, hx⟩ : ∃ x, I[i]? = some x := ⟨_, List.getElem?_eq_getElem h1⟩
      obtain ⟨b', off, rfl, hb, hcc⟩ := HAT.out i x hx
      have k0 : wr.cell? ⟨b', off + i, none⟩ = some (ptrV x.wb) := by have := hcc 0 _ rfl; simpa [eWI] using this
      have hwk := H.out.wk x (List.mem_of_getElem? hx)
      have k1 : wr.cell? ⟨x.wb, 0, none⟩ = some (.int .i64 x.n) := by rw [cell_of_row _ _ 0 _ _ _ hwk.2.1]; rfl
      have HX := hid hx
      clear hcc hx hwk
      cases q1 : (x.n == n)
      · go_wp2_with fail
        go_roundg (I.length + 1 - (i + 1))
        case measure => rw [HN.out]; omega
        case rel =>
          refine ⟨i + 1, by go_num, by omega, rfl, rfl, fun j y hj hy => ?_⟩
          rcases Nat.lt_succ_iff_lt_or_eq.1 hj with hj | rfl
          · exact HNO.out j y hj hy
          · rw [HX.out] at hy; cases hy; exact q1
      · have hp : findB I n = some x.wb := by
          have : I.find? (fun x => decide (x.n = n)) = some x := by
            obtain ⟨hi2, he⟩ := List.getElem?_eq_some_iff.1 HX.out
            rw [List.find?_eq_some_iff_getElem]
            refine ⟨by simpa using q1, i, hi2, he, fun j hj => ?_⟩
            have := HNO.out j _ hj (List.getElem?_eq_getElem (by omega))
            simpa using this
          unfold findB
          rw [this]
          rfl
        have HP := hid hp
        clear hp
        go_wp2_with fail
        go_ret
        exact ⟨by rw [HP.out]; rfl, rfl⟩
    · have hp : findB I n = none := by
        have : I.find? (fun x => decide (x.n = n)) = none := by
          rw [List.find?_eq_none]
          intro x hx
          obtain ⟨j, hj, rfl⟩ := List.mem_iff_getElem.1 hx
          have := HNO.out j _ (by omega) (List.getElem?_eq_getElem hj)
          simpa using this
        unfold findB
        rw [this]
        rfl
      have HP := hid hp
      clear hp
      go_wp2_with fail
      go_ret
      exact ⟨by rw [HP.out]; rfl, rfl⟩

theorem fit_any {F : Nat → Prop} {w : World} {b : Nat} {s : QS} (h : QAt Zz F w b s) (hn : s.ws.length ≤ 1000000) (n : Int) :
    Calls Try.prog 59 #[.pointer (some ⟨b, 34, none⟩), .int .i64 n] w fun e w' => e = .returned (.int .i64 (s.fit n)) ∧ w = w' := by
  obtain ⟨I, iv, qv, hR, hws⟩ := h
  have hIl : I.length ≤ 1000000 := by rw [hws] at hn; simpa [wsOf] using hn
  have hfd := find_any hR hIl n
  have hg := aget_ws n I
  rw [← hws] at hg
  unfold findB at hfd
  by_cases h1 : n < 1
  · have he : s.fit n = 1 := by simp [QS.fit, h1]
    have HE := hid he
    clear he hg hfd
    go_enter Try.func59, Try.ntmps59
    go_wp2_with fail
    go_ret
    exact ⟨by rw [HE.out]; rfl, rfl⟩
  · cases hf : I.find? (fun x => decide (x.n = n)) with
    | none =>
      rw [hf] at hfd hg
      simp only [Option.map_none] at hfd hg
      have he : s.fit n = 0 := by simp [QS.fit, h1, prepd, hg]
      have HE := hid he
      have HFD := hid hfd
      clear he hg hfd hf
      go_enter Try.func59, Try.ntmps59
      go_wp2_with fail
      refine HFD.out.mono ?_
      rintro e w1 ⟨rfl, rfl⟩
      go_wp2_with fail
      go_ret
      exact ⟨by rw [HE.out]; rfl, rfl⟩
    | some x =>
      have hx := hR.wk x (List.mem_of_find?_eq_some hf)
      have k2 : w.cell? ⟨x.wb, 2, none⟩ = some (.bool x.p) := by rw [cell_of_row _ _ 2 _ _ _ hx.2.1]; rfl
      rw [hf] at hfd hg
      simp only [Option.map_some] at hfd hg
      have he : s.fit n = if x.p then 7 else 0 := by simp [QS.fit, h1, prepd, hg]
      have HE := hid he
      have HFD := hid hfd
      clear he hg hfd hf hx
      cases hp : x.p
      all_goals
        rw [hp] at k2 HE
        go_enter Try.func59, Try.ntmps59
        go_wp2_with fail
        refine HFD.out.mono ?_
        rintro e w1 ⟨rfl, rfl⟩
        go_wp2_with fail
        go_ret
        exact ⟨by rw [HE.out]; rfl, rfl⟩
theorem fit_nil (n : Int) (w : World) : Calls Try.prog 59 #[.pointer none, .int .i64 n] w fun e w' => e = .returned (.int .i64 6) ∧ w = w' := by
  go_enter Try.func59, Try.ntmps59
  go_wp2_with fail
  go_ret
  exact ⟨rfl, rfl⟩
theorem decided_any (b : Nat) (n : Int) (w : World) : Calls Try.prog 71 #[.pointer (some ⟨b, 34, none⟩), .int .i64 n] w fun e w' => e = .returned (.int .i64 (if n < 1 then 1 else 0)) ∧ w = w' := by
  by_cases h1 : n < 1
  · go_enter Try.func71, Try.ntmps71
    go_wp2_with fail
    go_ret
    exact ⟨by first | rfl | (rw [if_pos h1]; rfl), rfl⟩
  · go_enter Try.func71, Try.ntmps71
    go_wp2_with fail
    go_ret
    exact ⟨by first | rfl | (rw [if_neg (by omega)]; rfl), rfl⟩
theorem decided_nil (n : Int) (w : World) : Calls Try.prog 71 #[.pointer none, .int .i64 n] w fun e w' => e = .returned (.int .i64 6) ∧ w = w' := by
  go_enter Try.func71, Try.ntmps71
  go_wp2_with fail
  go_ret
  exact ⟨rfl, rfl⟩
theorem next_any {F : Nat → Prop} {w : World} {b : Nat} {s : QS} (h : QAt Zz F w b s) (hg0 : 0 ≤ s.gv) (hg1 : s.gv ≤ 4611686018427387904) :
    Calls Try.prog 40 #[.pointer (some ⟨b, 34, none⟩)] w fun e w' => e = .returned (.int .i64 (s.gv + 1)) ∧ w = w' := by
  obtain ⟨I, iv, qv, hR, hws⟩ := h
  have hc : w.cell? ⟨b, 36, none⟩ = some (.int .i64 s.gv) := by rw [cell_of_row w b 36 _ _ _ hR.blk]; exact qget2 _ _ _ _
  have hw : wrap64 (s.gv + 1) = s.gv + 1 := by unfold wrap64; omega
  go_enter Try.func40, Try.ntmps40
  go_wp2_with fail
  go_ret
  exact ⟨by first | rfl | (simp [hw]), rfl⟩
theorem next_nil (w : World) : Calls Try.prog 40 #[.pointer none] w fun e w' => e = .returned (.int .i64 0) ∧ w = w' := by
  go_enter Try.func40, Try.ntmps40
  go_wp2_with fail
  go_ret
  exact ⟨rfl, rfl⟩
theorem busy_any {F : Nat → Prop} {w : World} {b : Nat} {s : QS} (h : QAt Zz F w b s) (hn : s.ws.length ≤ 1000000) (n : Int) :
    Calls Try.prog 37 #[.pointer (some ⟨b, 34, none⟩), .int .i64 n] w fun e w' => e = .returned (.bool (s.busy n)) ∧ w = w' := by
  obtain ⟨I, iv, qv, hR, hws⟩ := h
  have hIl : I.length ≤ 1000000 := by rw [hws] at hn; simpa [wsOf] using hn
  have hfd := find_any hR hIl n
  have hb : s.busy n = (findB I n).isSome := by
    unfold QS.busy findB
    rw [hws, aget_ws]
    cases I.find? (fun x => decide (x.n = n)) <;> rfl
  have HB := hid hb
  clear hb
  cases hf : findB I n with
  | none =>
    rw [hf] at hfd HB
    simp only [Option.map_none, Option.isSome_none] at hfd HB
    go_enter Try.func37, Try.ntmps37
    go_wp2_with fail
    refine hfd.mono ?_
    rintro e w1 ⟨rfl, rfl⟩
    go_wp2_with fail
    go_ret
    exact ⟨by rw [HB.out]; rfl, rfl⟩
  | some x =>
    rw [hf] at hfd HB
    simp only [Option.map_some, Option.isSome_some] at hfd HB
    go_enter Try.func37, Try.ntmps37
    go_wp2_with fail
    refine hfd.mono ?_
    rintro e w1 ⟨rfl, rfl⟩
    go_wp2_with fail
    go_ret
    exact ⟨by rw [HB.out]; rfl, rfl⟩
theorem busy_nil (n : Int) (w : World) : Calls Try.prog 37 #[.pointer none, .int .i64 n] w fun e w' => e = .returned (.bool false) ∧ w = w' := by
  go_enter Try.func37, Try.ntmps37
  go_wp2_with fail
  go_ret
  exact ⟨rfl, rfl⟩
theorem putsL_take {l : List Ch} {i : Nat} {y : Ch} (hy : l[i]? = some y) : putsL (l.take (i + 1)) = putsL (l.take i) + (if y.kind == 3 then 1 else 0) := by
  have h1 := (List.getElem?_eq_some_iff.1 hy).1
  have h2 := (List.getElem?_eq_some_iff.1 hy).2
  rw [List.take_succ_eq_append_getElem h1, putsL_append, h2]
  rfl
set_option maxRecDepth 100000 in
set_option maxHeartbeats 2000000 in
theorem puts_any (A : Option Addr) (l : List Ch) (c B : Nat) (w : World) (hl : ChAt w B A l) (hB : B ≤ w.heap.size) (hn : l.length ≤ 1000000) :
    Calls Try.prog 76 #[.slice A l.length c] w fun e w' => e = .returned (.int .i64 (putsL l)) ∧ Below w.heap.size w w' := by
  go_enter Try.func76, Try.ntmps76
  go_wp2_with fail
  go_loopg [3, 8] (l.length + 1) (fun m v3 v8 wr => ∃ i : Nat, v3 = .int .i64 (putsL (l.take i)) ∧ v8 = .int .i64 i ∧ i ≤ l.length ∧ m = l.length + 1 - i ∧ Below w.heap.size w wr)
  case atStart => exact ⟨0, rfl, rfl, Nat.zero_le _, rfl, Below.refl _ _⟩
  case round =>
    obtain ⟨i, rfl, rfl, hi, hm, hb⟩ := hrel
    have HN := hid hm
    clear hm
    by_cases h1 : i < l.length
    · obtain ⟨y, hy⟩ : ∃ y, l[i]? = some y := ⟨_, List.getElem?_eq_getElem h1⟩
      obtain ⟨b', off, rfl, hbb, hcc⟩ := (hl.below (hb.mono hB)) i y hy
      have k0 : wr.cell? ⟨b', off + i * 3, none⟩ = some (.int .i64 y.kind) := hcc 0 _ rfl
      have k1 := hcc 1 _ rfl
      have k2 := hcc 2 _ rfl
      have hst := putsL_take hy
      have hle : putsL (l.take i) ≤ 1000000 := by have := putsL_le (l.take i); rw [List.length_take] at this; omega
      have hba : Below w.heap.size w (wr.alloc (.cells #[.int .i64 y.kind, .int .i64 y.key, .int .u64 y.val] 62)) := hb.alloc hb.size _
      have HST := hid hst
      have HBA := hid hba
      clear hcc hy hst hba
      generalize putsL (l.take i) = P at *
      cases q : (y.kind == 3)
      · go_wp2_with fail
        go_roundg (l.length + 1 - (i + 1))
        case measure => rw [HN.out]; omega
        case rel => exact ⟨i + 1, by rw [HST.out, q]; rfl, by go_num, by omega, rfl, HBA.out⟩
      · go_wp2_with fail
        go_roundg (l.length + 1 - (i + 1))
        case measure => rw [HN.out]; omega
        case rel => exact ⟨i + 1, by rw [HST.out, q]; go_num, by go_num, by omega, rfl, HBA.out⟩
    · have : i = l.length := by omega
      subst this
      have HT := hid (congrArg putsL (List.take_length (l := l)))
      go_wp2_with fail
      go_ret
      exact ⟨by rw [← HT.out]; rfl, hb⟩
theorem wr64 {n : Int} (h0 : -9223372036854775808 ≤ n) (h1 : n ≤ 9223372036854775807) : IntKind.i64.wrap n = n := by
  unfold IntKind.wrap
  simp [IntKind.bits, IntKind.signed]
  omega
theorem st_step {p : Addr} {u : Value} {w0 w1 w2 : World} (hb : Below w1.heap.size w1 w2) (h : w1.cell? p = some u ∧ Below w0.heap.size w0 w1) : w2.cell? p = some u ∧ Below w0.heap.size w0 w2 :=
  ⟨(hb.cell (World.block_lt_of_cell? _ _ h.1)).trans h.1, h.2.trans (hb.mono h.2.size)⟩
theorem putsW_take {I : List WI} {i : Nat} {y : WI} (hy : I[i]? = some y) : putsW (wsOf (I.take (i + 1))) = putsW (wsOf (I.take i)) + putsL y.l := by
  have h1 := (List.getElem?_eq_some_iff.1 hy).1
  have h2 := (List.getElem?_eq_some_iff.1 hy).2
  rw [List.take_succ_eq_append_getElem h1, wsOf, List.map_append, putsW_append, h2]
  rfl
theorem putsW_pre (I : List WI) (i : Nat) : putsW (wsOf (I.take i)) ≤ putsW (wsOf I) := by
  have : putsW (wsOf I) = putsW (wsOf (I.take i)) + putsW (wsOf (I.drop i)) := by
    rw [← putsW_append]
    unfold wsOf
    rw [← List.map_append, List.take_append_drop]
  omega
set_option maxRecDepth 100000 in
set_option maxHeartbeats 2000000 in
theorem room_any {F : Nat → Prop} {w : World} {b : Nat} {s : QS} (h : QAt Zz F w b s) (hb : s.Bd) :
    Calls Try.prog 60 #[.pointer (some ⟨b, 34, none⟩)] w fun e w' => e = .returned (.int .i64 s.room) ∧ Below w.heap.size w w' := by
  have hat0 := h
  obtain ⟨I, iv, qv, hR, hws⟩ := h
  obtain ⟨hb1, hb2, hb3, hb4, hb5, hb6, hb7⟩ := hb
  have hIl : I.length ≤ 1000 := by rw [hws] at hb3; simpa [wsOf] using hb3
  have hc : w.cell? ⟨b, 35, none⟩ = some qv := by rw [cell_of_row w b 35 _ _ _ hR.blk]; exact qget1 _ _ _ _
  obtain ⟨A, c, rfl, hAc, hat⟩ := hR.wp.at_
  have HAT := hid hat
  have HR := hid hR
  have HWS := hid hws
  have HLS := hid hb4
  rw [hws] at hb5
  clear hat hR hws hb4
  go_enter Try.func60, Try.ntmps60
  go_wp2_with fail
  go_loopg [3, 11] (I.length + 1) (fun m v3 v11 wr => ∃ i : Nat, v3 = .int .i64 (putsW (wsOf (I.take i))) ∧ v11 = .int .i64 i ∧ i ≤ I.length ∧ m = I.length + 1 - i ∧ Below w.heap.size w wr)
  case atStart => exact ⟨0, rfl, rfl, Nat.zero_le _, rfl, Below.refl _ _⟩
  case round =>
    obtain ⟨i, rfl, rfl, hi, hm, hbl⟩ := hrel
    have HN := hid hm
    clear hm
    have hRr := HR.out.below hbl
    by_cases h1 : i < I.length
    · obtain ⟨x, hx⟩ : ∃ x, I[i]? = some x := ⟨_, List.getElem?_eq_getElem h1⟩
      obtain ⟨b', off, rfl, hbb, hcc⟩ := (HAT.out.below hbl) i x hx
      have k0 : wr.cell? ⟨b', off + i, none⟩ = some (ptrV x.wb) := by have := hcc 0 _ rfl; simpa [eWI] using this
      have hwk := hRr.wk x (List.mem_of_getElem? hx)
      obtain ⟨A2, c2, hv2, hc2, hat2⟩ := hwk.2.2.1.at_
      have k1 : wr.cell? ⟨x.wb, 1, none⟩ = some (.slice A2 x.l.length c2) := by rw [cell_of_row _ _ 1 _ _ _ hwk.2.1, ← hv2]; rfl
      have hxl : x.l.length ≤ 1000 := HLS.out (x.n, ⟨x.l, x.p⟩) (by rw [HWS.out]; exact List.mem_map.2 ⟨x, List.mem_of_getElem? hx, rfl⟩)
      have hst := putsW_take hx
      have hle := putsW_pre I i
      have hle2 := putsL_le x.l
      have HP := hid (puts_any A2 x.l c2 _ wr hat2 (Nat.le_refl _) (by omega))
      have HST := hid hst
      clear hcc hx hwk hat2 hst hv2 hRr
      generalize putsW (wsOf (I.take i)) = P at *
      generalize putsL x.l = Q at *
      go_wp2_with fail
      refine HP.out.mono ?_
      rintro e w2 ⟨rfl, f2⟩
      go_wp2_with fail
      go_roundg (I.length + 1 - (i + 1))
      case measure => rw [HN.out]; omega
      case rel => exact ⟨i + 1, by rw [HST.out]; go_num, by go_num, by omega, rfl, hbl.trans (f2.mono hbl.size)⟩
    · have : i = I.length := by omega
      subst this
      have hq : putsW (wsOf (I.take I.length)) = putsW s.ws := by rw [HWS.out, List.take_length]
      rw [← HWS.out] at hb5
      obtain ⟨A3, c3, hv3, hc3, hat3⟩ := hRr.it.at_
      have k0 : wr.cell? ⟨b, 34, none⟩ = some (.slice A3 s.its.length c3) := by rw [cell_of_row wr b 34 _ _ _ hRr.blk, ← hv3]; exact qget0 _ _ _ _
      have HNX := hid (fun w' (f : Below wr.heap.size wr w') => next_any ((hat0.below hbl).below f) hb6 hb7)
      have HQ := hid hq
      have hroom : s.room = min (16 - (s.its.length : Int) - putsW s.ws) (4611686018427387904 - (s.gv + 1) - putsW s.ws) := rfl
      have HROOM := hid hroom
      rw [hq]
      clear hq hroom hat3 hv3 hRr HQ
      generalize putsW s.ws = P at *
      generalize s.gv = gv at *
      generalize s.its.length = ln at *
      go_wp2_with fail
      have hS : wr.cell? ⟨b, 34, none⟩ = some (.slice A3 ln c3) ∧ Below wr.heap.size wr wr := ⟨k0, Below.refl _ _⟩
      clear k0
      have w1 : IntKind.i64.wrap (16 - (ln : Int)) = 16 - ln := wr64 (by omega) (by omega)
      have w2 : IntKind.i64.wrap (16 - (ln : Int) - (P : Int)) = 16 - ln - P := wr64 (by omega) (by omega)
      have w3 : IntKind.i64.wrap (4611686018427387904 - (gv + 1)) = 4611686018427387904 - (gv + 1) := wr64 (by omega) (by omega)
      have w4 : IntKind.i64.wrap (4611686018427387904 - (gv + 1) - (P : Int)) = 4611686018427387904 - (gv + 1) - P := wr64 (by omega) (by omega)
      go_region_held3 (fun w' => w'.cell? ⟨b, 34, none⟩ = some (.slice A3 ln c3) ∧ Below wr.heap.size wr w') (first | exact st_step (bd1 _) (by assumption) | exact st_step (bdN _ _) (by assumption) | exact st_step (by assumption) (by assumption) | assumption) (first
        | (go_at_call 40; refine (HNX.out _ ((by assumption : _ ∧ Below wr.heap.size wr _).2)).mono ?_; rintro e w4 ⟨rfl, rfl⟩))
      all_goals
        go_wp2_with fail
      all_goals
        go_ret
        refine ⟨?_, hbl.trans ((by assumption : _ ∧ Below wr.heap.size wr _).2.mono hbl.size)⟩
        rw [HROOM.out]
        show Ending.returned (Value.int .i64 _) = _
        congr 2
        omega
end Go.Proofs.Ytdejbinmnoabeaa.Q
